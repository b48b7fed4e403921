/-
  CONTRACTS of the law of verdicts: its bounds, its sample, awake.
  THE VERDICTS OF ALL ASSERTIONS; what a machine and the reference's run show (plain).
  THE LAWS VerifyProofs, VerifyTheorems return true.
-/
import Derived.Test.YtneapgbkkkjagaaGreatDoorXAE
set_option maxHeartbeats 8000000
set_option maxRecDepth 100000
namespace Go.Proofs.YtneapgbkkkjagaaGreatDoor
open Go.Proofs.Tryz (prog)
open Go.RowKit
theorem Zio:Zdd prog 59 [.string ⟨#[]⟩,.bool false,.slice none 0 0,.slice none 0 0,.slice none 0 0,.slice none 0 0,.slice none 0 0,.slice none 0 0]:=⟨fun i=>(#[(0,1),(1,1),(2,1),(3,1),(4,1),(5,1),(6,1),(7,1)]:Array (Nat×Nat))[i]?,fun j hj=>by rcases j with _ | _ | _ | _ | _ | _ | _ | _ | j<;>first | rfl | (simp at hj;omega),fun parts=>by kernel_rfl⟩
theorem Za2:ZpL prog 66:=fun ad k c p q=>by kernel_rfl
theorem ZtM:prog.underlying 3=some (.int .i64):=by kernel_rfl
theorem ZtN:prog.underlying 30=some (.int .i64):=by kernel_rfl
theorem ZmA:(prog.fieldsOf 32).toList=[{ name:= "Code",type:=30,offset:=0,embedded:=false,tag:= "",pkgPath:= "",byteOffset:=0 }, { name:= "Step",type:=3,offset:=1,embedded:=false,tag:= "",pkgPath:= "",byteOffset:=8 }]:=by kernel_rfl
theorem Zmz:prog.underlying 32=some (.struct (prog.fieldsOf 32)):=by kernel_rfl
theorem Zhn (c:Array Value) (i:Nat) (v:Value) (h:c[i]?=some v) (w:World):(part 3 c i).run prog w= .ok v w:=by
 simp[part,Tryz.isAgg3,h]
theorem Zho (c:Array Value) (i:Nat) (v:Value) (h:c[i]?=some v) (w:World):(part 30 c i).run prog w= .ok v w:=by
 simp[part,Tryz.isAgg30,h]
theorem eqVd:EqVd prog 32:=by
 intro a b c d w x y
 refine⟨by simp[eqGuard],by simp[eqGuard],?_⟩
 unfold Op.equal Op.maxDepth
 rw[run_equalIn_struct w 9999 32 _ _ Zmz (by kernel_rfl),ZmA]
 have e1:=fun(c:Array Value) (v:Value) (i:Nat) (h:c[i]?=some v)=>Zho c i v h
 have e2:=fun(c:Array Value) (v:Value) (i:Nat) (h:c[i]?=some v)=>Zhn c i v h
 have q1:(Op.equalIn 9999 30 (.int .i64 a) (.int .i64 c)).run prog w= .ok (decide (a=c)) w:=run_equalIn_int w 9998 30 .i64 .i64 a c ZtN
 have q2:(Op.equalIn 9999 3 (.int .i64 b) (.int .i64 d)).run prog w= .ok (decide (b=d)) w:=run_equalIn_int w 9998 3 .i64 .i64 b d ZtM
 simp only[Op.eqFields]
 rw[if_pos (by decide),if_pos (by decide)]
 simp only[Sem.run_bind]
 rw[e1 _ (.int .i64 a) 0 rfl w,Result.andThen_ok,e1 _ (.int .i64 c) 0 rfl w,Result.andThen_ok,q1,Result.andThen_ok]
 by_cases h1:a=c
 · simp only[h1,decide_true,Bool.not_true,Bool.false_eq_true,if_false,Sem.run_bind]
   rw[e2 _ (.int .i64 b) 1 rfl w,Result.andThen_ok,e2 _ (.int .i64 d) 1 rfl w,Result.andThen_ok,q2,Result.andThen_ok]
   by_cases h2:b=d
   · simp[h2,Sem.run_pure]
   · simp[h2,Sem.run_pure]
 · simp[h1,Sem.run_pure]
theorem Zhg {J:World→Prop} (hJ:Stab J) (h0:Hy)  :Fn prog J 28 [.agg (hyC h0)] (.bool (Zi6 h0)):=by
 refine Zo (N:=7) Tryz.func28 rfl rfl (lb rfl) fun S w0 hS hJ0=>?_
 clear hJ0
 refine hqs tb hJ [1000] [.ptr (hyC h0),_] [0] [_] rfl ⟨fun _ _ hk hx hl _=>Yq rfl (hl.env 0 0 _ rfl rfl) (hS _ hk.size) (js hJ hx),trivial⟩ ?_
 refine hqs tb hJ [1001,1004] [_,_,.int (h0.text.length:Nat),_,_] [2] [_,_] rfl ⟨Z3 Zm,trivial⟩ ?_
 refine ln 0 fun hl1=>?_
 exact Ze (rtn (m:=1) rfl rfl (eB (rfl)))
theorem Zmx {J:World→Prop} (hJ:Stab J) (s:BA)  :Fn prog J 30 [.str s] (.bool (Zp5 s)):=by
 refine Zo (N:=6) Tryz.func30 rfl rfl (lb rfl) fun S w0 hS hJ0=>?_
 clear hJ0
 refine qs tb hJ [0] [_] [_] ?_
 refine hqs tb hJ [1003] [_,.int (s.size:Nat),_,_] [1] [_] rfl ⟨ZlS ZQ,trivial⟩ ?_
 exact Ze (rtn (m:=0) rfl rfl (eB (rfl)))
theorem ZpV {J:World→Prop} (hJ:Stab J) (f:Fr) (m:Int)  :Fn prog J 27 [.agg (frC f),.ptr [lI m]] (.bool (ZoD m f)):=by
 refine Zo (N:=57) Tryz.func27 rfl rfl (lb rfl) fun S w0 hS hJ0=>?_
 clear hJ0
 refine hqs tb hJ [1,1000] [.ptr (frC f),_] [0] [_,_] rfl ⟨fun _ _ hk hx hl _=>Yq rfl (hl.env 0 0 _ rfl rfl) (hS _ hk.size) (js hJ hx),trivial⟩ ?_
 refine qs tb hJ [0,1,1000] [_] U3 ?_
 refine hqs tb hJ [1001,1052] [_,_,.int (f.proof.length:Nat),_,_,_,_,_,.int (f.text.length:Nat),_,_,_,_,_,.int (f.hyps.length:Nat),_,_,_,_,_,.int (f.dummies.length:Nat),_,_,_,_,_,.int (f.apart.length:Nat),_,_,_,_,_,.int (f.wide.length:Nat),_,_,_,_,_,_,.bool (f.hyps.any Zi6),_,_,_,_,_,.bool (f.dummies.any Zi6),_,_,_,_,.bool (f.proof.any Zp5),_,_] [2,8,14,20,26,32,39,45,50] [_,_] rfl ⟨Z3 Zm,Z3 Zm,Z3 Zx,Z3 Zx,Z3 ZK,Z3 ZK,fun _ _ hk hx hl hc=>Xl (Qm hJ f.hyps 28 [] [] Zi6 (fun q'=>(Zhg hJ q').rr) (Zpm)) ZgS rfl (nm hS hk) (hx) Zy (Za (hl.D 37 42 rfl hc) (Za (hl.D 38 43 rfl hc) Zh)) (js hJ hx),fun _ _ hk hx hl hc=>Xl (Qm hJ f.dummies 28 [] [] Zi6 (fun q'=>(Zhg hJ q').rr) (Zpm)) ZgS rfl (nm hS hk) (hx) Zy (Za (hl.D 43 48 rfl hc) (Za (hl.D 44 49 rfl hc) Zh)) (js hJ hx),fun _ _ hk hx hl hc=>Xl (YM hJ f.proof 30 [] [] Zp5 (fun q'=>(Zmx hJ q').rr) (ZvU)) ZdL rfl (nm hS hk) (hx) Zy (Za (hl.D 49 54 rfl hc) (Za (Q3 30) Zh)) (js hJ hx),trivial⟩ ?_
 refine ln 0 fun hl1=>?_
 exact Ze (rtn (m:=1) rfl rfl (eB (rfl)))
theorem ZtE {J:World→Prop} (hJ:Stab J) (d:Db) (n:Int) (m:Int)  :Fn prog J 6 [.agg (dbC d),.int n,.int m] (.bool (Zfw d n m)):=by
 refine Zo (N:=31) Tryz.func6 rfl rfl (lb rfl) fun S w0 hS hJ0=>?_
 clear hJ0
 refine hqs tb hJ [1,1000,1001] [.ptr (dbC d),.ptr [lI m],_] [0,1] U3 rfl ⟨fun _ _ hk hx hl _=>Yq rfl (hl.env 0 0 _ rfl rfl) (hS _ hk.size) (js hJ hx),fun _ _ hk hx hl _=>Zcj rfl (hl.env 2 2 _ rfl rfl) (hS _ hk.size) (js hJ hx),trivial⟩ ?_
 refine hqs tb hJ [1001,1024] [_,_,.int (d.frames.length:Nat),_,_,_,_,_,.int (d.consts.length:Nat),_,_,_,_,_,.int (d.vars.length:Nat),_,_,_,_,_,.fn 27 [.ptr [lI m]],.bool (d.frames.any (ZoD m)),_,_,_] [2,8,14,20,21] [_,_] rfl ⟨Z3 X9,Z3 Zm,Z3 Zm,fun _ _ _ hx hl _=>XN (caps:=[(.tmp 5)]) rfl (Za (hl.env 2 5 _ rfl rfl) Zh) hx,fun _ _ hk hx hl hc=>Xl (Zes hJ d.frames 27 [.ptr [lI m]] [] (ZoD m) (fun q'=>(ZpV hJ q' m).rr) (ZvV)) ZvW rfl (nm hS hk) (hx) Zy (Za (hl.D 19 26 rfl hc) (Za (hl.D 20 27 rfl hc) Zh)) (js hJ hx),trivial⟩ ?_
 refine ln 0 fun hl1=>?_
 exact Ze (rtn (m:=1) rfl rfl (eB (rfl)))
theorem ZpU {J:World→Prop} (hJ:Stab J) (p:List BA)  :Fn prog J 32 [.rd (Zg p)] (.agg (dbC (Y0 p))):=by
 refine Zo (N:=26) Tryz.func32 rfl rfl (lb rfl) fun S w0 hS hJ0=>?_
 refine tw Z1 ?_
 refine ln 0 fun hl1=>?_
 refine tsq ?_
 refine Z2 ZiC hJ rfl rfl rfl (lb rfl) fun b1=>?_
 refine seK [0,1] [_,_] rfl ?_
 refine nx (tsq ?_)
 refine sq (.rd (Zg ([Zwi,phT]:List BA))) rfl rfl (lb rfl) (fun a _ h=>Xz (k:=2) (us:=[a.eval (.const (.string { data:= #[119,102,102] })),a.eval (.const (.string { data:= #[112,104] }))]) Zd XW rfl (by simp) (Zk (Rel.of_lit (.string { data:= #[119,102,102] }) (lb rfl)) (Zk (Rel.of_lit (.string { data:= #[112,104] }) (lb rfl)) ZJ)) rfl (by decide) (by decide) (Zp hS _ h.keep h.x _ (Nat.le_refl _)) (jo hJ h.x)) ?_
 refine sq (.agg (hyC (ZiL))) rfl rfl (lb rfl) (fun a _ h=>Xp (us:=[a.eval (.const (.string { data:= #[119,112,104] })),a.eval (.const (.bool true)),a.eval (.tmp 6)]) ZfX rfl (by simp) (Zk (Rel.of_lit (.string { data:= #[119,112,104] }) (lb rfl)) (Zk (Rel.of_lit (.bool true)) (Zk (h.get 0 rfl) ZJ))) rfl h.x) ?_
 refine sq (.rd (Zg ([Zwi,psT]:List BA))) rfl rfl (lb rfl) (fun a _ h=>Xz (k:=2) (us:=[a.eval (.const (.string { data:= #[119,102,102] })),a.eval (.const (.string { data:= #[112,115] }))]) Zd XW rfl (by simp) (Zk (Rel.of_lit (.string { data:= #[119,102,102] }) (lb rfl)) (Zk (Rel.of_lit (.string { data:= #[112,115] }) (lb rfl)) ZJ)) rfl (by decide) (by decide) (Zp hS _ h.keep h.x _ (Nat.le_refl _)) (jo hJ h.x)) ?_
 refine sq (.agg (hyC (ZiK))) rfl rfl (lb rfl) (fun a _ h=>Xp (us:=[a.eval (.const (.string { data:= #[119,112,115] })),a.eval (.const (.bool true)),a.eval (.tmp 8)]) ZfX rfl (by simp) (Zk (Rel.of_lit (.string { data:= #[119,112,115] }) (lb rfl)) (Zk (Rel.of_lit (.bool true)) (Zk (h.get 0 rfl) ZJ))) rfl h.x) ?_
 refine Z2 YI hJ rfl rfl rfl (lb rfl) fun b2=>?_
 refine Z2 YI hJ rfl rfl rfl (lb rfl) fun b3=>?_
 refine kw pm1 ?_
 refine ZD (b:=b2) (off:=0) (es:=U3) (news:=U3) hJ hJ0 YL rfl rfl rfl (lb rfl) rfl (fun a w h=>⟨(h.get 1 rfl),(h.get 4 rfl)⟩) ?_
 refine kw pm1 ?_
 refine ZD (b:=b3) (off:=0) (es:=U3) (news:=U3) hJ hJ0 YL rfl rfl rfl (lb rfl) rfl (fun a w h=>⟨(h.get 0 rfl),(h.get 2 rfl)⟩) ?_
 refine seK [0,1,3,5,6,7] U6 rfl ?_
 refine nx (ln 2 fun hl2=>?_)
 refine ln 3 fun hl3=>?_
 refine ZG tb hJ [0,1,4,5,1000,1001] [.rd (Zg (smTx)),_] [0] U6 rfl ⟨fun a _ hk hx _ _=>Xz (k:=10) (us:=[a.eval (.const (.string { data:= #[124,45] })),a.eval (.const (.string { data:= #[40] })),a.eval (.const (.string { data:= #[112,104] })),a.eval (.const (.string { data:= #[45,62] })),a.eval (.const (.string { data:= #[40] })),a.eval (.const (.string { data:= #[112,115] })),a.eval (.const (.string { data:= #[45,62] })),a.eval (.const (.string { data:= #[112,104] })),a.eval (.const (.string { data:= #[41] })),a.eval (.const (.string { data:= #[41] }))]) Zd XW rfl (by simp) (Zk (Rel.of_lit (.string { data:= #[124,45] }) (lb rfl)) (Zk (Rel.of_lit (.string { data:= #[40] }) (lb rfl)) (Zk (Rel.of_lit (.string { data:= #[112,104] }) (lb rfl)) (Zk (Rel.of_lit (.string { data:= #[45,62] }) (lb rfl)) (Zk (Rel.of_lit (.string { data:= #[40] }) (lb rfl)) (Zk (Rel.of_lit (.string { data:= #[112,115] }) (lb rfl)) (Zk (Rel.of_lit (.string { data:= #[45,62] }) (lb rfl)) (Zk (Rel.of_lit (.string { data:= #[112,104] }) (lb rfl)) (Zk (Rel.of_lit (.string { data:= #[41] }) (lb rfl)) (Zk (Rel.of_lit (.string { data:= #[41] }) (lb rfl)) ZJ)))))))))) rfl (by decide) (by decide) (Zp hS _ hk hx _ (Nat.le_refl _)) (jo hJ hx),trivial⟩ ?_
 refine ln 4 fun hl4=>?_
 refine tsq ?_
 refine sq (.rd (Zg ([Zwi,tuT,opT,clT,arT]:List BA))) rfl rfl (lb rfl) (fun a _ h=>Xz (k:=5) (us:=[a.eval (.const (.string { data:= #[119,102,102] })),a.eval (.const (.string { data:= #[124,45] })),a.eval (.const (.string { data:= #[40] })),a.eval (.const (.string { data:= #[41] })),a.eval (.const (.string { data:= #[45,62] }))]) Zd XW rfl (by simp) (Zk (Rel.of_lit (.string { data:= #[119,102,102] }) (lb rfl)) (Zk (Rel.of_lit (.string { data:= #[124,45] }) (lb rfl)) (Zk (Rel.of_lit (.string { data:= #[40] }) (lb rfl)) (Zk (Rel.of_lit (.string { data:= #[41] }) (lb rfl)) (Zk (Rel.of_lit (.string { data:= #[45,62] }) (lb rfl)) ZJ))))) rfl (by decide) (by decide) (Zp hS _ h.keep h.x _ (Nat.le_refl _)) (jo hJ h.x)) ?_
 refine sq (.rd (Zg ([phT,psT]:List BA))) rfl rfl (lb rfl) (fun a _ h=>Xz (k:=2) (us:=[a.eval (.const (.string { data:= #[112,104] })),a.eval (.const (.string { data:= #[112,115] }))]) Zd XW rfl (by simp) (Zk (Rel.of_lit (.string { data:= #[112,104] }) (lb rfl)) (Zk (Rel.of_lit (.string { data:= #[112,115] }) (lb rfl)) ZJ)) rfl (by decide) (by decide) (Zp hS _ h.keep h.x _ (Nat.le_refl _)) (jo hJ h.x)) ?_
 refine sy (.agg (hyC (ZiL))) (fun h=>YU (ds:=[lS ((ZiL).label),lB ((ZiL).floating),Zg ((ZiL).text)]) XS rfl (Zi h.x (mo 1 rfl)) (h.get 3 rfl) rfl rfl h.x) ?_
 refine sy (.agg (hyC (ZiK))) (fun h=>YU (ds:=[lS ((ZiK).label),lB ((ZiK).floating),Zg ((ZiK).text)]) XS rfl (Zi h.x (mo 0 rfl)) (h.get 3 rfl) rfl rfl h.x) ?_
 refine sq (.rd (Xm ([ZiL,ZiK]))) rfl rfl (lb rfl) (fun a _ h=>Zj6 (z:= #[.string ⟨#[]⟩,.bool false,.slice none 0 0]) (cs:=[hyC (ZiL),hyC (ZiK)]) (vs:=[a.eval (.tmp 13),a.eval (.tmp 14)]) Zq (fun w=>by kernel_rfl) rfl (by simp) (Za (h.get 1 rfl) (Za (h.get 0 rfl) Zh)) (of_decide_eq_true rfl) rfl (by decide) (by decide) (by decide) (Zp hS _ h.keep h.x _ (Nat.le_refl _)) (jo hJ h.x)) ?_
 refine snK 1 tb rfl ?_
 refine sq (.agg (frC (Zwk))) rfl rfl (lb rfl) (fun a _ h=>Yh (ps:=[(0,a.eval (.const (.string { data:= #[97,120,45,49] }))),(2,a.eval (.tmp 15)),(4,a.eval (.tmp 16))]) (us:=[a.eval (.const (.string { data:= #[97,120,45,49] })),.bool false,a.eval (.tmp 15),.slice none 0 0,a.eval (.tmp 16),.slice none 0 0,.slice none 0 0,.slice none 0 0]) Zio rfl (by simp) (Zcx (lb rfl) rfl (Zcx (lb rfl) (Rel.oneC (h.get 1 rfl)) (Zcx (lb rfl) (Rel.oneC (h.get 0 rfl)) Zdb))) rfl (Zk (Rel.of_lit (.string { data:= #[97,120,45,49] }) (lb rfl)) (YB (.lit _ True.intro) (Zk (h.get 1 rfl) (YB (.nil _ _ (Nat.zero_le _)) (Zk (h.get 0 rfl) (YB (.nil _ _ (Nat.zero_le _)) (YB (.nil _ _ (Nat.zero_le _)) (YB (.nil _ _ (Nat.zero_le _)) ZJ)))))))) h.x) ?_
 refine sy (.agg (hyC (ZiL))) (fun h=>YU (ds:=[lS ((ZiL).label),lB ((ZiL).floating),Zg ((ZiL).text)]) XS rfl (Zi h.x (mo 1 rfl)) (h.get 8 rfl) rfl rfl h.x) ?_
 refine sy (.agg (hyC (ZiK))) (fun h=>YU (ds:=[lS ((ZiK).label),lB ((ZiK).floating),Zg ((ZiK).text)]) XS rfl (Zi h.x (mo 0 rfl)) (h.get 8 rfl) rfl rfl h.x) ?_
 refine sq (.rd (Xm ([ZiL,ZiK]))) rfl rfl (lb rfl) (fun a _ h=>Zj6 (z:= #[.string ⟨#[]⟩,.bool false,.slice none 0 0]) (cs:=[hyC (ZiL),hyC (ZiK)]) (vs:=[a.eval (.tmp 18),a.eval (.tmp 19)]) Zq (fun w=>by kernel_rfl) rfl (by simp) (Za (h.get 1 rfl) (Za (h.get 0 rfl) Zh)) (of_decide_eq_true rfl) rfl (by decide) (by decide) (by decide) (Zp hS _ h.keep h.x _ (Nat.le_refl _)) (jo hJ h.x)) ?_
 refine snK 2 tb rfl ?_
 refine sq (.agg (frC (Zwj p))) rfl rfl (lb rfl) (fun a _ h=>Yh (ps:=[(0,a.eval (.const (.string { data:= #[116,104] }))),(1,a.eval (.const (.bool true))),(2,a.eval (.tmp 20)),(4,a.eval (.tmp 21)),(7,a.eval (.tmp 22))]) (us:=[a.eval (.const (.string { data:= #[116,104] })),a.eval (.const (.bool true)),a.eval (.tmp 20),.slice none 0 0,a.eval (.tmp 21),.slice none 0 0,.slice none 0 0,a.eval (.tmp 22)]) Zio rfl (by simp) (Zcx (lb rfl) rfl (Zcx (lb rfl) rfl (Zcx (lb rfl) (Rel.oneC (h.get 2 rfl)) (Zcx (lb rfl) (Rel.oneC (h.get 1 rfl)) (Zcx (lb rfl) (Rel.oneC (h.get 0 rfl)) Zdb))))) rfl (Zk (Rel.of_lit (.string { data:= #[116,104] }) (lb rfl)) (Zk (Rel.of_lit (.bool true)) (Zk (h.get 2 rfl) (YB (.nil _ _ (Nat.zero_le _)) (Zk (h.get 1 rfl) (YB (.nil _ _ (Nat.zero_le _)) (YB (.nil _ _ (Nat.zero_le _)) (Zk (h.get 0 rfl) ZJ)))))))) h.x) ?_
 refine sq (.rd (Zhd ([Zwk,(Zwj p)]))) rfl rfl (lb rfl) (fun a _ h=>Zj6 (z:= #[.string ⟨#[]⟩,.bool false,.slice none 0 0,.slice none 0 0,.slice none 0 0,.slice none 0 0,.slice none 0 0,.slice none 0 0]) (cs:=[frC (Zwk),frC (Zwj p)]) (vs:=[a.eval (.tmp 17),a.eval (.tmp 23)]) Z0 (fun w=>by kernel_rfl) rfl (by simp) (Za (h.get 6 rfl) (Za (h.get 0 rfl) Zh)) (of_decide_eq_true rfl) rfl (by decide) (by decide) (by decide) (Zp hS _ h.keep h.x _ (Nat.le_refl _)) (jo hJ h.x)) ?_
 refine sq (.agg (dbC (Y0 p))) rfl rfl (lb rfl) (fun a _ h=>Xp (us:=[a.eval (.tmp 11),a.eval (.tmp 12),a.eval (.tmp 24)]) Zmk rfl (by simp) (Zk (h.get 13 rfl) (Zk (h.get 12 rfl) (Zk (h.get 0 rfl) ZJ))) rfl h.x) ?_
 refine kw pm2 ?_
 refine ZD (b:=b1) (off:=0) (es:=U3) (news:=U3) hJ hJ0 Zm5 rfl rfl rfl (lb rfl) rfl (fun a w h=>⟨(h.get 17 rfl),(h.get 0 rfl)⟩) ?_
 refine seK [1,5,10,13,14,17] U6 rfl ?_
 refine nx (ln 0 fun hl5=>?_)
 refine ln 1 fun hl6=>?_
 refine ln 3 fun hl7=>?_
 refine ln 4 fun hl8=>?_
 exact Ze (fun a w h=>X1 (m:=5) rfl Zg7 h rfl rfl (show(_:List CD)=[Zg ((Y0 p).consts),Zg ((Y0 p).vars),Zhd ((Y0 p).frames)]from rfl))
theorem Zmw {J:World→Prop} (hJ:Stab J)  (hG:ZaL J):Fn prog J 9 [] (.bool true):=by
 refine Zo (N:=42) Tryz.func9 rfl rfl (lb rfl) fun S w0 hS hJ0=>?_
 refine tw Z1 ?_
 refine qso tb hJ [] [_] [] ?_
 refine Zf (Zf (Yu tb hJ [1000,1003,1006,1009,1012,1015,1016,1017] [.rd (Zg ([Zde,Zf6,Zbr]:List BA)),.agg (vdC (⟨0,0⟩:Int×Int)),.agg (exC (⟨([Zde,Zf6,Zbr]:List BA),(⟨0,0⟩:Int×Int)⟩:Exm)),.rd (Zg ([Zde,Zbr]:List BA)),.agg (vdC (⟨(23:Int),(1:Int)⟩:Int×Int)),.agg (exC (⟨([Zde,Zbr]:List BA),(⟨(23:Int),(1:Int)⟩:Int×Int)⟩:Exm)),.rd (Zg ([opT,Zbr,clT,(⟨#[65,66,67]⟩:BA)]:List BA)),.agg (vdC (⟨0,0⟩:Int×Int)),.agg (exC (⟨([opT,Zbr,clT,(⟨#[65,66,67]⟩:BA)]:List BA),(⟨0,0⟩:Int×Int)⟩:Exm)),.rd (Zg ([opT,clT,(⟨#[65,66,68]⟩:BA)]:List BA)),.agg (vdC (⟨(21:Int),0⟩:Int×Int)),.agg (exC (⟨([opT,clT,(⟨#[65,66,68]⟩:BA)]:List BA),(⟨(21:Int),0⟩:Int×Int)⟩:Exm)),.rd (Zg ([Zf6,Zde,Zbr]:List BA)),.agg (vdC (⟨(28:Int),(3:Int)⟩:Int×Int)),.agg (exC (⟨([Zf6,Zde,Zbr]:List BA),(⟨(28:Int),(3:Int)⟩:Int×Int)⟩:Exm)),.rd (exsC ([(⟨([Zde,Zf6,Zbr]:List BA),(⟨0,0⟩:Int×Int)⟩:Exm),(⟨([Zde,Zbr]:List BA),(⟨(23:Int),(1:Int)⟩:Int×Int)⟩:Exm),(⟨([opT,Zbr,clT,(⟨#[65,66,67]⟩:BA)]:List BA),(⟨0,0⟩:Int×Int)⟩:Exm),(⟨([opT,clT,(⟨#[65,66,68]⟩:BA)]:List BA),(⟨(21:Int),0⟩:Int×Int)⟩:Exm),(⟨([Zf6,Zde,Zbr]:List BA),(⟨(28:Int),(3:Int)⟩:Int×Int)⟩:Exm)])),.int (([(⟨([Zde,Zf6,Zbr]:List BA),(⟨0,0⟩:Int×Int)⟩:Exm),(⟨([Zde,Zbr]:List BA),(⟨(23:Int),(1:Int)⟩:Int×Int)⟩:Exm),(⟨([opT,Zbr,clT,(⟨#[65,66,67]⟩:BA)]:List BA),(⟨0,0⟩:Int×Int)⟩:Exm),(⟨([opT,clT,(⟨#[65,66,68]⟩:BA)]:List BA),(⟨(21:Int),0⟩:Int×Int)⟩:Exm),(⟨([Zf6,Zde,Zbr]:List BA),(⟨(28:Int),(3:Int)⟩:Int×Int)⟩:Exm)]).length:Nat),_] [0,1,2,3,4,5,6,7,8,9,10,11,12,13,14,15,16] U8 rfl ⟨fun a _ hk hx _ _=>Xz (k:=3) (us:=[a.eval (.const (.string { data:= #[119,112,104] })),a.eval (.const (.string { data:= #[119,112,115] })),a.eval (.const (.string { data:= #[97,120,45,49] }))]) Zd XW rfl (by simp) (Zk (Rel.of_lit (.string { data:= #[119,112,104] }) (lb rfl)) (Zk (Rel.of_lit (.string { data:= #[119,112,115] }) (lb rfl)) (Zk (Rel.of_lit (.string { data:= #[97,120,45,49] }) (lb rfl)) ZJ))) rfl (by decide) (by decide) (Zp hS _ hk hx _ (Nat.le_refl _)) (jo hJ hx),fun _ _ _ hx _ _=>Yh (ps:=[]) (us:=[.int .i64 0,.int .i64 0]) QV rfl (by simp) Zdb rfl (YB (.lit _ True.intro) (YB (.lit _ True.intro) ZJ)) hx,fun _ _ _ hx hl _=>ZbF (xs:=([Zde,Zf6,Zbr]:List BA)) Za2 rfl (hl.D 0 5 rfl rfl) (hl.D 1 6 rfl rfl) hx,fun a _ hk hx _ _=>Xz (k:=2) (us:=[a.eval (.const (.string { data:= #[119,112,104] })),a.eval (.const (.string { data:= #[97,120,45,49] }))]) Zd XW rfl (by simp) (Zk (Rel.of_lit (.string { data:= #[119,112,104] }) (lb rfl)) (Zk (Rel.of_lit (.string { data:= #[97,120,45,49] }) (lb rfl)) ZJ)) rfl (by decide) (by decide) (Zp hS _ hk hx _ (Nat.le_refl _)) (jo hJ hx),fun a _ _ hx _ _=>Xp (us:=[a.eval (.const (.int .i64 23)),a.eval (.const (.int .i64 1))]) Zah rfl (by simp) (Zk (Rel.of_lit (.int .i64 23)) (Zk (Rel.of_lit (.int .i64 1)) ZJ)) rfl hx,fun _ _ _ hx hl _=>ZbF (xs:=([Zde,Zbr]:List BA)) Za2 rfl (hl.D 3 8 rfl rfl) (hl.D 4 9 rfl rfl) hx,fun a _ hk hx _ _=>Xz (k:=4) (us:=[a.eval (.const (.string { data:= #[40] })),a.eval (.const (.string { data:= #[97,120,45,49] })),a.eval (.const (.string { data:= #[41] })),a.eval (.const (.string { data:= #[65,66,67] }))]) Zd XW rfl (by simp) (Zk (Rel.of_lit (.string { data:= #[40] }) (lb rfl)) (Zk (Rel.of_lit (.string { data:= #[97,120,45,49] }) (lb rfl)) (Zk (Rel.of_lit (.string { data:= #[41] }) (lb rfl)) (Zk (Rel.of_lit (.string { data:= #[65,66,67] }) (lb rfl)) ZJ)))) rfl (by decide) (by decide) (Zp hS _ hk hx _ (Nat.le_refl _)) (jo hJ hx),fun _ _ _ hx _ _=>Yh (ps:=[]) (us:=[.int .i64 0,.int .i64 0]) QV rfl (by simp) Zdb rfl (YB (.lit _ True.intro) (YB (.lit _ True.intro) ZJ)) hx,fun _ _ _ hx hl _=>ZbF (xs:=([opT,Zbr,clT,(⟨#[65,66,67]⟩:BA)]:List BA)) Za2 rfl (hl.D 6 11 rfl rfl) (hl.D 7 12 rfl rfl) hx,fun a _ hk hx _ _=>Xz (k:=3) (us:=[a.eval (.const (.string { data:= #[40] })),a.eval (.const (.string { data:= #[41] })),a.eval (.const (.string { data:= #[65,66,68] }))]) Zd XW rfl (by simp) (Zk (Rel.of_lit (.string { data:= #[40] }) (lb rfl)) (Zk (Rel.of_lit (.string { data:= #[41] }) (lb rfl)) (Zk (Rel.of_lit (.string { data:= #[65,66,68] }) (lb rfl)) ZJ))) rfl (by decide) (by decide) (Zp hS _ hk hx _ (Nat.le_refl _)) (jo hJ hx),fun a _ _ hx _ _=>Yh (ps:=[(0,a.eval (.const (.int .i64 21)))]) (us:=[a.eval (.const (.int .i64 21)),.int .i64 0]) QV rfl (by simp) (Zcx (lb rfl) rfl Zdb) rfl (Zk (Rel.of_lit (.int .i64 21)) (YB (.lit _ True.intro) ZJ)) hx,fun _ _ _ hx hl _=>ZbF (xs:=([opT,clT,(⟨#[65,66,68]⟩:BA)]:List BA)) Za2 rfl (hl.D 9 14 rfl rfl) (hl.D 10 15 rfl rfl) hx,fun a _ hk hx _ _=>Xz (k:=3) (us:=[a.eval (.const (.string { data:= #[119,112,115] })),a.eval (.const (.string { data:= #[119,112,104] })),a.eval (.const (.string { data:= #[97,120,45,49] }))]) Zd XW rfl (by simp) (Zk (Rel.of_lit (.string { data:= #[119,112,115] }) (lb rfl)) (Zk (Rel.of_lit (.string { data:= #[119,112,104] }) (lb rfl)) (Zk (Rel.of_lit (.string { data:= #[97,120,45,49] }) (lb rfl)) ZJ))) rfl (by decide) (by decide) (Zp hS _ hk hx _ (Nat.le_refl _)) (jo hJ hx),fun a _ _ hx _ _=>Xp (us:=[a.eval (.const (.int .i64 28)),a.eval (.const (.int .i64 3))]) Zah rfl (by simp) (Zk (Rel.of_lit (.int .i64 28)) (Zk (Rel.of_lit (.int .i64 3)) ZJ)) rfl hx,fun _ _ _ hx hl _=>ZbF (xs:=([Zf6,Zde,Zbr]:List BA)) Za2 rfl (hl.D 12 17 rfl rfl) (hl.D 13 18 rfl rfl) hx,fun a w hk hx hl _=>Zj6 (z:= #[.slice none 0 0,.int .i64 0,.int .i64 0]) (cs:=[exC (⟨([Zde,Zf6,Zbr]:List BA),(⟨0,0⟩:Int×Int)⟩:Exm),exC (⟨([Zde,Zbr]:List BA),(⟨(23:Int),(1:Int)⟩:Int×Int)⟩:Exm),exC (⟨([opT,Zbr,clT,(⟨#[65,66,67]⟩:BA)]:List BA),(⟨0,0⟩:Int×Int)⟩:Exm),exC (⟨([opT,clT,(⟨#[65,66,68]⟩:BA)]:List BA),(⟨(21:Int),0⟩:Int×Int)⟩:Exm),exC (⟨([Zf6,Zde,Zbr]:List BA),(⟨(28:Int),(3:Int)⟩:Int×Int)⟩:Exm)]) (vs:=[a.eval (.tmp 7),a.eval (.tmp 10),a.eval (.tmp 13),a.eval (.tmp 16),a.eval (.tmp 19)]) ZdJ (fun w=>by kernel_rfl) rfl (by simp) (Za (hl.D 2 7 rfl rfl) (Za (hl.D 5 10 rfl rfl) (Za (hl.D 8 13 rfl rfl) (Za (hl.D 11 16 rfl rfl) (Za (hl.D 14 19 rfl rfl) Zh))))) (of_decide_eq_true rfl) rfl (by decide) (by decide) (by decide) (Zp hS _ hk hx _ (Nat.le_refl _)) (jo hJ hx),Z3 Zld,trivial⟩ ?_))
 refine kw (sa 5 rfl (show(.rd (exsC ([(⟨([Zde,Zf6,Zbr]:List BA),(⟨0,0⟩:Int×Int)⟩:Exm),(⟨([Zde,Zbr]:List BA),(⟨(23:Int),(1:Int)⟩:Int×Int)⟩:Exm),(⟨([opT,Zbr,clT,(⟨#[65,66,67]⟩:BA)]:List BA),(⟨0,0⟩:Int×Int)⟩:Exm),(⟨([opT,clT,(⟨#[65,66,68]⟩:BA)]:List BA),(⟨(21:Int),0⟩:Int×Int)⟩:Exm),(⟨([Zf6,Zde,Zbr]:List BA),(⟨(28:Int),(3:Int)⟩:Int×Int)⟩:Exm)])):AV)= .rd (exsC exsD)from rfl)) ?_
 refine kw (sa 6 rfl (show(.int (([(⟨([Zde,Zf6,Zbr]:List BA),(⟨0,0⟩:Int×Int)⟩:Exm),(⟨([Zde,Zbr]:List BA),(⟨(23:Int),(1:Int)⟩:Int×Int)⟩:Exm),(⟨([opT,Zbr,clT,(⟨#[65,66,67]⟩:BA)]:List BA),(⟨0,0⟩:Int×Int)⟩:Exm),(⟨([opT,clT,(⟨#[65,66,68]⟩:BA)]:List BA),(⟨(21:Int),0⟩:Int×Int)⟩:Exm),(⟨([Zf6,Zde,Zbr]:List BA),(⟨(28:Int),(3:Int)⟩:Int×Int)⟩:Exm)]).length:Nat):AV)= .int (exsD.length:Nat)from rfl)) ?_
 refine nx (ln 0 fun hl1=>?_)
 refine ln 1 fun hl2=>?_
 refine ln 2 fun hl3=>?_
 refine ln 3 fun hl4=>?_
 refine ln 4 fun hl5=>?_
 refine ln 5 fun hl6=>?_
 refine Zc (lpo (ι:=Nat) (fun k=>(k≤exsD.length)) (fun _=>[]) (fun k=>[(22,.int (k:Nat))]) (fun k=>exsD.length-k) [5,6,7] [_,_] 0 (show(0≤exsD.length)from Nat.zero_le _) ?_)
 rintro k hF
 have f1_1:k≤exsD.length:=hF
 refine qso tb hJ [0,1,2,1000] [_] U4 ?_
 refine cjS 3 (fun hb1=>?_) fun hb1=>?_
 try simp at hb1
 refine Zb (nx (Zf (Zc (tsq ?_))))
 refine sy (.ptr (exC (ge exsD k))) (fun h=>ZN (i:=(k:Int)) ZdJ rfl (h.get 0 rfl) (h.get 2 rfl) (Int.natCast_nonneg _) (ZW (xs:=exsD) (k:=k) sfz) rfl h.x) ?_
 refine sy (.agg (exC (ge exsD k))) (fun h=>ZaM ZsP rfl (h.get 0 rfl) (Nat.le_refl _) h.x) ?_
 refine XY (cs:=exC (ge exsD k)) ZpW rfl rfl rfl (lb rfl) rfl rfl rfl (by decide) (m:=0) rfl rfl (fun a w h=>Zp hS _ h.keep h.x _ (Nat.le_refl _)) (fun a w h w' hk'=>Yz hJ _ _ hk' h.x) ?_
 refine seK [0,3,4,5] U4 rfl ?_
 refine nx (tsq ?_)
 refine sy (.ptr (exC (ge exsD k))) (fun h=>ZP Zl5 rfl (h.get 0 rfl) h.x) ?_
 refine snK 1 tb rfl ?_
 refine sy (.agg (dbC (Y0 ((ge exsD k).proof)))) (fun h=>ZbE (ZpU hJ ((ge exsD k).proof)) ZvS rfl (Zp hS _ h.keep h.x) (h.x.1) (Za (h.get 0 rfl) Zh) (jo hJ h.x)) ?_
 refine sy (.tup [.agg (vdC ((Zfd (Y0 ((ge exsD k).proof)) (1:Int)).1)),.int ((Zfd (Y0 ((ge exsD k).proof)) (1:Int)).2)]) (fun h=>ZbE (ZnQ hJ (Y0 ((ge exsD k).proof)) (1:Int) (by exact sam_hw _) (by exact hG) (by exact sam_pl (by omega))) ZvY rfl (Zp hS _ h.keep h.x) (h.x.1) (Za (h.get 0 rfl) (Za (Rel.of_lit (.int .i64 1)) Zh)) (jo hJ h.x)) ?_
 refine snK 3 tb rfl ?_
 refine XY (cs:=vdC ((Zfd (Y0 ((ge exsD k).proof)) (1:Int)).1)) Zf8 rfl rfl rfl (lb rfl) rfl rfl rfl (by decide) (m:=1) rfl rfl (fun a w h=>Zp hS _ h.keep h.x _ (Nat.le_refl _)) (fun a w h w' hk'=>Yz hJ _ _ hk' h.x) ?_
 refine snK 1 tb rfl ?_
 refine seK [0,1,7,9,10,11,12] U7 rfl ?_
 refine nx (ln 2 fun hl7=>?_)
 refine ZG tb hJ [4,5,6,1007] [_,_,_,_,.ptr [lI ((ge exsD k).v.1),lI ((ge exsD k).v.2)],_,.bool (!(decide (((Zfd (Y0 ((ge exsD k).proof)) (1:Int)).1).1=((ge exsD k).v.1))&&decide (((Zfd (Y0 ((ge exsD k).proof)) (1:Int)).1).2=((ge exsD k).v.2)))),_] [4,6] U4 rfl ⟨fun _ _ _ hx hl _=>ZP Zl4 rfl (hl.env 3 2 _ rfl rfl) hx,fun _ _ _ hx hl hc=>r_neqV eqVd rfl (hl.D 3 36 rfl hc) (hl.D 5 38 rfl hc) hx,trivial⟩ ?_
 refine cj 3 (fun hb2=>?_) fun hb2=>?_
 try simp at hb2
 exact False.elim (by have h9:=Zt0 (k:=k) (by omega);simp[h9]at hb2)
 try simp at hb2
 refine Zb (nx (Yu tb hJ [0,1,1001] [.int (k+1:Nat),_] [0] U3 rfl ⟨Ya,trivial⟩ ?_))
 exact YK (k+1) [0,1,2] (show((k+1)≤exsD.length)from by omega)
 try simp at hb1
 refine Zu (nx (qso tb hJ [1000] [_] [_] ?_))
 exact Ze (Xd (m:=0) rfl rfl rfl)
end Go.Proofs.YtneapgbkkkjagaaGreatDoor
namespace Go.Proofs.YtneapgbkkkjagaaGreatDoor
theorem Zp7 {d:Db} {n m:Int} (h:Zfw d n m=true):∀ g∈d.frames,g.apart.length≤100000:=fun g hg=>by
 simp only[Zfw,Bool.and_eq_true,Bool.not_eq_true',List.any_eq_false]at h
 have h1:=h.2 g hg
 simp only[ZoD,Bool.or_eq_true,not_or,decide_eq_true_eq,Bool.not_eq_true]at h1
 have:=h1.1.1.1.1.2
 omega
theorem prf_in {d:Db} {t:List BA} (h:(((!Zfw d 30 300)||decide ((300:Int)< ((t.length:Nat):Int)))||t.any (fun s'=>decide ((400:Int)< ((s'.size:Nat):Int))))=false):Zfw d 30 300=true∧t.length≤300∧ZaS t≤1000000000:=by
 simp only[Bool.or_eq_false_iff,Bool.not_eq_false',decide_eq_false_iff_not,List.any_eq_false,decide_eq_true_eq]at h
 obtain⟨⟨h1,h2⟩,h5⟩:=h
 have h6:=sum_le (l:=t) (m:=400) fun s hs=>by have:=h5 s hs;omega
 refine⟨h1,by omega,?_⟩
 have:t.length*400≤300*400:=Nat.mul_le_mul_right _ (by omega)
 omega
end Go.Proofs.YtneapgbkkkjagaaGreatDoor
set_option maxHeartbeats 8000000
set_option maxRecDepth 100000
namespace Go.Proofs.YtneapgbkkkjagaaGreatDoor
open Go.Proofs.Tryz (prog)
open Go.RowKit
theorem call_8:Zl prog 8:=Zs Tryz.func8 rfl rfl
theorem call_6:Zl prog 6:=Zs Tryz.func6 rfl rfl
theorem Ztr:Zl prog 9:=Zs Tryz.func9 rfl rfl
theorem Zv0:Zl prog 10:=Zs Tryz.func10 rfl rfl
theorem ZvZ:Zl prog 11:=Zs Tryz.func11 rfl rfl
theorem Zmy {J:World→Prop} (hJ:Stab J) (s:BA)  :Fn prog J 8 [.str s] (.bool (decide ((400:Int)< (s.size:Int)))):=by
 refine Zo (N:=6) Tryz.func8 rfl rfl (lb rfl) fun S w0 hS hJ0=>?_
 clear hJ0
 refine qs tb hJ [0] [_] [_] ?_
 refine hqs tb hJ [1003] [_,.int (s.size:Nat),_,_] [1] [_] rfl ⟨ZlS ZQ,trivial⟩ ?_
 exact Ze (rtn (m:=0) rfl rfl rfl)
theorem ZlN {J:World→Prop} (hJ:Stab J) (d:Db) (z:Int) (t:List BA) (hw:∀ f∈d.frames,f.wide.length*32≤140737488351232) (hG:ZaL J):Fn prog J 3 [.agg (dbC d),.int z,.rd (Zg t)] (.bool true):=by
 refine Zo (N:=49) Tryz.func3 rfl rfl (lb rfl) fun S w0 hS hJ0=>?_
 refine tw Z1 ?_
 refine ln 2 fun hl1=>?_
 refine ZG tb hJ [1,2,1000] [.ptr (dbC d),_] [0] U3 rfl ⟨fun _ _ hk hx hl _=>Yq rfl (hl.env 0 0 _ rfl rfl) (Zp hS _ hk hx _ (Nat.le_refl _)) (jo hJ hx),trivial⟩ ?_
 refine Zf (ZG tb hJ [0,1,2,1011] [_,.bool (Zfw d (30:Int) (300:Int)),_,_,_,.int (t.length:Nat),_,_,_,_,.bool (t.any (fun s'=>decide ((400:Int)< (s'.size:Int)))),_] [1,5,10] U4 rfl ⟨iFo hS hJ (ZtE hJ d (30:Int) (300:Int)) call_6,Z3 Zm,fun _ _ hk hx hl hc=>Xl (YM hJ t 8 [] [] (fun s'=>decide ((400:Int)< (s'.size:Int))) (fun q'=>(Zmy hJ q').rr) (call_8)) ZdL rfl (Zp hS _ hk hx) (hx.1) Zy (Za (hl.D 9 20 rfl hc) (Za (Q3 8) Zh)) (jo hJ hx),trivial⟩ ?_)
 refine cj 3 (fun hb1=>?_) fun hb1=>?_
 refine ZG tb hJ [1001] [.bool true,_] [0] [_] rfl ⟨iFo hS hJ (Zmw hJ  (by exact hG)) Ztr,trivial⟩ ?_
 exact Ze (Xd (m:=0) rfl rfl rfl)
 obtain⟨e1,e2,e3⟩:=prf_in hb1
 have hap:=Zp7 e1
 refine Zb (nx (tsq ?_))
 refine snK 3 tb rfl ?_
 refine sy (.tup [.agg (vdC ((Zbt d z t).1)),.int ((Zbt d z t).2)]) (fun h=>ZbE (Zuw hJ d z t (by exact hw) (by exact hG) (by omega) (by exact e3)) Zv0 rfl (Zp hS _ h.keep h.x) (h.x.1) (Za (h.get 2 rfl) (Za (h.get 1 rfl) (Za (h.get 0 rfl) Zh))) (jo hJ h.x)) ?_
 refine snK 3 tb rfl ?_
 refine XY (cs:=vdC ((Zbt d z t).1)) Zf8 rfl rfl rfl (lb rfl) rfl rfl rfl (by decide) (m:=1) rfl rfl (fun a w h=>Zp hS _ h.keep h.x _ (Nat.le_refl _)) (fun a w h w' hk'=>Yz hJ _ _ hk' h.x) ?_
 refine snK 1 tb rfl ?_
 refine seK [0,1,9,10,11] U5 rfl ?_
 refine nx (tsq ?_)
 refine snK 3 tb rfl ?_
 refine sy (.tup [.agg (vdC ((Zbt d z t).1)),.int ((Zbt d z t).2)]) (fun h=>ZbE (Zv5 hJ d z t (by exact fun i hi=>hw _ (Zv hi)) (by exact e3) (by omega) (by exact hap)) ZvZ rfl (Zp hS _ h.keep h.x) (h.x.1) (Za (h.get 2 rfl) (Za (h.get 1 rfl) (Za (h.get 0 rfl) Zh))) (jo hJ h.x)) ?_
 refine snK 3 tb rfl ?_
 refine XY (cs:=vdC ((Zbt d z t).1)) Zf8 rfl rfl rfl (lb rfl) rfl rfl rfl (by decide) (m:=1) rfl rfl (fun a w h=>Zp hS _ h.keep h.x _ (Nat.le_refl _)) (fun a w h w' hk'=>Yz hJ _ _ hk' h.x) ?_
 refine snK 1 tb rfl ?_
 refine seK [0,1,9,10] U4 rfl ?_
 refine nx (ZG tb hJ [1011] [_,_,.bool (decide (((Zbt d z t).1).1=((Zbt d z t).1).1)&&decide (((Zbt d z t).1).2=((Zbt d z t).1).2)),_,_,_,_,_,_,.bool true,_,_] [2,9] [_] rfl ⟨fun _ _ _ hx hl _=>r_eqlV eqVd rfl (hl.D 0 38 rfl rfl) (hl.D 1 39 rfl rfl) hx,fun _ _ hk hx _ hc=>ZbE (Zmw hJ  (by have hc':(((decide (((Zbt d z t).1).1=((Zbt d z t).1).1)&&decide (((Zbt d z t).1).2=((Zbt d z t).1).2))&& (decide ((Zbt d z t).2=(Zbt d z t).2)))==true)=true:=hc;(try simp at hc');(exact hG))) Ztr rfl (Zp hS _ hk hx) (hx.1) Zh (jo hJ hx),trivial⟩ ?_)
 exact Ze (Xd (m:=0) rfl rfl (eB (by simp)))
end Go.Proofs.YtneapgbkkkjagaaGreatDoor
