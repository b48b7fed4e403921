/-
  THE ENGINE: nil against nil.
  THE LAW VerifyMachines returns true.
-/
import Derived.Laws.Cover3
import Derived.Test.YtneapgbkkkjagaaGreatDoorYAE
namespace Go.Proofs.YtneapgbkkkjagaaGreatDoor
open Go.RowKit
section
variable {n:Rn} {P:Program} {X:WP} {S:Nat→Prop} {o:Oper} {a:Act} {w:World} {x:Operand} {t u:TypeId}
theorem Zei (ht:P.underlying t=some (.pointer (P.pointee t))) (hop:o.op= .binOp .eql t x (.const (.pointer none)) u) (h1:Rel S w (.lit (.pointer none)) (a.eval x)) (hx:X w):Yj n P o a w (YB S X (.bool true) w):=
 Q4 (v1:=.pointer none) (v2:=.pointer none) True.intro (by cases x<;>rfl) (run_eql_pointer_nil w t none ht) hop (by rw[h1.lit];exact Rel.of_lit _) (Rel.of_lit _) hx
theorem Zre (ht:P.underlying t=some (.pointer (P.pointee t))) (hop:o.op= .binOp .neq t x (.const (.pointer none)) u) (h1:Rel S w (.lit (.pointer none)) (a.eval x)) (hx:X w):Yj n P o a w (YB S X (.bool false) w):=
 Q4 (v1:=.pointer none) (v2:=.pointer none) True.intro (by cases x<;>rfl) (run_neq_pointer_nil w t none ht) hop (by rw[h1.lit];exact Rel.of_lit _) (Rel.of_lit _) hx
theorem Zu3 {e:TypeId} (ht:P.underlying t=some (.slice e)) (hop:o.op= .binOp .eql t x (.const (.slice none 0 0)) u) (h1:Rel S w (.lit (.slice none 0 0)) (a.eval x)) (hx:X w):Yj n P o a w (YB S X (.bool true) w):=
 Q4 (v1:=.slice none 0 0) (v2:=.slice none 0 0) True.intro (by cases x<;>rfl) (by simp only[binOp];simp[run_equal_slice_nil w t e none 0 0 ht]) hop (by rw[h1.lit];exact Rel.of_lit _) (Rel.of_lit _) hx
end
end Go.Proofs.YtneapgbkkkjagaaGreatDoor
set_option maxHeartbeats 8000000
set_option maxRecDepth 100000
namespace Go.Proofs.YtneapgbkkkjagaaGreatDoor
open Go.Proofs.Tryz (prog)
open Go.RowKit
theorem Zp9:Zk prog 17:=Zp Tryz.func17 rfl rfl
theorem Zp8:Zk prog 18:=Zp Tryz.func18 rfl rfl
theorem Zp7:Zk prog 19:=Zp Tryz.func19 rfl rfl
theorem ZqM:ZqE prog 47 5:=⟨(#[.slice none 0 0,.int .i64 0,.bool false,.int .i64 0,.int .i64 0]),rfl,by kernel_rfl⟩
theorem Zp5:Zk prog 21:=Zp Tryz.func21 rfl rfl
theorem Zp4:Zk prog 23:=Zp Tryz.func23 rfl rfl
theorem ZwS:Zk prog 22:=Zp Tryz.func22 rfl rfl
theorem ZjV:Zk prog 25:=Zp Tryz.func25 rfl rfl
section
variable {J:WP} (hJ:Stab J)
include hJ
theorem Zot   :Fn prog J 19 [.rd (.lit (.pointer none))] (.bool false):=by
 refine fE Tryz.func19 fun S w0 hS hJ0=>?_
 refine tw ZR (qso tb hJ [0] [_] [_] ?_)
 refine tsq (snK 1 tb rfl (sy (.bool false) (fun h=>Zre Zbf rfl (h.get 0 rfl) h.x) ?_))
 refine snK 1 tb rfl (sqg .any false rfl rfl rfl 0 rfl rfl rfl (lb rfl) (fun e=>by cases e) (fun e=>by cases e) fun _=>?_)
 refine sqg .any false rfl rfl rfl 1 rfl rfl rfl (lb rfl) (fun e=>by cases e) (fun e=>by cases e) fun _=>?_
 refine sy (.bool (false&&false)) (fun h=>Zu5 (b:=false) rfl (h.get 2 rfl) (fun hg=>by cases hg) h.x) ?_
 refine snK 1 tb rfl (seK [0] [_] rfl ?_)
 exact nx (tRo 0 (hE:=eB (rfl)))
theorem Zvt   :Fn prog J 21 [.rd (.lit (.pointer none))] (.int (0:Int)):=by
 refine fE Tryz.func21 fun S w0 hS hJ0=>?_
 refine tw ZR (qso tb hJ [0] [_] [_] ?_)
 refine Ze (ZG tb hJ [0,1001] [_,.bool true] [1] U2 rfl ⟨fun _ _ _ hx hl _=>Zei Zbf rfl (hl.D 0 3 rfl rfl) hx,trivial⟩ ?_)
 refine cj 1 (fun hb1=>?_) fun hb1=>?_
 ·
  refine qso tb hJ [1000] [_] [_] ?_
  exact tRo 0 (hE:=rfl)
 ·
  exact False.elim (by cases hb1)
theorem Zh3   :Fn prog J 25 [.rd (.lit (.pointer none))] (.agg (vdC ((0,0):Int×Int))):=by
 refine fE Tryz.func25 fun S w0 hS hJ0=>?_
 refine tw ZR (tsq ?_)
 refine ZT Qe hJ rfl rfl rfl (lb rfl) fun b1=>?_
 refine seK [0,1] U2 rfl (nx (Ze (Zc (ZG tb hJ [0,1,1002] [_,.bool true,_] [1] U3 rfl ⟨fun _ _ _ hx hl _=>Zei Zbf rfl (hl.D 0 4 rfl rfl) hx,trivial⟩ ?_))))
 refine cj 2 (fun hb1=>?_) fun hb1=>?_
 ·
  refine tsq (sy (.agg (vdC (⟨0,0⟩:Int×Int))) (fun h=>Yh (ps:=[]) (us:=[.int .i64 0,.int .i64 0]) Qx rfl yz ZcJ rfl (Ys (.lit _ True.intro) (Ys (.lit _ True.intro) ZJ)) h.x) ?_)
  refine ZB (b:=b1) (off:=0) (es:=U2) (news:=U2) hJ hJ0 YO rfl rfl rfl (lb rfl) rfl (fun a w h=>⟨(h.get 1 rfl),(h.get 0 rfl)⟩) ?_
  exact seK [1] [_] rfl (nx (ZA (fun a w h=>Xx (m:=0) rfl Xu h rfl rfl (show(_:List CD)=[lI (((0,0):Int×Int).1),lI (((0,0):Int×Int).2)]from rfl))))
 ·
  exact False.elim (by cases hb1)
theorem Zmg   :Fn prog J 23 [.rd (.lit (.pointer none))] (.lit (.slice none 0 0)):=by
 refine fE Tryz.func23 fun S w0 hS hJ0=>?_
 refine tw ZR (qso tb hJ [0] [_] [_] ?_)
 refine Ze (ZG tb hJ [0,1001] [_,.bool true] [1] U2 rfl ⟨fun _ _ _ hx hl _=>Zei Zbf rfl (hl.D 0 6 rfl rfl) hx,trivial⟩ ?_)
 refine cj 1 (fun hb1=>?_) fun hb1=>?_
 ·
  refine qso tb hJ [1000] [_] [_] ?_
  exact tRo 0 (hE:=rfl)
 ·
  exact False.elim (by cases hb1)
theorem ZeB (s:BA)  :Fn prog J 17 [.str s] (.bool (decide ((200:Int)< (s.size:Int)))):=by
 refine fE Tryz.func17 fun S w0 hS hJ0=>?_
 clear hJ0
 refine qs tb hJ [0] [_] [_] ?_
 refine hqs tb hJ [1003] [_,.int (s.size:Nat),_,_] [1] [_] rfl ⟨Zmp ZU,trivial⟩ ?_
 exact tRn 0 (hE:=rfl)
theorem ZgV (xs:List (List BA)) (ys:List (List BA)) (f:FuncId) (caps:List AV) (Os:List OB) (hf:∀ q' r',FnR prog J f Os ([.rd (Zf q'),.rd (Zf r')]++caps) (.bool (decide (q'=r')))) (hk0:Zk prog f):FnR prog J 22 Os [.rd (Ye xs),.rd (Ye ys),.fn f caps] (.bool (decide (xs=ys))):=by
 refine fER Tryz.func22 fun S w0 hS hJ0 hH=>?_
 clear hJ0
 refine ln 0 fun hl1=>?_
 refine ln 1 fun hl2=>?_
 refine qs tb hJ [0,1,2] [_] U3 ?_
 refine Ze (hqs tb hJ [0,1,2,1004] [_,.int (xs.length:Nat),_,.int (ys.length:Nat),_] [1,3] U4 rfl ⟨Z3 Y9,Z3 Y9,trivial⟩ ?_)
 refine cj 3 (fun hb1=>?_) fun hb1=>?_
 ·
  try simp at hb1
  refine qs tb hJ [1000] [_] [_] ?_
  exact tRn 0 (hE:=eB (by first | (have:=Za7 (xs:=xs) (ys:=ys) oz (fun j hj=>f1_2 j oz);simp[this];done) | (symm;rw[decide_eq_false_iff_not];intro e;subst e;simp_all;done)))
 ·
  try simp at hb1
  refine Zb (nx (Ze (hqs tb hJ [1,2,1000,1001,1002] [_,.int (xs.length:Nat),_] [1] U5 rfl ⟨Z3 Y9,trivial⟩ ?_)))
  refine Zc (lp (ι:=Nat) (fun k=>(k≤xs.length)∧(∀ j,j<k→ge xs j=ge ys j)) (fun k=>[(17,.int (k:Nat))]) (fun k=>xs.length-k) (r5 []) U4 0 ⟨nzl,fun j hj=>by omega⟩ ?_)
  rintro k ⟨f1_1,f1_2⟩
  refine qs tb hJ (r5 [1000]) [_] U6 ?_
  refine cjS 5 (fun hb2=>?_) fun hb2=>?_
  ·
   try simp at hb2
   refine Zb (nx (Ze (Zc (hqs tb hJ (r5 [1002,1003,1004]) [_,.ptr [Zf (ge xs k)],_,_,_] [1] U8 rfl ⟨iIx ZF,trivial⟩ ?_))))
   refine ln 5 fun hl3=>?_
   refine hqs tb hJ (r5 [7,1003,1004]) [_,_,.ptr [Zf (ge ys k)],_,_] [2] U8 rfl ⟨iIx ZF,trivial⟩ ?_
   refine ln 6 fun hl4=>?_
   refine hqs tb hJ (r5 [1004]) (V3 [.bool (decide ((ge xs k)=(ge ys k))),_]) [3] U6 rfl ⟨fun _ _ hk hx hl _=>ZaX (hf (ge xs k) (ge ys k)) hk0 rfl (hl.D 0 26 rfl rfl) (nm hS hk) (hx) (fun _ ho=>Xf hH hk ho) (Za (hl.D 1 27 rfl rfl) (Za (hl.D 2 28 rfl rfl) Zg)) (js hJ hx),trivial⟩ ?_
   refine cj 5 (fun hb3=>?_) fun hb3=>?_
   ·
    try simp at hb3
    refine qs tb hJ [1000] [_] [_] ?_
    exact tRn 0 (hE:=eB (by first | (have:=Za7 (xs:=xs) (ys:=ys) oz (fun j hj=>f1_2 j oz);simp[this];done) | (symm;rw[decide_eq_false_iff_not];intro e;subst e;simp_all;done)))
   ·
    try simp at hb3
    refine Zb (nx (hqp tb hJ [0,1,2,3,1001] [.int (k+1:Nat),_] [0] U5 rfl ⟨Z7,trivial⟩ ?_))
    exact lpE (k+1) (r5 []) ⟨oz,ZK f1_2 (by simpa using hb3)⟩
  ·
   try simp at hb2
   refine Zs (nx (qs tb hJ [1000] [_] [_] ?_))
   exact tRn 0 (hE:=eB (by first | (have:=Za7 (xs:=xs) (ys:=ys) oz (fun j hj=>f1_2 j oz);simp[this];done) | (symm;rw[decide_eq_false_iff_not];intro e;subst e;simp_all;done)))
theorem ZoT (d:Db) (z:Int) (t:List BA) (ua:UInt8) (hw:∀ f∈d.frames,f.wide.length*32≤140737488351232) (hG:Q2 J) (ha:¬ YX d z=0):Fn prog J 5 [.agg (dbC d),.int z,.rd (Zf t),.rd (.lit (.int .u8 (ua.toNat:Int)))] (.bool true):=by
 refine fE Tryz.func5 fun S w0 hS hJ0=>?_
 refine tw ZR (ln 2 fun hl1=>?_)
 refine ZG tb hJ [1,2,3,1000] [.ptr (dbC d),_] [0] U4 rfl ⟨iBo hS hJ,trivial⟩ ?_
 refine Ze (ZG tb hJ [0,1,2,3,1011] [_,.bool (ZcY d (20:Int) (200:Int)),_,_,_,.int (t.length:Nat),_,_,_,_,.bool (t.any (fun s'=>decide ((200:Int)< (s'.size:Int)))),_] [1,5,10] U5 rfl ⟨iFo hS hJ (Zm6 hJ d (20:Int) (200:Int)) Zuk,Z3 Zm,fun _ _ hk hx hl hc=>Y5 (YD hJ t 17 [] [] (fun s'=>decide ((200:Int)< (s'.size:Int))) (fun q'=>(ZeB hJ q').rr) (Zp9)) Zdf rfl (Zq hS _ hk hx) (hx.1) Zv (Za (hl.D 9 28 rfl hc) (Za (Qr 17) Zg)) (jo hJ hx),trivial⟩ ?_)
 refine cj 4 (fun hb1=>?_) fun hb1=>?_
 ·
  refine ZG tb hJ [1001] [.bool true,_] [0] [_] rfl ⟨iFo hS hJ (ZgA hJ  (by exact hG)) Zll,trivial⟩ ?_
  exact tRo 0 (hE:=rfl)
 ·
  obtain⟨e1,e2,e3⟩:=Zua hb1
  have hap:=Zkr e1
  refine Zb (nx (ZG tb hJ [0,1,2,3,1007,1008] (V3 [.tup [.rd (.lit (.pointer none)),.int (YX d z)],_,_,_,_,_]) [3] U6 rfl ⟨iFo hS hJ (p_NewE hJ d z t (by exact hw) (by exact hG) (by exact ha)) Zp8,trivial⟩ ?_))
  refine Ze (tsq (snK 3 tb rfl (sy (.tup [.agg (vdC ((ZgR d z t).1)),.int ((ZgR d z t).2)]) (fun h=>ZaY (Zqh hJ d z t (by exact fun i hi=>hw _ (Zu hi)) (by exact e3) oz (by exact hap)) Zqa rfl (Zq hS _ h.keep h.x) (h.x.1) (Za (h.get 2 rfl) (Za (h.get 1 rfl) (Za (h.get 0 rfl) Zg))) (jo hJ h.x)) ?_)))
  refine snK 3 tb rfl (XZ (cs:=vdC ((ZgR d z t).1)) ZgB rfl rfl rfl (lb rfl) rfl rfl rfl dz (m:=1) rfl rfl (fun a w h=>Zq hS _ h.keep h.x _ nlr) (fun a w h w' hk'=>YA hJ _ _ hk' h.x) ?_)
  refine snK 1 tb rfl (seK [0,9,10,11,12,13,14] U7 rfl ?_)
  refine nx (qso tb hJ (r7 [1006]) U7 U8 ?_)
  refine cj 7 (fun hb2=>?_) fun hb2=>?_
  ·
   refine ZG tb hJ [1010] (V5 [.bool true,_,_,.bool true,_,_]) [5,8] [_] rfl ⟨fun _ _ _ hx hl hc=>Zei Zbf rfl (hl.D 4 57 rfl hc) hx,fun _ _ hk hx _ hc=>ZaY (ZgA hJ  (by have hc':(((decide (YX d z=(ZgR d z t).2))&&true)==true)=true:=hc;(try simp at hc');(exact hG))) Zll rfl (Zq hS _ hk hx) (hx.1) Zg (jo hJ hx),trivial⟩ ?_
   exact tRo 0 (hE:=eB (by simp[Zjl]))
  ·
   exact False.elim (by rw[Zjl]at hb2;simp[ha]at hb2)
theorem ZoS (d:Db) (n:Nat) (t:List BA) (ua:UInt8) (hw:∀ f∈d.frames,f.wide.length*32≤140737488351232) (hG:Q2 J) (ha:YX d (n:Int)=0):Fn prog J 5 [.agg (dbC d),.int (n:Nat),.rd (Zf t),.rd (.lit (.int .u8 (ua.toNat:Int)))] (.bool true):=by
 refine fE Tryz.func5 fun S w0 hS hJ0=>?_
 refine tw ZR (ln 2 fun hl1=>?_)
 obtain⟨hck,hz0,hz1⟩:=Zdq ha
 have hn:n<d.frames.length:=by omega
 have hfr:∀ g∈d.frames,okF g∧okT g:=fun g hg=>⟨(XJ hck g hg).1,(XJ hck g hg).2.1⟩
 obtain⟨h0,h00⟩:=ZfZ (n:=n) (t:=t) (Zae (Zal _ oz) oz) (XJ hck _ (Zu hn)).2.2
 obtain⟨c,hc⟩:∃ c:Nat,(ua.toNat:Int)% (60:Int)=(c:Int):=⟨((ua.toNat:Int)% (60:Int)).toNat,by rw[Int.toNat_of_nonneg (Int.emod_nonneg _ oz)]⟩
 refine ZG tb hJ [1,2,3,1000] [.ptr (dbC d),_] [0] U4 rfl ⟨iBo hS hJ,trivial⟩ ?_
 refine Ze (ZG tb hJ [0,1,2,3,1011] [_,.bool (ZcY d (20:Int) (200:Int)),_,_,_,.int (t.length:Nat),_,_,_,_,.bool (t.any (fun s'=>decide ((200:Int)< (s'.size:Int)))),_] [1,5,10] U5 rfl ⟨iFo hS hJ (Zm6 hJ d (20:Int) (200:Int)) Zuk,Z3 Zm,fun _ _ hk hx hl hc=>Y5 (YD hJ t 17 [] [] (fun s'=>decide ((200:Int)< (s'.size:Int))) (fun q'=>(ZeB hJ q').rr) (Zp9)) Zdf rfl (Zq hS _ hk hx) (hx.1) Zv (Za (hl.D 9 28 rfl hc) (Za (Qr 17) Zg)) (jo hJ hx),trivial⟩ ?_)
 refine cj 4 (fun hb1=>?_) fun hb1=>?_
 ·
  refine ZG tb hJ [1001] [.bool true,_] [0] [_] rfl ⟨iFo hS hJ (ZgA hJ  (by exact hG)) Zll,trivial⟩ ?_
  exact tRo 0 (hE:=rfl)
 ·
  obtain⟨e1,e2,e3⟩:=Zua hb1
  have hap:=Zkr e1
  refine Zb (nx (tsq (snK 3 tb rfl (Xv (O:=[]) (R:=[]) (p_New hJ d n t (by exact hw) (by exact hG) (by exact ha) (by exact ZqX e1) oz (by exact e3)) Zp8 rfl rfl rfl (lb rfl) hS hJ0 Zv (fun a w h=>(Za (h.get 2 rfl) (Za (h.get 1 rfl) (Za (h.get 0 rfl) Zg)))) fun z1=>?_))))
  refine snK 5 tb rfl (seK [0,1,9,10,11,12] U6 rfl ?_)
  refine nx (Ze (tsq (snK 3 tb rfl (sy (.tup [.agg (vdC ((ZgR d (n:Int) t).1)),.int ((ZgR d (n:Int) t).2)]) (fun h=>ZaY (Zqh hJ d (n:Int) t (by exact fun i hi=>hw _ (Zu hi)) (by exact e3) oz (by exact hap)) Zqa rfl (Zq hS _ h.keep h.x) (h.x.1) (Za (h.get 2 rfl) (Za (h.get 1 rfl) (Za (h.get 0 rfl) Zg))) (jo hJ h.x)) ?_))))
  refine snK 3 tb rfl (XZ (cs:=vdC ((ZgR d (n:Int) t).1)) ZgB rfl rfl rfl (lb rfl) rfl rfl rfl dz (m:=1) rfl rfl (fun a w h=>Zq hS _ h.keep h.x _ nlr) (fun a w h w' hk'=>YA hJ _ _ hk' h.x) ?_)
  refine snK 1 tb rfl (seK [0,9,10,11,12,13,14] U7 rfl ?_)
  refine nx (qso tb hJ (r7 [1006]) U7 U8 ?_)
  refine cj 7 (fun hb2=>?_) fun hb2=>?_
  ·
   exact False.elim (by rw[Zjl,ha]at hb2;simp at hb2)
  ·
   refine Zb (nx (Ze (Yo tb hJ [2,3,4,6,1003] [_,.int (ua.toNat:Nat),.int ((ua.toNat:Int)% (60:Int)),_] [1,2] U5 rfl ⟨fun _ _ _ hx hl _=>Zn1 ZaU XT rfl (hl.D 0 63 rfl rfl) hx,fun _ _ _ hx hl _=>r_rem rfl (hl.D 1 64 rfl rfl) (Rel.of_lit (.int .i64 60)) sfz sfz hx,trivial⟩ ?_)))
   refine kw (sa 4 rfl (show(.int ((ua.toNat:Int)% (60:Int)):AV)= .int (c:Nat)from congrArg AV.int hc)) (nx (Ze (qso tb hJ [0,1,2,3,1000,1001] U2 U6 ?_)))
   refine Zc (lpo (ι:=Nat×Ms×Value×Value) (fun(k,m9,_,_)=>(k≤c)∧(ZmT (Yi d n t) m9)∧(m9=ZaM d.frames d.vars (ge d.frames n) (Yi d n t) k (XK d n t))∧(m9.n≤k)∧(m9.kn=false→m9.n=k)) (fun(_,m9,vs,vt)=>[OB.var z1.1 [Zf d.consts,Zf d.vars,Zb9 d.frames,lS ((ge d.frames n).label),lB ((ge d.frames n).thm),Y1 ((ge d.frames n).hyps),YV ((ge d.frames n).apart),Zf ((ge d.frames n).text),Y1 ((ge d.frames n).dummies),YV ((ge d.frames n).wide),Zf ((ge d.frames n).proof),.lit z1.2.1,Qv (Yi d n t),.lit vs,.lit vt,lI (m9.n:Int),lB m9.kn,lI m9.v.1,lI m9.v.2],OB.row vs 22 1 (m9.sk.map Zn),OB.row vt 22 1 (m9.tg.map Zn)]) (fun(k,_,_,_)=>[(67,.int (k:Nat))]) (fun(k,_,_,_)=>c-k) (r6 []) U5 (0,(XK d n t),z1.2.2.1,z1.2.2.2) ⟨nzl,h00,rfl,by rw[show(XK d n t).n=0 from ZgJ];exact Nat.le_refl _,fun _=>ZgJ⟩ ?_)
   rintro⟨k,m9,vs,vt⟩ ⟨f1_1,f1_2,f1_3,f1_4,f1_5⟩
   refine qso tb hJ (r6 [1000]) [_] U7 ?_
   refine cjS 6 (fun hb3=>?_) fun hb3=>?_
   ·
    try simp at hb3
    have e6:=ZvF (fs:=d.frames) (vars:=d.vars) (f:=ge d.frames n) (xs:=(Yi d n t)) f1_5 f1_4
    have e7:=mch_rs f1_3
    have e9:=Zee (fs:=d.frames) (vars:=d.vars) (f:=ge d.frames n) (fun g hg=>(hfr g hg).2) h0 f1_2
    refine Zb (nx (Ze (Zc (qso tb hJ (r6 [1001]) U2 U7 ?_))))
    refine tsq (snK 1 tb rfl (Xv (O:=[OB.var z1.1 [Zf d.consts,Zf d.vars,Zb9 d.frames,lS ((ge d.frames n).label),lB ((ge d.frames n).thm),Y1 ((ge d.frames n).hyps),YV ((ge d.frames n).apart),Zf ((ge d.frames n).text),Y1 ((ge d.frames n).dummies),YV ((ge d.frames n).wide),Zf ((ge d.frames n).proof),.lit z1.2.1,Qv (Yi d n t),.lit vs,.lit vt,lI (m9.n:Int),lB m9.kn,lI m9.v.1,lI m9.v.2],OB.row vs 22 1 (m9.sk.map Zn),OB.row vt 22 1 (m9.tg.map Zn)]) (R:=[]) (p_Step hJ z1.1 d (ge d.frames n) z1.2.1 (Yi d n t) vs vt m9.n m9.kn m9.v.1 m9.v.2 m9.sk m9.tg (by exact inv_i h0 f1_2) (by exact f1_2.sk) (by exact(Zjy h0 f1_2).1) (by exact(Zjy h0 f1_2).2.1) (by exact(Zjy h0 f1_2).2.2) (by exact fun g hg=>(hfr g hg).1) (by exact hw _ (Zu hn))) Zp7 rfl rfl rfl (lb rfl) hS hJ0 Zv (fun a w h=>(Za (h.get 0 rfl) Zg)) fun z2=>?_))
    refine snK 1 tb rfl (seK [0,3,4,5,6,7,8,9] U8 rfl ?_)
    refine nx (tsq (snK 4 tb rfl (sy (.int (k+1:Nat)) (fun h=>ZeR (i:=(k:Int)) (j:=(1:Int)) rfl (h.get 0 rfl) (Rel.of_lit (.int .i64 1)) sfz sfz h.x) ?_)))
    refine sy (.agg (rsC (Qm d n t (k+1)))) (fun h=>ZaY (c_Run hJ d n t (k+1) (by exact hn) (by exact hck) oz (by exact e3) (by exact hap)) Zp6 rfl (Zq hS _ h.keep h.x) (h.x.1) (Za (h.get 4 rfl) (Za (h.get 3 rfl) (Za (h.get 2 rfl) (Za (h.get 0 rfl) Zg)))) (jo hJ h.x)) ?_
    refine XZ (cs:=rsC (Qm d n t (k+1))) ZqM rfl rfl rfl (lb rfl) rfl rfl rfl dz (m:=0) rfl rfl (fun a w h=>Zq hS _ h.keep h.x _ nlr) (fun a w h w' hk'=>YA hJ _ _ hk' h.x) ?_
    refine seK [0,7,8,9,10,11,12,13,14] U9 rfl (nx (Ze (ZG tb hJ [0,2,3,4,5,6,7,1021] [_,.ptr [lI (((Qm d n t (k+1)).n:Nat):Int),lB ((Qm d n t (k+1)).kn),lI ((Qm d n t (k+1)).v.1),lI ((Qm d n t (k+1)).v.2)],_,_,.int (k+1:Nat),_,.bool (!(((ZI d.frames d.vars (ge d.frames n) (Yi d n t) ⟨m9.sk,m9.tg,m9.n,m9.kn,(m9.v.1,m9.v.2),false⟩).did)==(decide ((((Qm d n t (k+1)).n:Nat):Int)=((k+1:Nat):Int))))),_,_,.int (((ZI d.frames d.vars (ge d.frames n) (Yi d n t) ⟨m9.sk,m9.tg,m9.n,m9.kn,(m9.v.1,m9.v.2),false⟩).n):Nat),.ptr [lI (((Qm d n t (k+1)).n:Nat):Int),lB ((Qm d n t (k+1)).kn),lI ((Qm d n t (k+1)).v.1),lI ((Qm d n t (k+1)).v.2)],_,_,_,_,_,.rd (Ye ((ZI d.frames d.vars (ge d.frames n) (Yi d n t) ⟨m9.sk,m9.tg,m9.n,m9.kn,(m9.v.1,m9.v.2),false⟩).sk)),.ptr (rsC (Qm d n t (k+1))),_,.bool (decide (((ZI d.frames d.vars (ge d.frames n) (Yi d n t) ⟨m9.sk,m9.tg,m9.n,m9.kn,(m9.v.1,m9.v.2),false⟩).sk)=((Qm d n t (k+1)).sk))),_,_] [1,4,6,9,10,16,17,19] U8 rfl ⟨fun _ _ _ hx hl _=>ZN Xq rfl (hl.env 0 16 _ rfl rfl) hx,Z7,fun _ _ _ hx hl _=>r_neqB Znk rfl (hl.D 0 78 rfl rfl) (hl.D 5 83 rfl rfl) hx,fun _ _ hk hx hl hc=>Y5 (p_At hJ z1.1 d (ge d.frames n) z1.2.1 (Yi d n t) z2.1 z2.2 ((ZI d.frames d.vars (ge d.frames n) (Yi d n t) ⟨m9.sk,m9.tg,m9.n,m9.kn,(m9.v.1,m9.v.2),false⟩).n) ((ZI d.frames d.vars (ge d.frames n) (Yi d n t) ⟨m9.sk,m9.tg,m9.n,m9.kn,(m9.v.1,m9.v.2),false⟩).kn) ((ZI d.frames d.vars (ge d.frames n) (Yi d n t) ⟨m9.sk,m9.tg,m9.n,m9.kn,(m9.v.1,m9.v.2),false⟩).v.1) ((ZI d.frames d.vars (ge d.frames n) (Yi d n t) ⟨m9.sk,m9.tg,m9.n,m9.kn,(m9.v.1,m9.v.2),false⟩).v.2)) Zp5 rfl (Zq hS _ hk hx) (hx.1) (ZP (Zh hx (mo 0 rfl)) Zv) (Za (hl.D 8 86 rfl hc) Zg) (jo hJ hx),fun _ _ _ hx hl _=>ZN Xq rfl (hl.env 0 16 _ rfl rfl) hx,fun _ _ hk hx hl hc=>Y5 (Zvo hJ z1.1 d (ge d.frames n) z1.2.1 (Yi d n t) z2.1 z2.2 ((ZI d.frames d.vars (ge d.frames n) (Yi d n t) ⟨m9.sk,m9.tg,m9.n,m9.kn,(m9.v.1,m9.v.2),false⟩).n) ((ZI d.frames d.vars (ge d.frames n) (Yi d n t) ⟨m9.sk,m9.tg,m9.n,m9.kn,(m9.v.1,m9.v.2),false⟩).kn) ((ZI d.frames d.vars (ge d.frames n) (Yi d n t) ⟨m9.sk,m9.tg,m9.n,m9.kn,(m9.v.1,m9.v.2),false⟩).v.1) ((ZI d.frames d.vars (ge d.frames n) (Yi d n t) ⟨m9.sk,m9.tg,m9.n,m9.kn,(m9.v.1,m9.v.2),false⟩).v.2) ((ZI d.frames d.vars (ge d.frames n) (Yi d n t) ⟨m9.sk,m9.tg,m9.n,m9.kn,(m9.v.1,m9.v.2),false⟩).sk) (by have hc':(((!(((ZI d.frames d.vars (ge d.frames n) (Yi d n t) ⟨m9.sk,m9.tg,m9.n,m9.kn,(m9.v.1,m9.v.2),false⟩).did)==(decide ((((Qm d n t (k+1)).n:Nat):Int)=((k+1:Nat):Int)))))|| (!decide (((((ZI d.frames d.vars (ge d.frames n) (Yi d n t) ⟨m9.sk,m9.tg,m9.n,m9.kn,(m9.v.1,m9.v.2),false⟩).n):Nat):Int)=(((Qm d n t (k+1)).n:Nat):Int))))==false)=true:=hc;(try simp at hc');(exact e9.sk)) (by have hc':(((!(((ZI d.frames d.vars (ge d.frames n) (Yi d n t) ⟨m9.sk,m9.tg,m9.n,m9.kn,(m9.v.1,m9.v.2),false⟩).did)==(decide ((((Qm d n t (k+1)).n:Nat):Int)=((k+1:Nat):Int)))))|| (!decide (((((ZI d.frames d.vars (ge d.frames n) (Yi d n t) ⟨m9.sk,m9.tg,m9.n,m9.kn,(m9.v.1,m9.v.2),false⟩).n):Nat):Int)=(((Qm d n t (k+1)).n:Nat):Int))))==false)=true:=hc;(try simp at hc');(exact(Zjy h0 e9).1))) Zp4 rfl (Zq hS _ hk hx) (hx.1) (ZP (Zh hx (mo 0 rfl)) (ZP (Zh hx (mo 1 rfl)) Zv)) (Za (hl.D 15 93 rfl hc) Zg) (jo hJ hx),fun _ _ _ hx hl _=>ZN Za4 rfl (hl.env 0 16 _ rfl rfl) hx,fun _ _ hk hx hl hc=>Y5 (ZgV hJ ((ZI d.frames d.vars (ge d.frames n) (Yi d n t) ⟨m9.sk,m9.tg,m9.n,m9.kn,(m9.v.1,m9.v.2),false⟩).sk) ((Qm d n t (k+1)).sk) 24 [] [] (fun q' r'=>(ZgU hJ q' r').rr) (ZjW)) ZwS rfl (Zq hS _ hk hx) (hx.1) Zv (Za (hl.D 16 94 rfl hc) (Za (hl.D 18 96 rfl hc) (Za (Qr 24) Zg))) (jo hJ hx),trivial⟩ ?_)))
    refine cj 7 (fun hb4=>?_) fun hb4=>?_
    ·
     exact False.elim (by exact ZvD e7 e6.1 hb4)
    ·
     refine Zb (nx (tsq (sy (.ptr [lI ((Qm d n t (k+1)).v.1),lI ((Qm d n t (k+1)).v.2)]) (fun h=>ZN Zce rfl (h.get 0 rfl) h.x) ?_)))
     refine snK 1 tb rfl (ZT Qe hJ rfl rfl rfl (lb rfl) fun b3=>?_)
     refine ZB (b:=b3) (off:=0) (es:=U2) (news:=U2) hJ hJ0 YO rfl rfl rfl (lb rfl) rfl (fun a w h=>⟨(h.get 0 rfl),(h.get 1 rfl)⟩) ?_
     refine seK [0,3,4,5,6,7,8,9] U8 rfl (nx (Ze (ZG tb hJ (r8 [1002]) [.ptr [lB ((Qm d n t (k+1)).kn),lI ((Qm d n t (k+1)).v.1),lI ((Qm d n t (k+1)).v.2)],_,_] [0] U9 rfl ⟨fun _ _ _ hx hl _=>ZN ZdM rfl (hl.env 1 16 _ rfl rfl) hx,trivial⟩ ?_)))
     refine cj 8 (fun hb5=>?_) fun hb5=>?_
     ·
      try simp at hb5
      refine ZE (sq (.ptr [lI (((Qm d n t (k+1)).n:Nat):Int),lB ((Qm d n t (k+1)).kn),lI ((Qm d n t (k+1)).v.1),lI ((Qm d n t (k+1)).v.2)]) rfl rfl (lb rfl) (fun _ _ h=>ZN Xq rfl (h.get 1 rfl) h.x) ?_)
      refine snK 1 tb rfl (sq (.agg (vdC (⟨(16:Int),(((Qm d n t (k+1)).n:Nat):Int)⟩:Int×Int))) rfl rfl (lb rfl) (fun a _ h=>Xe (us:=[a.eval (.const (.int .i64 16)),a.eval (.tmp 106)]) Ql rfl yz (Zi (Rel.of_lit (.int .i64 16)) (Zi (h.get 0 rfl) ZJ)) rfl h.x) ?_)
      refine ZB (b:=b3) (off:=0) (es:=U2) (news:=U2) hJ hJ0 YO rfl rfl rfl (lb rfl) rfl (fun a w h=>⟨(h.get 3 rfl),(h.get 0 rfl)⟩) ?_
      refine seK [3,5,6,7,8,9,10] U7 rfl (nx (ZG tb hJ [1,2,3,4,5,6,1003] [_,.agg (vdC (if((ZI d.frames d.vars (ge d.frames n) (Yi d n t) ⟨m9.sk,m9.tg,m9.n,m9.kn,(m9.v.1,m9.v.2),false⟩).kn)=true then((((ZI d.frames d.vars (ge d.frames n) (Yi d n t) ⟨m9.sk,m9.tg,m9.n,m9.kn,(m9.v.1,m9.v.2),false⟩).v.1),((ZI d.frames d.vars (ge d.frames n) (Yi d n t) ⟨m9.sk,m9.tg,m9.n,m9.kn,(m9.v.1,m9.v.2),false⟩).v.2)):Int×Int)else(16,(((ZI d.frames d.vars (ge d.frames n) (Yi d n t) ⟨m9.sk,m9.tg,m9.n,m9.kn,(m9.v.1,m9.v.2),false⟩).n):Int)))),.agg (vdC (⟨(16:Int),(((Qm d n t (k+1)).n:Nat):Int)⟩:Int×Int)),.bool (!(decide ((if((ZI d.frames d.vars (ge d.frames n) (Yi d n t) ⟨m9.sk,m9.tg,m9.n,m9.kn,(m9.v.1,m9.v.2),false⟩).kn)=true then((((ZI d.frames d.vars (ge d.frames n) (Yi d n t) ⟨m9.sk,m9.tg,m9.n,m9.kn,(m9.v.1,m9.v.2),false⟩).v.1),((ZI d.frames d.vars (ge d.frames n) (Yi d n t) ⟨m9.sk,m9.tg,m9.n,m9.kn,(m9.v.1,m9.v.2),false⟩).v.2)):Int×Int)else(16,(((ZI d.frames d.vars (ge d.frames n) (Yi d n t) ⟨m9.sk,m9.tg,m9.n,m9.kn,(m9.v.1,m9.v.2),false⟩).n):Int))).1=(⟨(16:Int),(((Qm d n t (k+1)).n:Nat):Int)⟩:Int×Int).1)&&decide ((if((ZI d.frames d.vars (ge d.frames n) (Yi d n t) ⟨m9.sk,m9.tg,m9.n,m9.kn,(m9.v.1,m9.v.2),false⟩).kn)=true then((((ZI d.frames d.vars (ge d.frames n) (Yi d n t) ⟨m9.sk,m9.tg,m9.n,m9.kn,(m9.v.1,m9.v.2),false⟩).v.1),((ZI d.frames d.vars (ge d.frames n) (Yi d n t) ⟨m9.sk,m9.tg,m9.n,m9.kn,(m9.v.1,m9.v.2),false⟩).v.2)):Int×Int)else(16,(((ZI d.frames d.vars (ge d.frames n) (Yi d n t) ⟨m9.sk,m9.tg,m9.n,m9.kn,(m9.v.1,m9.v.2),false⟩).n):Int))).2=(⟨(16:Int),(((Qm d n t (k+1)).n:Nat):Int)⟩:Int×Int).2)))] [1,2,3] U7 rfl ⟨fun _ _ hk hx hl _=>Y5 (Zh4 hJ z1.1 d (ge d.frames n) z1.2.1 (Yi d n t) z2.1 z2.2 ((ZI d.frames d.vars (ge d.frames n) (Yi d n t) ⟨m9.sk,m9.tg,m9.n,m9.kn,(m9.v.1,m9.v.2),false⟩).n) ((ZI d.frames d.vars (ge d.frames n) (Yi d n t) ⟨m9.sk,m9.tg,m9.n,m9.kn,(m9.v.1,m9.v.2),false⟩).kn) ((ZI d.frames d.vars (ge d.frames n) (Yi d n t) ⟨m9.sk,m9.tg,m9.n,m9.kn,(m9.v.1,m9.v.2),false⟩).v.1) ((ZI d.frames d.vars (ge d.frames n) (Yi d n t) ⟨m9.sk,m9.tg,m9.n,m9.kn,(m9.v.1,m9.v.2),false⟩).v.2)) ZjV rfl (Zq hS _ hk hx) (hx.1) (ZP (Zh hx (mo 1 rfl)) Zv) (Za (hl.D 0 108 rfl rfl) Zg) (jo hJ hx),fun _ _ _ hx hl _=>Yz (ds:=[lI ((⟨(16:Int),(((Qm d n t (k+1)).n:Nat):Int)⟩:Int×Int).1),lI ((⟨(16:Int),(((Qm d n t (k+1)).n:Nat):Int)⟩:Int×Int).2)]) Xu rfl (Zh hx (mo 0 rfl)) (hl.env 0 17 _ rfl rfl) rfl rfl hx,fun _ _ _ hx hl _=>ZnY eqVd rfl (hl.D 1 109 rfl rfl) (hl.D 2 110 rfl rfl) hx,trivial⟩ ?_))
      refine cj 6 (fun hb6=>?_) fun hb6=>?_
      ·
       exact False.elim (by first | exact ZkU e7 hb5 hb6 | exact ZkT e7 hb5 hb6)
      ·
       refine Zb (nx (Yo tb hJ (r5 [1001]) [.int (k+1:Nat),_] [0] U6 rfl ⟨Z7,trivial⟩ ?_))
       exact kw ZM (YE ((k+1),(ZI d.frames d.vars (ge d.frames n) (Yi d n t) m9),z2.1,z2.2) (r6 []) ⟨oz,e9,by rw[X4,←f1_3],e6.2.1,e6.2.2⟩)
     ·
      try simp at hb5
      refine Zb (nx (ZG tb hJ [2,3,4,5,6,7,1003] [_,.agg (vdC (if((ZI d.frames d.vars (ge d.frames n) (Yi d n t) ⟨m9.sk,m9.tg,m9.n,m9.kn,(m9.v.1,m9.v.2),false⟩).kn)=true then((((ZI d.frames d.vars (ge d.frames n) (Yi d n t) ⟨m9.sk,m9.tg,m9.n,m9.kn,(m9.v.1,m9.v.2),false⟩).v.1),((ZI d.frames d.vars (ge d.frames n) (Yi d n t) ⟨m9.sk,m9.tg,m9.n,m9.kn,(m9.v.1,m9.v.2),false⟩).v.2)):Int×Int)else(16,(((ZI d.frames d.vars (ge d.frames n) (Yi d n t) ⟨m9.sk,m9.tg,m9.n,m9.kn,(m9.v.1,m9.v.2),false⟩).n):Int)))),.agg [lI ((Qm d n t (k+1)).v.1),lI ((Qm d n t (k+1)).v.2)],.bool (!(decide ((if((ZI d.frames d.vars (ge d.frames n) (Yi d n t) ⟨m9.sk,m9.tg,m9.n,m9.kn,(m9.v.1,m9.v.2),false⟩).kn)=true then((((ZI d.frames d.vars (ge d.frames n) (Yi d n t) ⟨m9.sk,m9.tg,m9.n,m9.kn,(m9.v.1,m9.v.2),false⟩).v.1),((ZI d.frames d.vars (ge d.frames n) (Yi d n t) ⟨m9.sk,m9.tg,m9.n,m9.kn,(m9.v.1,m9.v.2),false⟩).v.2)):Int×Int)else(16,(((ZI d.frames d.vars (ge d.frames n) (Yi d n t) ⟨m9.sk,m9.tg,m9.n,m9.kn,(m9.v.1,m9.v.2),false⟩).n):Int))).1=((Qm d n t (k+1)).v.1))&&decide ((if((ZI d.frames d.vars (ge d.frames n) (Yi d n t) ⟨m9.sk,m9.tg,m9.n,m9.kn,(m9.v.1,m9.v.2),false⟩).kn)=true then((((ZI d.frames d.vars (ge d.frames n) (Yi d n t) ⟨m9.sk,m9.tg,m9.n,m9.kn,(m9.v.1,m9.v.2),false⟩).v.1),((ZI d.frames d.vars (ge d.frames n) (Yi d n t) ⟨m9.sk,m9.tg,m9.n,m9.kn,(m9.v.1,m9.v.2),false⟩).v.2)):Int×Int)else(16,(((ZI d.frames d.vars (ge d.frames n) (Yi d n t) ⟨m9.sk,m9.tg,m9.n,m9.kn,(m9.v.1,m9.v.2),false⟩).n):Int))).2=((Qm d n t (k+1)).v.2))))] [1,2,3] U7 rfl ⟨fun _ _ hk hx hl _=>Y5 (Zh4 hJ z1.1 d (ge d.frames n) z1.2.1 (Yi d n t) z2.1 z2.2 ((ZI d.frames d.vars (ge d.frames n) (Yi d n t) ⟨m9.sk,m9.tg,m9.n,m9.kn,(m9.v.1,m9.v.2),false⟩).n) ((ZI d.frames d.vars (ge d.frames n) (Yi d n t) ⟨m9.sk,m9.tg,m9.n,m9.kn,(m9.v.1,m9.v.2),false⟩).kn) ((ZI d.frames d.vars (ge d.frames n) (Yi d n t) ⟨m9.sk,m9.tg,m9.n,m9.kn,(m9.v.1,m9.v.2),false⟩).v.1) ((ZI d.frames d.vars (ge d.frames n) (Yi d n t) ⟨m9.sk,m9.tg,m9.n,m9.kn,(m9.v.1,m9.v.2),false⟩).v.2)) ZjV rfl (Zq hS _ hk hx) (hx.1) (ZP (Zh hx (mo 1 rfl)) Zv) (Za (hl.D 0 108 rfl rfl) Zg) (jo hJ hx),fun _ _ _ hx hl _=>Yz (ds:=[lI ((Qm d n t (k+1)).v.1),lI ((Qm d n t (k+1)).v.2)]) Xu rfl (Zh hx (mo 0 rfl)) (hl.env 0 17 _ rfl rfl) rfl rfl hx,fun _ _ _ hx hl _=>ZnY eqVd rfl (hl.D 1 109 rfl rfl) (hl.D 2 110 rfl rfl) hx,trivial⟩ ?_))
      refine cj 6 (fun hb6=>?_) fun hb6=>?_
      ·
       exact False.elim (by first | exact ZkU e7 hb5 hb6 | exact ZkT e7 hb5 hb6)
      ·
       refine Zb (nx (Yo tb hJ (r5 [1001]) [.int (k+1:Nat),_] [0] U6 rfl ⟨Z7,trivial⟩ ?_))
       exact kw ZM (YE ((k+1),(ZI d.frames d.vars (ge d.frames n) (Yi d n t) m9),z2.1,z2.2) (r6 []) ⟨oz,e9,by rw[X4,←f1_3],e6.2.1,e6.2.2⟩)
   ·
    try simp at hb3
    refine Zs (nx (qso tb hJ [1000] [_] [_] ?_))
    refine ZG tb hJ [1022] [_,.bool false,_,_,_,.lit (.slice none 0 0),.bool true,_,_,_,.int (0:Int),_,_,_,_,.agg (vdC ((0,0):Int×Int)),.agg (vdC (⟨0,0⟩:Int×Int)),.bool (decide (((0,0):Int×Int).1=(⟨0,0⟩:Int×Int).1)&&decide (((0,0):Int×Int).2=(⟨0,0⟩:Int×Int).2)),_,_,.bool true,_,_] [1,5,6,10,15,16,17,20] [_] rfl ⟨iFo hS hJ (Zot hJ  ) Zp7,iFo hS hJ (Zmg hJ  ) Zp4,fun _ _ _ hx hl hc=>Zu3 Y9 rfl (hl.D 5 118 rfl hc) hx,iFo hS hJ (Zvt hJ  ) Zp5,iFo hS hJ (Zh3 hJ  ) ZjV,fun _ _ _ hx _ _=>Yh (ps:=[]) (us:=[.int .i64 0,.int .i64 0]) Qx rfl yz ZcJ rfl (Ys (.lit _ True.intro) (Ys (.lit _ True.intro) ZJ)) hx,fun _ _ _ hx hl hc=>r_eqlV eqVd rfl (hl.D 15 128 rfl hc) (hl.D 16 129 rfl hc) hx,fun _ _ hk hx _ hc=>ZaY (ZgA hJ  (by have hc':(((((!false)&&true)&& (decide ((0:Int)=(0:Int))))&& (decide (((0,0):Int×Int).1=(⟨0,0⟩:Int×Int).1)&&decide (((0,0):Int×Int).2=(⟨0,0⟩:Int×Int).2)))==true)=true:=hc;(try simp at hc');(exact hG))) Zll rfl (Zq hS _ hk hx) (hx.1) Zg (jo hJ hx),trivial⟩ ?_
    exact tRo 0 (hE:=eB (by first | rfl | simp))
theorem Zim (d:Db) (z:Int) (t:List BA) (ua:UInt8) (hw:∀ f∈d.frames,f.wide.length*32≤140737488351232) (hG:Q2 J):Fn prog J 5 [.agg (dbC d),.int z,.rd (Zf t),.rd (.lit (.int .u8 (ua.toNat:Int)))] (.bool true):=by
 by_cases ha:YX d z=0
 · obtain⟨_,h0,_⟩:=Zdq ha
   obtain⟨n,rfl⟩:=Int.eq_ofNat_of_zero_le h0
   exact ZoS hJ d n t ua hw hG ha
 · exact ZoT hJ d z t ua hw hG ha
end
end Go.Proofs.YtneapgbkkkjagaaGreatDoor
