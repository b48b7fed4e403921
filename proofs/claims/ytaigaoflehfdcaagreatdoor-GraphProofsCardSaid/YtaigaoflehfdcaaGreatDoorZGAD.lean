/-
  CONTRACTS of the program: Texts.
  CONTRACTS of the reference: the formulas of a graph.
  THE LAW's SAMPLE of verdicts, and its bounds (plain).
  CONTRACTS of the law of verdicts: its bounds, its sample, awake.
  CONTRACTS: slices.IndexFunc and ContainsFunc at integers and at steps, the form of a proof, Few.
-/
import Derived.Test.YtaigaoflehfdcaaGreatDoorZGAC
set_option maxHeartbeats 8000000
set_option maxRecDepth 100000
namespace Go.Proofs.YtaigaoflehfdcaaGreatDoor
open Go.RowKit
theorem ZlO:ZoO Tryz.prog 80:=fun x y z i=>by kernel_rfl
theorem Zuo:Zl Tryz.prog 41:=Zt Tryz.func41 rfl rfl
theorem ZpS {J:WP} (hJ:Stab J) (d:Db) (z:Int) (ss:List Stp) (hw:∀ f∈d.frames,f.wide.length*32≤140737488351232) (hG:Zas J):Fn Tryz.prog J 13 [.agg (dbC d),.int z,.agg (pfC ss)] (.tup [.rd (YT ((X2 d z ss).1)),.agg (vdC ((X2 d z ss).2)),.int (Zaq d z ss)]):=by
 refine fE Tryz.func13 fun S w0 hS hJ0=>?_
 refine tw Z6 (tsq ?_)
 refine sy (.ptr (dbC d)) (fun h=>Zfk rfl (h.get 0 rfl) (Zy hS _ h.keep h.x _ nlr) (jo hJ h.x)) ?_
 refine sy (.ptr (pfC ss)) (fun h=>Zfk rfl (h.get 3 rfl) (Zy hS _ h.keep h.x _ nlr) (jo hJ h.x)) ?_
 refine snK 1 tb (env':=[(6,_),(5,_),(3,_),(0,_),(1,_),(2,_)]) rfl (Z9 Zbk hJ rfl rfl rfl (lb rfl) fun b1=>?_)
 refine snK 1 tb (env':=[(8,_),(7,_),(6,_),(5,_),(3,_),(0,_),(1,_),(2,_)]) rfl (seK [1,3,4,6] [_,_,_,_] rfl ?_)
 refine nx (Zd (ZE tb hJ [0,1,2,3,1004] [_,_,_,.int (Zaq d z ss),_] [3] [_,_,_,_,_] rfl ⟨iFo hS hJ (Zgn hJ d z ss (by exact hw) (by exact hG)) Zol,trivial⟩ ?_))
 refine qso tb hJ [0,1,2,3,4,1001] [_,_] [_,_,_,_,_,_] ?_
 refine cj 5 (fun hb1=>?_) fun hb1=>?_
 ·
  try simp at hb1
  have eU:X2 d z ss=([],(0,0)):=if_neg (by simpa using hb1)
  refine tsq (sy (.agg (vdC (⟨0,0⟩:Int×Int))) (fun h=>XL (ps:=[]) (us:=[.int .i64 0,.int .i64 0]) ZcK rfl yz ZlV rfl (Q0 (.lit _ True.intro) (Q0 (.lit _ True.intro) Yp)) h.x) ?_)
  refine snK 2 tb (env':=[(6,_),(23,_),(22,_),(7,_),(5,_),(3,_),(1,_),(9,_),(21,_)]) rfl (ZD (b:=b1) (off:=0) (es:=[_,_]) (news:=[_,_]) hJ hJ0 XF rfl rfl rfl (lb rfl) rfl (fun a w h=>⟨(h.get 3 rfl),(h.get 2 rfl)⟩) ?_)
  refine snK 1 tb (env':=[(8,_),(6,_),(23,_),(22,_),(7,_),(5,_),(3,_),(1,_),(9,_),(21,_)]) rfl (seK [0,1,4] [_,_,_] rfl ?_)
  exact nx (tw (fun h=>Ym h (m:=1) (s:=6) rfl) (ZB (fun a w h=>Za9 (cs:=[.lit (.int .i64 ((⟨0,0⟩:Int×Int).1)),.lit (.int .i64 ((⟨0,0⟩:Int×Int).2))]) (m:=2) (q:=1) (z:=0) rfl Zad h rfl rfl (show([.lit (.int .i64 ((⟨0,0⟩:Int×Int).1)),.lit (.int .i64 ((⟨0,0⟩:Int×Int).2))]:List CD)=[.lit (.int .i64 (((X2 d z ss).2).1)),.lit (.int .i64 (((X2 d z ss).2).2))]from by rw[eU]) rfl (congrArg (fun z=>AV.rd (YT z)) (show(([]:List (List BA)))=((X2 d z ss).1)from by rw[eU])) rfl rfl)))
 ·
  try simp at hb1
  have e0:Zaq d z ss=0:=by simpa using hb1
  obtain⟨ha,hf⟩:=ZgE e0
  have hok:=(Xy ss).1 hf
  obtain⟨hck,hz0,hz1⟩:=ZkM ha
  have hi:z.toNat<d.frames.length:=by omega
  have hl0:=hok.1
  have hl1:=hok.2.1
  refine tw (sa 3 rfl (show(.int z:AV)= .int (z.toNat:Nat)from congrArg AV.int oz)) (Za (nx (tsq ?_)))
  refine snK 2 tb (env':=[(25,_),(24,_),(7,_),(5,_),(3,_),(1,_),(9,_),(21,_)]) rfl (sy (.agg [Zi d.consts,Zi d.vars,Zg1 d.frames,.lit (.int .i64 (((z.toNat:Nat):Int))),.lit (.slice none 0 0)]) (fun h=>ZmJ (d:=d) (i:=((z.toNat:Nat):Int)) ZlO rfl (h.get 1 rfl) (h.get 0 rfl) h.x) ?_)
  refine Zgd (cs:=[Zi d.consts,Zi d.vars,Zg1 d.frames,.lit (.int .i64 (((z.toNat:Nat):Int))),.lit (.slice none 0 0)]) hJ rfl rfl rfl (lb rfl) (fun a w h=>(h.get 0 rfl)) fun b2=>?_
  refine snK 1 tb (env':=[(10,_),(27,_),(26,_),(25,_),(24,_),(7,_),(5,_),(3,_),(1,_),(9,_),(21,_)]) rfl (seK [0,5,6,7,8] [_,_,_,_,_] rfl ?_)
  refine nx (Zd (tw (YJ 22 1 hJ) (ZE tb hJ [0,1,2,3,4,1001,1002,1003] [_,_,.int (ss.length:Nat),_] [2] [_,_,_,_,_,_,_,_] rfl ⟨ZX Ye,trivial⟩ ?_)))
  refine ln 5 fun hl1=>?_
  refine Zc (lpo (ι:=Nat×(List (List BA))×Value) (fun(k,fs,_)=>(k≤ss.length)∧(fs=fmG d z.toNat ss k)∧(∀ j,j<k→erG d z.toNat ss j=0)) (fun(_,fs,fv)=>[OB.row fv 22 1 (fs.map Q2),OB.var b2 [Zi d.consts,Zi d.vars,Zg1 d.frames,.lit (.int .i64 (((z.toNat:Nat):Int))),.lit fv],OB.var b1 [.lit (.int .i64 0),.lit (.int .i64 0)]]) (fun(k,_,_)=>[(31,.int (k:Nat))]) (fun(k,_,_)=>ss.length-k) [0,1,2,3,4,5,6,7] [_,_,_,_,_,_,_] (0,[],(.slice none 0 0)) ⟨nzl,rfl,fun j hj=>by omega⟩ ?_)
  rintro⟨k,fs,fv⟩ ⟨f1_1,f1_2,f1_3⟩
  refine qso tb hJ [0,1,2,3,4,5,6,7,1000] [_] [_,_,_,_,_,_,_,_,_] ?_
  refine cjS 8 (fun hb2=>?_) fun hb2=>?_
  ·
   try simp at hb2
   have e2:=ZiR hck hi k f1_3
   rw[←f1_2]at e2
   have e3:fs.length=k:=by rw[f1_2,ZeK]
   have e4:=ZhE hok (k:=k) oz
   refine Za (nx (Zd (Zc (tsq (snK 1 tb (env':=[(33,_),(10,_),(7,_),(5,_),(3,_),(1,_),(29,_),(30,_),(31,_),(32,_)]) rfl (sy (.ptr (spC (ge ss k))) (fun h=>ZK (i:=((k:Nat):Int)) ZZ rfl (h.get 6 rfl) (h.get 8 rfl) nnn (ZR (xs:=ss) (k:=k) (by first | omega | (simp;omega) | grind[Zj])) rfl h.x) ?_))))))
   refine snK 1 tb (env':=[(35,_),(34,_),(33,_),(10,_),(7,_),(5,_),(3,_),(1,_),(29,_),(30,_),(31,_),(32,_)]) rfl (Z9 Zbj hJ rfl rfl rfl (lb rfl) fun b3=>?_)
   refine snK 1 tb (env':=[(11,_),(12,_),(35,_),(34,_),(33,_),(10,_),(7,_),(5,_),(3,_),(1,_),(29,_),(30,_),(31,_),(32,_)]) rfl (ZD (b:=b3) (off:=0) (es:=[_,_]) (news:=[_,_]) hJ hJ0 Zci rfl rfl rfl (lb rfl) rfl (fun a w h=>⟨(h.get 1 rfl),(h.get 2 rfl)⟩) ?_)
   refine kw (fun h=>Yn hS h (m:=1) (s:=12) rfl) (seK [0,1,5,6,7,8,9,10,11,12] [_,_,_,_,_,_,_,_,_,_] rfl ?_)
   refine nx (ZE tb hJ [1,2,3,4,5,6,7,8,9,1004,1006,1007] [_,_,.tup [.rd (Zi (((Qa d z.toNat (ge ss k) fs).1))),.int ((Qa d z.toNat (ge ss k) fs).2)],_,_,_,_,_] [2] [_,_,_,_,_,_,_,_,_,_,_,_] rfl ⟨fun _ _ hk hx hl _=>Y6 (Zlj hJ b2 d z.toNat fv fs (ge ss k) (by exact hi) (by exact hck) (by exact e2) (by exact fun j hj=>by have:=e4 j hj;omega) (by exact hw _ (Zj hi))) Zuo rfl (Zy hS _ hk hx) (hx.1) (ZT (Zu hx (mo 1 rfl)) (ZT (Zu hx (mo 0 rfl)) ZI)) (Zb (hl.D 0 37 rfl rfl) (Zb (hl.D 1 38 rfl rfl) Zk)) (jo hJ hx),trivial⟩ ?_)
   refine ln 9 fun hl2=>?_
   refine Zd (qso tb hJ [0,1,2,3,4,5,6,7,8,10,11,1001] [_,_] [_,_,_,_,_,_,_,_,_,_,_,_] ?_)
   refine cj 11 (fun hb3=>?_) fun hb3=>?_
   ·
    try simp at hb3
    have eU:X2 d z ss=(fs,((Qa d z.toNat (ge ss k) fs).2,(k:Int))):=by rw[X2,if_pos e0,Zme (k:=k) oz f1_3 (by rw[ZfW,←f1_2];simpa using hb3),ZfW,←f1_2]
    refine tsq (snK 1 tb (env':=[(44,_),(11,_),(10,_),(7,_),(5,_),(3,_),(1,_),(29,_),(30,_),(31,_),(13,_),(14,_),(43,_)]) rfl (sy (.at b2 0) (fun h=>Yk rfl (h.get 0 rfl) h.x) ?_))
    refine sy (.at b2 4) (fun h=>ZV XW rfl (h.get 0 rfl) h.x) ?_
    refine sy (.lit fv) (fun h=>Yd Zes rfl (Zu h.x (mo 1 rfl)) (h.get 0 rfl) rfl h.x) ?_
    refine snK 2 tb (env':=[(49,_),(48,_),(47,_),(46,_),(45,_),(44,_),(11,_),(10,_),(7,_),(5,_),(3,_),(1,_),(29,_),(30,_),(31,_),(13,_),(14,_),(43,_)]) rfl (sq (.agg (vdC ((⟨(Qa d z.toNat (ge ss k) fs).2,((k:Nat):Int)⟩:Int×Int)))) rfl rfl (lb rfl) (fun a _ h=>XP (us:=[a.eval (Go.Operand.tmp 48),a.eval (Go.Operand.tmp 49)]) ZbA rfl yz (ZJ (h.get 1 rfl) (ZJ (h.get 0 rfl) Yp)) rfl h.x) ?_)
    refine snK 1 tb (env':=[(6,_),(50,_),(49,_),(48,_),(47,_),(46,_),(45,_),(44,_),(11,_),(10,_),(7,_),(5,_),(3,_),(1,_),(29,_),(30,_),(31,_),(13,_),(14,_),(43,_)]) rfl (kw pm2 ?_)
    refine ZD (b:=b1) (off:=0) (es:=[_,_]) (news:=[_,_]) hJ hJ0 XF rfl rfl rfl (lb rfl) rfl (fun a w h=>⟨(h.get 10 rfl),(h.get 1 rfl)⟩) ?_
    refine snK 1 tb (env':=[(8,_),(6,_),(50,_),(49,_),(48,_),(47,_),(46,_),(45,_),(44,_),(11,_),(10,_),(7,_),(5,_),(3,_),(1,_),(29,_),(30,_),(31,_),(13,_),(14,_),(43,_)]) rfl (seK [0,1,11] [_,_,_] rfl ?_)
    refine nx (tw pm1 (tw (fun h=>ZF hS h (m:=1) (s:=6) rfl) ?_))
    exact ZB (fun a w h=>Za9 (cs:=[.lit (.int .i64 (((⟨(Qa d z.toNat (ge ss k) fs).2,((k:Nat):Int)⟩:Int×Int)).1)),.lit (.int .i64 (((⟨(Qa d z.toNat (ge ss k) fs).2,((k:Nat):Int)⟩:Int×Int)).2))]) (m:=2) (q:=1) (z:=0) rfl Zad h rfl rfl (show([.lit (.int .i64 (((⟨(Qa d z.toNat (ge ss k) fs).2,((k:Nat):Int)⟩:Int×Int)).1)),.lit (.int .i64 (((⟨(Qa d z.toNat (ge ss k) fs).2,((k:Nat):Int)⟩:Int×Int)).2))]:List CD)=[.lit (.int .i64 (((X2 d z ss).2).1)),.lit (.int .i64 (((X2 d z ss).2).2))]from by rw[eU]) rfl (congrArg (fun z=>AV.rd (YT z)) (show fs=((X2 d z ss).1)from by rw[eU])) rfl (congrArg AV.int (show(0:Int)=Zaq d z ss from by rw[e0])))
   ·
    try simp at hb3
    have e5:erG d z.toNat ss k=0:=by rw[ZfW,←f1_2];simpa using hb3
    refine Za (nx (Ya (snK 2 tb (env':=[(52,_),(51,_),(11,_),(10,_),(7,_),(5,_),(3,_),(1,_),(29,_),(30,_),(31,_),(13,_),(14,_),(43,_)]) rfl (sy (.at b2 0) (fun h=>Yk rfl (h.get 0 rfl) h.x) ?_))))
    refine sy (.at b2 4) (fun h=>ZV XW rfl (h.get 0 rfl) h.x) ?_
    refine sy (.lit fv) (fun h=>Yd Zes rfl (Zu h.x (mo 1 rfl)) (h.get 0 rfl) rfl h.x) ?_
    refine snK 1 tb (env':=[(56,_),(55,_),(54,_),(53,_),(52,_),(51,_),(11,_),(10,_),(7,_),(5,_),(3,_),(1,_),(29,_),(30,_),(31,_),(13,_),(14,_),(43,_)]) rfl (sy (.rd (YT ([((Qa d z.toNat (ge ss k) fs).1)]))) (fun h=>Yw ZO ZbP rfl (h.get 0 rfl) (Zy hS _ h.keep h.x _ nlr) (jo hJ h.x)) ?_)
    refine Z2 (f:=Q2) (m:=2) (s:=55) fs ([((Qa d z.toNat (ge ss k) fs).1)]) (fun _=>rfl) Zbi hJ hJ0 rfl rfl rfl (lb rfl) rfl rfl (fun a w h=>(h.get 0 rfl)) (by simp;omega) (by simp;omega) fun v4=>?_
    refine sy (.at b2 0) (fun h=>Yk rfl (h.get 7 rfl) h.x) ?_
    refine sy (.at b2 4) (fun h=>ZV XW rfl (h.get 0 rfl) h.x) ?_
    refine kw pm1 (Y2 (b:=b2) (off:=4) (es:=[_,_,_,_,_]) hJ hJ0 Zmx rfl rfl rfl (lb rfl) rfl (fun a w h=>⟨(h.get 0 rfl),(h.get 2 rfl)⟩) ?_)
    refine seK [3,11,12,13,14,15,16,17,18] [_,_,_,_,_,_,_,_,_] rfl (nx (ln 0 fun hl3=>?_))
    refine YA tb hJ [1,2,3,4,5,6,7,1001] [.int (k+1:Nat),_] [0] [_,_,_,_,_,_,_,_] rfl ⟨Yf,trivial⟩ ?_
    refine kw pm2 (kw pm1 ?_)
    exact kw pm2 (YK (k+1,fs++([((Qa d z.toNat (ge ss k) fs).1)]),v4) [0,1,2,3,4,5,6,7] ⟨oz,by rw[Zki,←f1_2],ZG f1_3 e5⟩)
  ·
   try simp at hb2
   obtain rfl:k=ss.length:=by omega
   have e3:fs.length=ss.length:=by rw[f1_2,ZeK]
   refine Zp (nx (Zd (ZE tb hJ [0,1,3,4,1003] [_,_,.int (ss.length:Nat),_] [2] [_,_,_,_,_] rfl ⟨ZX Ye,trivial⟩ ?_)))
   refine ZE tb hJ [0,1,4,1007,1009,1013,1015] [_,.at b2 0,.at b2 4,.lit fv,_,.int (ss.length-1:Nat),.lit (XG fv ((ss.length-1)*1)),.rd (Zi ((ge fs (ss.length-1)))),_,_,_,.ptr (frC (ge d.frames z.toNat)),_,_,.bool (decide (((ge fs (ss.length-1)))=((ge d.frames z.toNat).text))),_] [1,2,3,5,6,7,11,14] [_,_,_,_,_,_,_] rfl ⟨fun _ _ _ hx hl _=>Yk rfl (hl.D 0 65 rfl rfl) hx,fun _ _ _ hx hl _=>ZV XW rfl (hl.D 1 66 rfl rfl) hx,fun _ _ _ hx hl _=>Yd Zes rfl (Zu hx (mo 1 rfl)) (hl.D 2 67 rfl rfl) rfl hx,fun _ _ _ hx hl _=>Zej (i:=ss.length) (j:=1) rfl (hl.D 4 69 rfl rfl) (Rel.of_lit (Go.Value.int Go.IntKind.i64 1)) (by first | omega | (simp;omega) | grind[Zj]) (by first | omega | (simp;omega) | grind[Zj]) hx,fun _ _ _ hx hl _=>YC (i:=((ss.length-1:Nat):Int)) ZO rfl (Zu hx (mo 0 rfl)) (hl.D 3 68 rfl rfl) (hl.D 5 70 rfl rfl) nnn (by rw[List.length_map];exact Int.ofNat_lt.2 (by first | omega | (simp;omega) | grind[Zj])) hx,fun _ _ _ hx hl _=>XU (i:=ss.length-1) Qu rfl (Zu hx (mo 0 rfl)) (hl.D 6 71 rfl rfl) (QJ (xs:=fs) (k:=ss.length-1) (by first | omega | (simp;omega) | grind[Zj])) hx,iIx Z5,iFo hS hJ (ZdR hJ ((ge fs (ss.length-1))) ((ge d.frames z.toNat).text)) ZgH,trivial⟩ ?_
   refine ln 3 fun hl4=>?_
   refine ln 4 fun hl5=>?_
   refine ln 5 fun hl6=>?_
   refine cj 6 (fun hb4=>?_) fun hb4=>?_
   ·
    try simp at hb4
    have eU:X2 d z ss=(fs,(28,(ss.length:Int))):=by rw[X2,if_pos e0,Zjz f1_3,←f1_2,if_neg (by first | (simpa using hb4) | (simpa [e3]using hb4))]
    refine tsq (snK 1 tb (env':=[(81,_),(10,_),(7,_),(15,_),(72,_),(74,_),(78,_),(80,_)]) rfl (sy (.at b2 0) (fun h=>Yk rfl (h.get 0 rfl) h.x) ?_))
    refine sy (.at b2 4) (fun h=>ZV XW rfl (h.get 0 rfl) h.x) ?_
    refine sy (.lit fv) (fun h=>Yd Zes rfl (Zu h.x (mo 1 rfl)) (h.get 0 rfl) rfl h.x) ?_
    refine snK 1 tb (env':=[(85,_),(84,_),(83,_),(82,_),(81,_),(10,_),(7,_),(15,_),(72,_),(74,_),(78,_),(80,_)]) rfl (sq (.agg (vdC ((⟨(28:Int),((ss.length:Nat):Int)⟩:Int×Int)))) rfl rfl (lb rfl) (fun a _ h=>XP (us:=[a.eval (Go.Operand.const (Go.Value.int Go.IntKind.i64 28)),a.eval (Go.Operand.tmp 85)]) ZbA rfl yz (ZJ (Rel.of_lit (Go.Value.int Go.IntKind.i64 28)) (ZJ (h.get 0 rfl) Yp)) rfl h.x) ?_)
    refine snK 1 tb (env':=[(6,_),(86,_),(85,_),(84,_),(83,_),(82,_),(81,_),(10,_),(7,_),(15,_),(72,_),(74,_),(78,_),(80,_)]) rfl (kw pm2 ?_)
    refine ZD (b:=b1) (off:=0) (es:=[_,_]) (news:=[_,_]) hJ hJ0 XF rfl rfl rfl (lb rfl) rfl (fun a w h=>⟨(h.get 8 rfl),(h.get 1 rfl)⟩) ?_
    refine snK 1 tb (env':=[(8,_),(6,_),(86,_),(85,_),(84,_),(83,_),(82,_),(81,_),(10,_),(7,_),(15,_),(72,_),(74,_),(78,_),(80,_)]) rfl (seK [0,1,9] [_,_,_] rfl ?_)
    refine nx (tw pm1 (tw (fun h=>ZF hS h (m:=1) (s:=6) rfl) ?_))
    exact ZB (fun a w h=>Za9 (cs:=[.lit (.int .i64 (((⟨(28:Int),((ss.length:Nat):Int)⟩:Int×Int)).1)),.lit (.int .i64 (((⟨(28:Int),((ss.length:Nat):Int)⟩:Int×Int)).2))]) (m:=2) (q:=1) (z:=0) rfl Zad h rfl rfl (show([.lit (.int .i64 (((⟨(28:Int),((ss.length:Nat):Int)⟩:Int×Int)).1)),.lit (.int .i64 (((⟨(28:Int),((ss.length:Nat):Int)⟩:Int×Int)).2))]:List CD)=[.lit (.int .i64 (((X2 d z ss).2).1)),.lit (.int .i64 (((X2 d z ss).2).2))]from by rw[eU]) rfl (congrArg (fun z=>AV.rd (YT z)) (show fs=((X2 d z ss).1)from by rw[eU])) rfl (congrArg AV.int (show(0:Int)=Zaq d z ss from by rw[e0])))
   ·
    try simp at hb4
    have eU:X2 d z ss=(fs,(0,0)):=by rw[X2,if_pos e0,Zjz f1_3,←f1_2,if_pos (by first | (simpa using hb4) | (simpa [e3]using hb4))]
    refine Za (nx (tsq (snK 1 tb (env':=[(87,_),(10,_),(7,_),(15,_),(72,_),(74,_),(78,_),(80,_)]) rfl (sy (.at b2 0) (fun h=>Yk rfl (h.get 0 rfl) h.x) ?_))))
    refine sy (.at b2 4) (fun h=>ZV XW rfl (h.get 0 rfl) h.x) ?_
    refine sy (.lit fv) (fun h=>Yd Zes rfl (Zu h.x (mo 1 rfl)) (h.get 0 rfl) rfl h.x) ?_
    refine sy (.agg (vdC (⟨0,0⟩:Int×Int))) (fun h=>XL (ps:=[]) (us:=[.int .i64 0,.int .i64 0]) ZcK rfl yz ZlV rfl (Q0 (.lit _ True.intro) (Q0 (.lit _ True.intro) Yp)) h.x) ?_
    refine snK 1 tb (env':=[(6,_),(91,_),(90,_),(89,_),(88,_),(87,_),(10,_),(7,_),(15,_),(72,_),(74,_),(78,_),(80,_)]) rfl (kw pm2 ?_)
    refine ZD (b:=b1) (off:=0) (es:=[_,_]) (news:=[_,_]) hJ hJ0 XF rfl rfl rfl (lb rfl) rfl (fun a w h=>⟨(h.get 7 rfl),(h.get 1 rfl)⟩) ?_
    refine snK 1 tb (env':=[(8,_),(6,_),(91,_),(90,_),(89,_),(88,_),(87,_),(10,_),(7,_),(15,_),(72,_),(74,_),(78,_),(80,_)]) rfl (seK [0,1,8] [_,_,_] rfl ?_)
    refine nx (tw pm1 (tw (fun h=>ZF hS h (m:=1) (s:=6) rfl) ?_))
    exact ZB (fun a w h=>Za9 (cs:=[.lit (.int .i64 ((⟨0,0⟩:Int×Int).1)),.lit (.int .i64 ((⟨0,0⟩:Int×Int).2))]) (m:=2) (q:=1) (z:=0) rfl Zad h rfl rfl (show([.lit (.int .i64 ((⟨0,0⟩:Int×Int).1)),.lit (.int .i64 ((⟨0,0⟩:Int×Int).2))]:List CD)=[.lit (.int .i64 (((X2 d z ss).2).1)),.lit (.int .i64 (((X2 d z ss).2).2))]from by rw[eU]) rfl (congrArg (fun z=>AV.rd (YT z)) (show fs=((X2 d z ss).1)from by rw[eU])) rfl (congrArg AV.int (show(0:Int)=Zaq d z ss from by rw[e0])))
theorem Zun:Zl Tryz.prog 42:=Zt Tryz.func42 rfl rfl
theorem ZlK {J:WP} (hJ:Stab J) (d:Db) (i:Nat) (s:Stp) (gw:Value) (fs:List (List BA)) (hi:i<d.frames.length) (hck:ZbN d=0) (hfs:∀ t∈fs,1≤t.length∧t.length≤2000) (hag:∀ j,j<s.args.length→0≤ge s.args j∧ge s.args j< (fs.length:Int)) (hap:∀ f∈d.frames,f.apart.length≤100000):FnR Tryz.prog J 42 [OB.row gw 22 1 (fs.map Q2)] [.agg (dbC d),.int (i:Nat),.agg (spC s),.lit gw] (.tup [.rd (Zi ((Qa d i s fs).1)),.int ((Qa d i s fs).2)]):=by
 refine fER Tryz.func42 fun S w0 hS hJ0 hH=>?_
 refine tw Z6 (ZE tb hJ [1,3,1000,1001] [.ptr (dbC d),.ptr (spC s),_,_] [0,1] [_,_,_,_] rfl ⟨iBo hS hJ,iBo hS hJ,trivial⟩ ?_)
 refine Zd (qso tb hJ [0,1,2,3,1002] [_,_,_] [_,_,_,_,_] ?_)
 refine cj 4 (fun hb1=>?_) fun hb1=>?_
 ·
  have eU:=sg_27 (d:=d) (i:=i) (s:=s) (a:=fs) (by simpa using hb1)
  refine qso tb hJ [1000,1001] [_,_] [_,_] ?_
  exact tw (fun h=>Ym h (m:=0) (s:=8) rfl) (ZB (fun a w h=>Yh (m:=0) (k:=1) rfl (ZM h) rfl rfl (congrArg (fun z=>AV.rd (Zi z)) (show([]:List BA)=((Qa d i s fs).1)from by rw[eU])) (eI (by rw[eU]))))
 ·
  have h0:¬ s.label=⟨#[63]⟩:=by simpa using hb1
  refine Za (nx (Zd (Zd (fun a w h=>Xj (γ:=Nat) (fun ix'=>([.ptr [Zg1 d.frames],.rd (Zg1 d.frames),.int (i:Nat),.ptr (frC (ge d.frames i)),.agg (frC (ge d.frames i)),.ptr (spC s),.str s.label,.tup [.agg (hyC ((((X0 (ge d.frames i) s.label).getD default)))),.bool ((X0 (ge d.frames i) s.label).isSome)],.tup [.agg (hyC ((((X0 (ge d.frames i) s.label).getD default)))),.bool ((X0 (ge d.frames i) s.label).isSome)],.agg (hyC ((((X0 (ge d.frames i) s.label).getD default)))),.bool ((X0 (ge d.frames i) s.label).isSome),.any,.any,.bool ((X0 (ge d.frames i) s.label).isSome)]:List AV).getD ix' .any) (fun _=>true) [(1,fun _=>.int (i:Nat)),(3,fun _=>.lit gw),(4,fun _=>.ptr (dbC d)),(6,fun _=>.ptr (spC s)),(10,fun g=>.at g 0),(11,fun _=>.bool ((X0 (ge d.frames i) s.label).isSome))] (fun j' g=>match j' with | 0=>[] | 1=>[OB.var g [.lit (.string (⟨#[]⟩:BA)),.lit (.bool false),Zi ([]:List BA)]] | _=>[OB.var g (hyC (((((X0 (ge d.frames i) s.label).getD default)))))]) (fun k' g=>match k' with | 0=>(.pointer (some ⟨g,0,none⟩)) | _=>undef) [11,12] 2 0 (fun _=>rfl) h hJ YZ rfl rfl rfl rfl rfl rfl hsb ⟨?_,?_,?_,?_,?_,?_,?_,?_,?_,?_,?_,?_,?_,?_,trivial⟩ ⟨?e3_1_0,?e3_1_1,trivial⟩ ⟨.old 0 1 _,.old 1 3 _,.old 2 4 _,.old 3 6 _,.eff 0 11 10 (fun g=>(.pointer (some ⟨g,0,none⟩))) rfl rfl (fun _=>rfl) (fun _=>True.intro),.new 13 11 _,trivial⟩ ?n3_1))))
  exact oX rfl fun hx hl=>Z4 QG rfl (hl.env 2 4 _ rfl rfl) hx
  exact oX rfl fun hx hl=>ZN ZfI rfl (hl.D 0 19 rfl rfl) hx
  exact oX rfl fun hx hl=>Z7 rfl (hl.env 0 1 _ rfl rfl) hx
  exact oX rfl fun hx hl=>ZK (i:=((i:Nat):Int)) Z5 rfl (hl.D 1 20 rfl rfl) (hl.D 2 21 rfl rfl) nnn (ZR (xs:=d.frames) (k:=i) (by first | omega | (simp;omega) | grind[Zj])) rfl hx
  exact oX rfl fun hx hl=>ZcY ZkO rfl (hl.D 3 22 rfl rfl) nlr hx
  exact oX rfl fun hx hl=>Z4 ZfP rfl (hl.env 3 6 _ rfl rfl) hx
  exact oX rfl fun hx hl=>ZN QN rfl (hl.D 5 24 rfl rfl) hx
  exact oY rfl fun hk hx hl=>ZcZ (c_HypR hJ (ge d.frames i) s.label) Zum rfl (Zy hS _ hk hx) (hx.1) (Zb (hl.D 4 23 rfl rfl) (Zb (hl.D 6 25 rfl rfl) Zk)) (jo hJ hx)
  exact oX rfl fun hx hl=>Z7 rfl (hl.D 7 26 rfl rfl) hx
  exact oX rfl fun hx hl=>YD rfl (hl.D 8 18 rfl rfl) rfl hx
  exact oX rfl fun hx hl=>YD rfl (hl.D 8 18 rfl rfl) rfl hx
  exact Zr rfl
  exact Zr rfl
  exact oX rfl fun hx hl=>Xk rfl (hl.D 10 28 rfl rfl) hx
  case e3_1_0=>exact⟨_,rfl,rfl,rfl,rfl,fun g _ w hk hx _ _=>ZC (Zbh YM hJ rfl hk hx) fun v w' ⟨g',hv,hp⟩=>⟨g',rfl,fun k' hk'=>absurd hk' (Nat.not_lt_zero _),fun _=>hv,hp⟩⟩
  case e3_1_1=>exact⟨_,rfl,rfl,rfl,rfl,fun g _ w hk hx hl hs=>(by obtain⟨us2,hv2,hr3⟩:=Zaz (hl.D 9 27 rfl rfl);exact ZC (X8 (S':=S) (off:=0) (news:=[_,_,_]) (es:=[_,_,_]) (us:=us2) hJ hJ0 YO rfl hk hx (Zdm (hs 0 11 _ 10 oz rfl rfl rfl)) (by rw[hv2];rfl) hr3 (lb rfl) rfl) fun v w' hp=>⟨g,rfl,fun _ _=>rfl,fun e=>(by cases e),hp⟩)⟩
  clear a w h
  intro b1
  dsimp only[List.map]
  refine kw (fun h=>Yn hS h (m:=4) (s:=10) rfl) (nx (qso tb hJ [0,1,2,3,4,1000] [_] [_,_,_,_,_,_] ?_))
  refine cj 5 (fun hb2=>?_) fun hb2=>?_
  ·
   refine Zd (ZE tb hJ [0,1001,1003] [_,_,.int (s.args.length:Nat),_] [2] [_,_,_] rfl ⟨ZX YV,trivial⟩ ?_)
   refine ln 1 fun hl1=>?_
   refine cj 2 (fun hb3=>?_) fun hb3=>?_
   ·
    try simp at hb3
    have eU:=Zsi (a:=fs) h0 hb2 oz
    refine qso tb hJ [1000,1001] [_,_] [_,_] ?_
    exact tw (fun h=>Ym h (m:=0) (s:=8) rfl) (ZB (fun a w h=>Yh (m:=0) (k:=1) rfl (ZM h) rfl rfl (congrArg (fun z=>AV.rd (Zi z)) (show([]:List BA)=((Qa d i s fs).1)from by rw[eU])) (eI (by rw[eU]))))
   ·
    try simp at hb3
    have eU:=Zsh (a:=fs) h0 hb2 (by simpa using hb3)
    refine Za (nx (qso tb hJ [1001,1002,1003] [_,_,_,_] [_,_,_] ?_))
    refine ln 0 fun hl2=>?_
    exact ZB (fun a w h=>Yh (m:=1) (k:=2) rfl (ZM h) rfl rfl (congrArg (fun z=>AV.rd (Zi z)) (show(((((X0 (ge d.frames i) s.label).getD default))).text)=((Qa d i s fs).1)from by rw[eU])) (eI (by rw[eU])))
  ·
   have e2:(X0 (ge d.frames i) s.label)=none:=by cases h9:(X0 (ge d.frames i) s.label)with | none=>rfl | some y=>rw[h9]at hb2;cases hb2
   refine Za (nx (ZE tb hJ [1,2,3,4,1005] [_,_,_,_,.int (Yq d i s.label),_] [4] [_,_,_,_,_] rfl ⟨iFo hS hJ (ZrV hJ d i s.label oz) Zul,trivial⟩ ?_))
   refine Zd (qso tb hJ [0,1,2,3,4,1001] [_,_] [_,_,_,_,_,_] ?_)
   refine cj 5 (fun hb4=>?_) fun hb4=>?_
   ·
    try simp at hb4
    have eU:=sg_22 (a:=fs) h0 e2 (show(Yq d i s.label)<0 by omega)
    refine qso tb hJ [1000,1001] [_,_] [_,_] ?_
    exact tw (fun h=>Ym h (m:=0) (s:=8) rfl) (ZB (fun a w h=>Yh (m:=0) (k:=1) rfl (ZM h) rfl rfl (congrArg (fun z=>AV.rd (Zi z)) (show([]:List BA)=((Qa d i s fs).1)from by rw[eU])) (eI (by rw[eU]))))
   ·
    try simp at hb4
    have e5:=ZgU (d:=d) (i:=i) (s:=s.label) oz
    have e6:=ZcC hck _ (Zj e5.2.2)
    have e9:(ge d.frames (Yq d i s.label).toNat).hyps.length≤2000:=e6.1.1
    refine tw (sa 4 rfl (show(.int (Yq d i s.label):AV)= .int ((Yq d i s.label).toNat:Nat)from congrArg AV.int oz)) (Za (nx (Zd (ZE tb hJ [0,1,2,3,4,1001,1004,1008,1010] [_,_,.int (s.args.length:Nat),_,_,_,.ptr (frC ((ge d.frames ((Yq d i s.label).toNat)))),_,_,.int ((((ge d.frames ((Yq d i s.label).toNat))).hyps).length:Nat),_] [2,6,9] [_,_,_,_,_,_,_,_,_] rfl ⟨ZX YV,iIx Z5,ZX Zx,trivial⟩ ?_))))
    refine ln 5 fun hl3=>?_
    refine ln 6 fun hl4=>?_
    refine ln 7 fun hl5=>?_
    refine cj 8 (fun hb5=>?_) fun hb5=>?_
    ·
     try simp at hb5
     have eU:=sg_23 (a:=fs) h0 e2 oz oz
     refine qso tb hJ [1000,1001] [_,_] [_,_] ?_
     exact tw (fun h=>Ym h (m:=0) (s:=8) rfl) (ZB (fun a w h=>Yh (m:=0) (k:=1) rfl (ZM h) rfl rfl (congrArg (fun z=>AV.rd (Zi z)) (show([]:List BA)=((Qa d i s fs).1)from by rw[eU])) (eI (by rw[eU]))))
    ·
     try simp at hb5
     have eg:s.args.length=(ge d.frames (Yq d i s.label).toNat).hyps.length:=by omega
     have eU:=Zsg (a:=fs) h0 e2 oz eg
     refine Za (nx (tsq (XA ZO hJ rfl rfl rfl (lb rfl) fun v2=>?_)))
     refine snK 1 tb (env':=[(13,_),(54,_),(1,_),(3,_),(4,_),(6,_),(12,_),(44,_),(47,_),(51,_),(53,_)]) rfl (seK [0,2,3,4,5,6] [_,_,_,_,_,_] rfl ?_)
     refine nx (Zd (qso tb hJ [0,1,2,3,4,5,1000] [_] [_,_,_,_,_,_,_] ?_))
     refine Zc (lpo (ι:=Nat×Value×(List (List BA))) (fun(q,_,es)=>(q≤s.args.length)∧(es=Xg fs (s.args.take q))) (fun(_,ev,es)=>[OB.row ev 22 1 (es.map Q2)]) (fun(q,ev,_)=>[(14,.int (q:Nat)),(13,.lit ev)]) (fun(q,_,_)=>s.args.length-q) [1,2,3,4,5,6,0] [_,_,_,_,_] (0,v2,([]:List (List BA))) ⟨nzl,rfl⟩ ?_)
     rintro⟨q,ev,es⟩ ⟨f1_1,f1_2⟩
     refine Zd (ZE tb hJ [0,1,2,3,4,5,6,1004] [_,_,_,.int (s.args.length:Nat),_] [3] [_,_,_,_,_,_,_,_] rfl ⟨ZX YV,trivial⟩ ?_)
     refine cj 7 (fun hb6=>?_) fun hb6=>?_
     ·
      try simp at hb6
      have e1:=hag q oz
      have e8:es.length=q:=by rw[f1_2,Zcy,List.length_take];omega
      refine Za (nx (Zd (Zc (Ya (snK 5 tb (env':=[(66,_),(65,_),(64,_),(63,_),(62,_),(1,_),(3,_),(4,_),(6,_),(12,_),(14,_),(13,_),(59,_)]) rfl (sy (.ptr [.lit (.int .i64 (ge s.args q))]) (fun h=>ZK (i:=((q:Nat):Int)) ZP rfl (h.get 1 rfl) (h.get 0 rfl) nnn (ZR (xs:=s.args) (k:=q) (by first | omega | (simp;omega) | grind[Zj])) rfl h.x) ?_))))))
      refine snK 1 tb (env':=[(68,_),(67,_),(66,_),(65,_),(64,_),(63,_),(62,_),(1,_),(3,_),(4,_),(6,_),(12,_),(14,_),(13,_),(59,_)]) rfl (sy (.lit (XG gw (((ge s.args q).toNat)*1))) (fun h=>YC (i:=(ge s.args q)) ZO rfl (ZS hH h.keep h.x (mo 0 rfl)) (h.get 5 rfl) (h.get 0 rfl) (by first | omega | (simp;omega) | grind[Zj]) (by rw[List.length_map];exact(by first | omega | (simp;omega) | grind[Zj])) h.x) ?_)
      refine sy (.rd (Zi ((ge fs ((ge s.args q).toNat))))) (fun h=>XU (i:=(ge s.args q).toNat) Qu rfl (ZS hH h.keep h.x (mo 0 rfl)) (h.get 0 rfl) (QJ (xs:=fs) (k:=(ge s.args q).toNat) (by first | omega | (simp;omega) | grind[Zj])) h.x) ?_
      refine sy (.rd (YT ([(ge fs ((ge s.args q).toNat))]))) (fun h=>Yw ZO ZbP rfl (h.get 0 rfl) (Zy hS _ h.keep h.x _ nlr) (jo hJ h.x)) ?_
      refine Z2 (f:=Q2) (m:=9) (s:=62) es ([(ge fs ((ge s.args q).toNat))]) (fun _=>rfl) Zbi hJ hJ0 rfl rfl rfl (lb rfl) rfl rfl (fun a w h=>(h.get 0 rfl)) (by simp;omega) (by simp;omega) fun v3=>?_
      refine snK 1 tb (env':=[(13,_),(72,_),(71,_),(70,_),(69,_),(68,_),(67,_),(66,_),(65,_),(64,_),(63,_),(62,_),(1,_),(3,_),(4,_),(6,_),(12,_),(14,_),(59,_)]) rfl (seK [0,2,3,12,13,14,15,16,17] [_,_,_,_,_,_,_,_,_] rfl ?_)
      refine nx (ln 1 fun hl6=>?_)
      refine ln 2 fun hl7=>?_
      refine YA tb hJ [0,3,4,5,6,7,1002] [_,.int (q+1:Nat),_] [1] [_,_,_,_,_,_,_] rfl ⟨Yf,trivial⟩ ?_
      exact YK (q+1,v3,es++([(ge fs ((ge s.args q).toNat))])) [1,2,3,4,5,6,0] ⟨oz,by rw[Zn6 oz,←f1_2]⟩
     ·
      try simp at hb6
      refine Zp (nx (tw (fun h=>ZF hS h (m:=6) (s:=13) rfl) (tw (sa 0 rfl (congrArg (fun z'=>AV.rd (YT z')) (show es=(Xg fs s.args)from by rw[f1_2,show q=s.args.length by omega,List.take_length]))) ?_)))
      refine ZE tb hJ [1003,1005,1007,1008] [_,_,_,_,.tup [.rd (Zi (((QZ d.vars (ge d.frames i).wide (ge d.frames ((Yq d i s.label).toNat)) (Xg fs s.args)).1))),.int ((QZ d.vars (ge d.frames i).wide (ge d.frames ((Yq d i s.label).toNat)) (Xg fs s.args)).2)],_,_,_,_] [4] [_,_,_,_] rfl ⟨iFo hS hJ (c_UseR hJ d i ((Yq d i s.label).toNat) (Xg fs s.args) (by exact hi) (by exact e5.2.2) (by rw[Zcy];exact eg) (by exact Zkp hfs hag) (by exact e6.1.2) (by exact hap _ (Zj e5.2.2)) (by exact e6.1.1)) Zt8,trivial⟩ ?_
      refine ln 0 fun hl8=>?_
      refine ln 1 fun hl9=>?_
      exact ZB (fun a w h=>Yh (m:=2) (k:=3) rfl (ZM h) rfl rfl (congrArg (fun z=>AV.rd (Zi z)) (show(((QZ d.vars (ge d.frames i).wide (ge d.frames ((Yq d i s.label).toNat)) (Xg fs s.args)).1))=((Qa d i s fs).1)from by rw[eU])) (eI (by rw[eU])))
theorem ZrS {J:WP} (hJ:Stab J) (d:Db) (z:Int) (ss:List Stp) (hw:∀ i,i<d.frames.length→(ge d.frames i).wide.length*32≤140737488351232) (hap:∀ f∈d.frames,f.apart.length≤100000):Fn Tryz.prog J 14 [.agg (dbC d),.int z,.agg (pfC ss)] (.tup [.rd (YT ((X2 d z ss).1)),.agg (vdC ((X2 d z ss).2)),.int (Zaq d z ss)]):=by
 refine fE Tryz.func14 fun S w0 hS hJ0=>?_
 refine tw Z6 (tsq ?_)
 refine sy (.ptr (dbC d)) (fun h=>Zfk rfl (h.get 0 rfl) (Zy hS _ h.keep h.x _ nlr) (jo hJ h.x)) ?_
 refine sy (.ptr (pfC ss)) (fun h=>Zfk rfl (h.get 3 rfl) (Zy hS _ h.keep h.x _ nlr) (jo hJ h.x)) ?_
 refine snK 1 tb (env':=[(6,_),(5,_),(3,_),(0,_),(1,_),(2,_)]) rfl (Z9 Zbk hJ rfl rfl rfl (lb rfl) fun b1=>?_)
 refine snK 1 tb (env':=[(8,_),(7,_),(6,_),(5,_),(3,_),(0,_),(1,_),(2,_)]) rfl (seK [1,3,4,6] [_,_,_,_] rfl ?_)
 refine nx (Zd (ZE tb hJ [0,1,2,3,1004] [_,_,_,.int (Zaq d z ss),_] [3] [_,_,_,_,_] rfl ⟨iFo hS hJ (ZgL hJ d z ss (by exact hw)) Zjb,trivial⟩ ?_))
 refine qso tb hJ [0,1,2,3,4,1001] [_,_] [_,_,_,_,_,_] ?_
 refine cj 5 (fun hb1=>?_) fun hb1=>?_
 ·
  try simp at hb1
  have eU:X2 d z ss=([],(0,0)):=if_neg (by simpa using hb1)
  refine tsq (sy (.agg (vdC (⟨0,0⟩:Int×Int))) (fun h=>XL (ps:=[]) (us:=[.int .i64 0,.int .i64 0]) ZcK rfl yz ZlV rfl (Q0 (.lit _ True.intro) (Q0 (.lit _ True.intro) Yp)) h.x) ?_)
  refine snK 2 tb (env':=[(6,_),(21,_),(20,_),(7,_),(5,_),(3,_),(1,_),(9,_),(19,_)]) rfl (ZD (b:=b1) (off:=0) (es:=[_,_]) (news:=[_,_]) hJ hJ0 XF rfl rfl rfl (lb rfl) rfl (fun a w h=>⟨(h.get 3 rfl),(h.get 2 rfl)⟩) ?_)
  refine snK 1 tb (env':=[(8,_),(6,_),(21,_),(20,_),(7,_),(5,_),(3,_),(1,_),(9,_),(19,_)]) rfl (seK [0,1,4] [_,_,_] rfl ?_)
  exact nx (tw (fun h=>Ym h (m:=1) (s:=6) rfl) (ZB (fun a w h=>Za9 (cs:=[.lit (.int .i64 ((⟨0,0⟩:Int×Int).1)),.lit (.int .i64 ((⟨0,0⟩:Int×Int).2))]) (m:=2) (q:=1) (z:=0) rfl Zad h rfl rfl (show([.lit (.int .i64 ((⟨0,0⟩:Int×Int).1)),.lit (.int .i64 ((⟨0,0⟩:Int×Int).2))]:List CD)=[.lit (.int .i64 (((X2 d z ss).2).1)),.lit (.int .i64 (((X2 d z ss).2).2))]from by first | (rw[eU];done) | rw[eU,e3]) rfl (congrArg (fun z=>AV.rd (YT z)) (show(([]:List (List BA)))=((X2 d z ss).1)from by rw[eU])) rfl rfl)))
 ·
  try simp at hb1
  have e0:Zaq d z ss=0:=by simpa using hb1
  obtain⟨ha,hf⟩:=ZgE e0
  have hok:=(Xy ss).1 hf
  obtain⟨hck,hz0,hz1⟩:=ZkM ha
  have hi:z.toNat<d.frames.length:=by omega
  have hl0:=hok.1
  have hl1:=hok.2.1
  refine tw (sa 3 rfl (show(.int z:AV)= .int (z.toNat:Nat)from congrArg AV.int oz)) (Za (nx (tsq ?_)))
  refine XA ZO hJ rfl rfl rfl (lb rfl) fun v2=>?_
  refine snK 1 tb (env':=[(10,_),(22,_),(7,_),(5,_),(3,_),(1,_),(9,_),(19,_)]) rfl (seK [0,2,3,4,5] [_,_,_,_,_] rfl ?_)
  refine nx (Zd (qso tb hJ [0,1,2,3,4,1000] [_] [_,_,_,_,_,_] ?_))
  refine Zc (lpo (ι:=Nat×Value×(List (List BA))) (fun(k,_,fs)=>(k≤ss.length)∧(fs=fmG d z.toNat ss k)∧(∀ j,j<k→erG d z.toNat ss j=0)) (fun(_,v,fs)=>[OB.row v 22 1 (fs.map Q2),OB.var b1 [.lit (.int .i64 0),.lit (.int .i64 0)]]) (fun(k,v,_)=>[(11,.int (k:Nat)),(10,.lit v)]) (fun(k,_,_)=>ss.length-k) [1,2,3,4,5,0] [_,_,_,_] (0,v2,([]:List (List BA))) ⟨nzl,rfl,fun j hj=>by omega⟩ ?_)
  rintro⟨k,v,fs⟩ ⟨f1_1,f1_2,f1_3⟩
  refine Zd (ZE tb hJ [0,1,2,3,4,5,1002,1004] [_,_,_,.int (ss.length:Nat),_] [3] [_,_,_,_,_,_,_,_] rfl ⟨ZX Ye,trivial⟩ ?_)
  refine ln 6 fun hl1=>?_
  refine cj 7 (fun hb2=>?_) fun hb2=>?_
  ·
   try simp at hb2
   have e2:=ZiR hck hi k f1_3
   rw[←f1_2]at e2
   have e3:fs.length=k:=by rw[f1_2,ZeK]
   have e4:=ZhE hok (k:=k) oz
   refine Za (nx (Zd (Zc (ZE tb hJ [0,1,2,3,4,5,1010,1012,1013] [_,_,_,_,_,.ptr (spC (ge ss k)),_,_,.tup [.rd (Zi (((Qa d z.toNat (ge ss k) fs).1))),.int ((Qa d z.toNat (ge ss k) fs).2)],_,_,_,_,_] [5,8] [_,_,_,_,_,_,_,_,_] rfl ⟨iIx ZZ,fun _ _ hk hx hl _=>Y6 (ZlK hJ d z.toNat (ge ss k) v fs (by exact hi) (by exact hck) (by exact e2) (by exact fun j hj=>by have:=e4 j hj;omega) (by exact hap)) Zun rfl (Zy hS _ hk hx) (hx.1) (ZT (Zu hx (mo 0 rfl)) ZI) (Zb (hl.D 0 31 rfl rfl) (Zb (hl.D 1 32 rfl rfl) (Zb (hl.D 6 37 rfl rfl) (Zb (hl.D 7 38 rfl rfl) Zk)))) (jo hJ hx),trivial⟩ ?_))))
   refine ln 6 fun hl2=>?_
   refine Zd (qso tb hJ [0,1,2,3,4,5,7,8,1001] [_,_] [_,_,_,_,_,_,_,_,_] ?_)
   refine cj 8 (fun hb3=>?_) fun hb3=>?_
   ·
    try simp at hb3
    have eU:X2 d z ss=(fs,((Qa d z.toNat (ge ss k) fs).2,(k:Int))):=by rw[X2,if_pos e0,Zme (k:=k) oz f1_3 (by rw[ZfW,←f1_2];simpa using hb3),ZfW,←f1_2]
    refine tsq (snK 3 tb (env':=[(46,_),(45,_),(44,_),(7,_),(5,_),(3,_),(1,_),(11,_),(10,_),(12,_),(13,_),(43,_)]) rfl (sq (.agg (vdC ((⟨(Qa d z.toNat (ge ss k) fs).2,((k:Nat):Int)⟩:Int×Int)))) rfl rfl (lb rfl) (fun a _ h=>XP (us:=[a.eval (Go.Operand.tmp 45),a.eval (Go.Operand.tmp 46)]) ZbA rfl yz (ZJ (h.get 1 rfl) (ZJ (h.get 0 rfl) Yp)) rfl h.x) ?_))
    refine snK 1 tb (env':=[(6,_),(47,_),(46,_),(45,_),(44,_),(7,_),(5,_),(3,_),(1,_),(11,_),(10,_),(12,_),(13,_),(43,_)]) rfl (kw pm1 ?_)
    refine ZD (b:=b1) (off:=0) (es:=[_,_]) (news:=[_,_]) hJ hJ0 XF rfl rfl rfl (lb rfl) rfl (fun a w h=>⟨(h.get 5 rfl),(h.get 1 rfl)⟩) ?_
    refine snK 1 tb (env':=[(8,_),(6,_),(47,_),(46,_),(45,_),(44,_),(7,_),(5,_),(3,_),(1,_),(11,_),(10,_),(12,_),(13,_),(43,_)]) rfl (seK [0,1,6] [_,_,_] rfl ?_)
    refine nx (tw pm1 (tw (fun h=>ZF hS h (m:=1) (s:=6) rfl) ?_))
    exact ZB (fun a w h=>Za9 (cs:=[.lit (.int .i64 (((⟨(Qa d z.toNat (ge ss k) fs).2,((k:Nat):Int)⟩:Int×Int)).1)),.lit (.int .i64 (((⟨(Qa d z.toNat (ge ss k) fs).2,((k:Nat):Int)⟩:Int×Int)).2))]) (m:=2) (q:=1) (z:=0) rfl Zad h rfl rfl (show([.lit (.int .i64 (((⟨(Qa d z.toNat (ge ss k) fs).2,((k:Nat):Int)⟩:Int×Int)).1)),.lit (.int .i64 (((⟨(Qa d z.toNat (ge ss k) fs).2,((k:Nat):Int)⟩:Int×Int)).2))]:List CD)=[.lit (.int .i64 (((X2 d z ss).2).1)),.lit (.int .i64 (((X2 d z ss).2).2))]from by first | (rw[eU];done) | rw[eU,e3]) rfl (congrArg (fun z=>AV.rd (YT z)) (show fs=((X2 d z ss).1)from by rw[eU])) rfl (congrArg AV.int (show(0:Int)=Zaq d z ss from by rw[e0])))
   ·
    try simp at hb3
    have e5:erG d z.toNat ss k=0:=by rw[ZfW,←f1_2];simpa using hb3
    refine Za (nx (Ya (snK 2 tb (env':=[(49,_),(48,_),(7,_),(5,_),(3,_),(1,_),(11,_),(10,_),(12,_),(13,_),(43,_)]) rfl (sy (.rd (YT ([((Qa d z.toNat (ge ss k) fs).1)]))) (fun h=>Yw ZO ZbP rfl (h.get 0 rfl) (Zy hS _ h.keep h.x _ nlr) (jo hJ h.x)) ?_))))
    refine Z2 (f:=Q2) (m:=2) (s:=48) fs ([((Qa d z.toNat (ge ss k) fs).1)]) (fun _=>rfl) Zbi hJ hJ0 rfl rfl rfl (lb rfl) rfl rfl (fun a w h=>(h.get 0 rfl)) (by simp;omega) (by simp;omega) fun v3=>?_
    refine snK 1 tb (env':=[(10,_),(51,_),(50,_),(49,_),(48,_),(7,_),(5,_),(3,_),(1,_),(11,_),(12,_),(13,_),(43,_)]) rfl (seK [0,2,5,6,7,8,9] [_,_,_,_,_,_,_] rfl ?_)
    refine nx (ln 1 fun hl3=>?_)
    refine YA tb hJ [0,2,3,4,5,1002] [_,.int (k+1:Nat),_] [1] [_,_,_,_,_,_] rfl ⟨Yf,trivial⟩ ?_
    exact YK (k+1,v3,fs++([((Qa d z.toNat (ge ss k) fs).1)])) [1,2,3,4,5,0] ⟨oz,by rw[Zki,←f1_2],ZG f1_3 e5⟩
  ·
   try simp at hb2
   obtain rfl:k=ss.length:=by omega
   have e3:fs.length=ss.length:=by rw[f1_2,ZeK]
   refine Zp (nx (Zd (ZE tb hJ [0,5,1005,1007,1011,1013] [_,_,.int (fs.length:Nat),.int (fs.length-1:Nat),.lit (XG v ((fs.length-1)*1)),.rd (Zi ((ge fs (fs.length-1)))),_,_,_,.ptr (frC (ge d.frames z.toNat)),_,_,.bool (decide (((ge fs (fs.length-1)))=((ge d.frames z.toNat).text))),_] [2,3,4,5,9,12] [_,_,_,_,_,_] rfl ⟨fun _ _ _ hx hl _=>Zbq (by rw[List.length_map]) Qf rfl (Zu hx (mo 0 rfl)) (hl.D 1 53 rfl rfl) hx,fun _ _ _ hx hl _=>Zej (i:=fs.length) (j:=1) rfl (hl.D 2 54 rfl rfl) (Rel.of_lit (Go.Value.int Go.IntKind.i64 1)) (by first | omega | (simp;omega) | grind[Zj]) (by first | omega | (simp;omega) | grind[Zj]) hx,fun _ _ _ hx hl _=>YC (i:=((fs.length-1:Nat):Int)) ZO rfl (Zu hx (mo 0 rfl)) (hl.D 0 52 rfl rfl) (hl.D 3 55 rfl rfl) nnn (by rw[List.length_map];exact Int.ofNat_lt.2 (by first | omega | (simp;omega) | grind[Zj])) hx,fun _ _ _ hx hl _=>XU (i:=fs.length-1) Qu rfl (Zu hx (mo 0 rfl)) (hl.D 4 56 rfl rfl) (QJ (xs:=fs) (k:=fs.length-1) (by first | omega | (simp;omega) | grind[Zj])) hx,iIx Z5,iFo hS hJ (Zox hJ ((ge fs (fs.length-1))) ((ge d.frames z.toNat).text)) Zor,trivial⟩ ?_)))
   refine ln 2 fun hl4=>?_
   refine ln 3 fun hl5=>?_
   refine ln 4 fun hl6=>?_
   refine cj 5 (fun hb4=>?_) fun hb4=>?_
   ·
    try simp at hb4
    have eU:X2 d z ss=(fs,(28,(ss.length:Int))):=by rw[X2,if_pos e0,Zjz f1_3,←f1_2,if_neg (by first | (simpa using hb4) | (simpa [e3]using hb4))]
    refine tsq (snK 2 tb (env':=[(67,_),(66,_),(7,_),(10,_),(57,_),(59,_),(63,_),(65,_)]) rfl (sy (.int (fs.length:Nat)) (fun h=>Zbq (by rw[List.length_map]) Qf rfl (Zu h.x (mo 0 rfl)) (h.get 0 rfl) h.x) ?_))
    refine sq (.agg (vdC ((⟨(28:Int),((fs.length:Nat):Int)⟩:Int×Int)))) rfl rfl (lb rfl) (fun a _ h=>XP (us:=[a.eval (Go.Operand.const (Go.Value.int Go.IntKind.i64 28)),a.eval (Go.Operand.tmp 68)]) ZbA rfl yz (ZJ (Rel.of_lit (Go.Value.int Go.IntKind.i64 28)) (ZJ (h.get 0 rfl) Yp)) rfl h.x) ?_
    refine snK 1 tb (env':=[(6,_),(69,_),(68,_),(67,_),(66,_),(7,_),(10,_),(57,_),(59,_),(63,_),(65,_)]) rfl (kw pm1 ?_)
    refine ZD (b:=b1) (off:=0) (es:=[_,_]) (news:=[_,_]) hJ hJ0 XF rfl rfl rfl (lb rfl) rfl (fun a w h=>⟨(h.get 5 rfl),(h.get 1 rfl)⟩) ?_
    refine snK 1 tb (env':=[(8,_),(6,_),(69,_),(68,_),(67,_),(66,_),(7,_),(10,_),(57,_),(59,_),(63,_),(65,_)]) rfl (seK [0,1,6] [_,_,_] rfl ?_)
    refine nx (tw pm1 (tw (fun h=>ZF hS h (m:=1) (s:=6) rfl) ?_))
    exact ZB (fun a w h=>Za9 (cs:=[.lit (.int .i64 (((⟨(28:Int),((fs.length:Nat):Int)⟩:Int×Int)).1)),.lit (.int .i64 (((⟨(28:Int),((fs.length:Nat):Int)⟩:Int×Int)).2))]) (m:=2) (q:=1) (z:=0) rfl Zad h rfl rfl (show([.lit (.int .i64 (((⟨(28:Int),((fs.length:Nat):Int)⟩:Int×Int)).1)),.lit (.int .i64 (((⟨(28:Int),((fs.length:Nat):Int)⟩:Int×Int)).2))]:List CD)=[.lit (.int .i64 (((X2 d z ss).2).1)),.lit (.int .i64 (((X2 d z ss).2).2))]from by first | (rw[eU];done) | rw[eU,e3]) rfl (congrArg (fun z=>AV.rd (YT z)) (show fs=((X2 d z ss).1)from by rw[eU])) rfl (congrArg AV.int (show(0:Int)=Zaq d z ss from by rw[e0])))
   ·
    try simp at hb4
    have eU:X2 d z ss=(fs,(0,0)):=by rw[X2,if_pos e0,Zjz f1_3,←f1_2,if_pos (by first | (simpa using hb4) | (simpa [e3]using hb4))]
    refine Za (nx (tsq (snK 1 tb (env':=[(70,_),(7,_),(10,_),(57,_),(59,_),(63,_),(65,_)]) rfl (sy (.agg (vdC (⟨0,0⟩:Int×Int))) (fun h=>XL (ps:=[]) (us:=[.int .i64 0,.int .i64 0]) ZcK rfl yz ZlV rfl (Q0 (.lit _ True.intro) (Q0 (.lit _ True.intro) Yp)) h.x) ?_))))
    refine snK 1 tb (env':=[(6,_),(71,_),(70,_),(7,_),(10,_),(57,_),(59,_),(63,_),(65,_)]) rfl (kw pm1 ?_)
    refine ZD (b:=b1) (off:=0) (es:=[_,_]) (news:=[_,_]) hJ hJ0 XF rfl rfl rfl (lb rfl) rfl (fun a w h=>⟨(h.get 3 rfl),(h.get 1 rfl)⟩) ?_
    refine snK 1 tb (env':=[(8,_),(6,_),(71,_),(70,_),(7,_),(10,_),(57,_),(59,_),(63,_),(65,_)]) rfl (seK [0,1,4] [_,_,_] rfl ?_)
    refine nx (tw pm1 (tw (fun h=>ZF hS h (m:=1) (s:=6) rfl) ?_))
    exact ZB (fun a w h=>Za9 (cs:=[.lit (.int .i64 ((⟨0,0⟩:Int×Int).1)),.lit (.int .i64 ((⟨0,0⟩:Int×Int).2))]) (m:=2) (q:=1) (z:=0) rfl Zad h rfl rfl (show([.lit (.int .i64 ((⟨0,0⟩:Int×Int).1)),.lit (.int .i64 ((⟨0,0⟩:Int×Int).2))]:List CD)=[.lit (.int .i64 (((X2 d z ss).2).1)),.lit (.int .i64 (((X2 d z ss).2).2))]from by first | (rw[eU];done) | rw[eU,e3]) rfl (congrArg (fun z=>AV.rd (YT z)) (show fs=((X2 d z ss).1)from by rw[eU])) rfl (congrArg AV.int (show(0:Int)=Zaq d z ss from by rw[e0])))
end Go.Proofs.YtaigaoflehfdcaaGreatDoor
namespace Go.Proofs.YtaigaoflehfdcaaGreatDoor
structure Exm where
 proof:List BA
 v:Int×Int
instance instInhExm:Inhabited Exm:=⟨⟨[],(0,0)⟩⟩

def ZiN (h:Hy):Bool:=decide ((60:Int)< ((h.text.length:Nat):Int))
def Zpf (s:BA):Bool:=decide ((400:Int)< ((s.size:Nat):Int))
def ZnN (m:Int) (f:Fr):Bool:=decide (m< ((f.proof.length:Nat):Int))||decide ((60:Int)< ((f.text.length:Nat):Int))||decide ((60:Int)< ((f.hyps.length:Nat):Int))||decide ((60:Int)< ((f.dummies.length:Nat):Int))||decide ((200:Int)< ((f.apart.length:Nat):Int))||decide ((300:Int)< ((f.wide.length:Nat):Int))||f.hyps.any ZiN||f.dummies.any ZiN||f.proof.any Zpf
def Zhi (d:Db) (n m:Int):Bool:=decide (((d.frames.length:Nat):Int)≤n)&&decide (((d.consts.length:Nat):Int)≤(200:Int))&&decide (((d.vars.length:Nat):Int)≤(60:Int))&& !(d.frames.any (ZnN m))
end Go.Proofs.YtaigaoflehfdcaaGreatDoor
set_option maxHeartbeats 8000000
set_option maxRecDepth 100000
namespace Go.Proofs.YtaigaoflehfdcaaGreatDoor
open Go.Proofs.Tryz (prog)
open Go.RowKit
theorem ZsP:prog.underlying 3=some (.int .i64):=by kernel_rfl
theorem ZsQ:prog.underlying 32=some (.int .i64):=by kernel_rfl
theorem Zl8:(prog.fieldsOf 38).toList=[{ name:= "Code",type:=32,offset:=0,embedded:=false,tag:= "",pkgPath:= "",byteOffset:=0 }, { name:= "Step",type:=3,offset:=1,embedded:=false,tag:= "",pkgPath:= "",byteOffset:=8 }]:=by kernel_rfl
theorem Zl7:prog.underlying 38=some (.struct (prog.fieldsOf 38)):=by kernel_rfl
theorem Zhm (c:Array Value) (i:Nat) (v:Value) (h:c[i]?=some v) (w:World):(part 3 c i).run prog w= .ok v w:=by
 simp[part,Tryz.isAgg3,h]
theorem Zhn (c:Array Value) (i:Nat) (v:Value) (h:c[i]?=some v) (w:World):(part 32 c i).run prog w= .ok v w:=by
 simp[part,Tryz.isAgg32,h]
theorem eqVd:EqVd prog 38:=by
 intro a b c d w x y
 refine⟨by simp[eqGuard],by simp[eqGuard],?_⟩
 unfold Op.equal Op.maxDepth
 rw[run_equalIn_struct w 9999 38 _ _ Zl7 (by kernel_rfl),Zl8]
 have e1:=fun(c:Array Value) (v:Value) (i:Nat) (h:c[i]?=some v)=>Zhn c i v h
 have e2:=fun(c:Array Value) (v:Value) (i:Nat) (h:c[i]?=some v)=>Zhm c i v h
 have q1:(Op.equalIn 9999 32 (.int .i64 a) (.int .i64 c)).run prog w= .ok (decide (a=c)) w:=run_equalIn_int w 9998 32 .i64 .i64 a c ZsQ
 have q2:(Op.equalIn 9999 3 (.int .i64 b) (.int .i64 d)).run prog w= .ok (decide (b=d)) w:=run_equalIn_int w 9998 3 .i64 .i64 b d ZsP
 simp only[Op.eqFields]
 rw[if_pos dz,if_pos dz]
 simp only[Sem.run_bind]
 rw[e1 _ (.int .i64 a) 0 rfl w,Result.andThen_ok,e1 _ (.int .i64 c) 0 rfl w,Result.andThen_ok,q1,Result.andThen_ok]
 by_cases h1:a=c
 · simp only[h1,decide_true,Bool.not_true,Bool.false_eq_true,if_false,Sem.run_bind]
   rw[e2 _ (.int .i64 b) 1 rfl w,Result.andThen_ok,e2 _ (.int .i64 d) 1 rfl w,Result.andThen_ok,q2,Result.andThen_ok]
   by_cases h2:b=d
   · simp[h2,Sem.run_pure]
   · simp[h2,Sem.run_pure]
 · simp[h1,Sem.run_pure]
section
variable {J:WP} (hJ:Stab J)
include hJ
theorem Zg4 (h0:Hy)  :Fn prog J 26 [.agg (hyC h0)] (.bool (ZiN h0)):=by
 refine fE Tryz.func26 fun S w0 hS hJ0=>?_
 clear hJ0
 refine hqs tb hJ [1000] [.ptr (hyC h0),_] [0] [_] rfl ⟨iBs hS hJ,trivial⟩ ?_
 refine hqs tb hJ [1001,1004] [_,_,.int (h0.text.length:Nat),_,_] [2] U2 rfl ⟨ZX Zs,trivial⟩ ?_
 refine ln 0 fun hl1=>?_
 exact tRn 1 (hE:=eB (rfl))
theorem Zl6 (s:BA)  :Fn prog J 29 [.str s] (.bool (Zpf s)):=by
 refine fE Tryz.func29 fun S w0 hS hJ0=>?_
 clear hJ0
 refine qs tb hJ [0] [_] [_] ?_
 refine hqs tb hJ [1003] [_,.int (s.size:Nat),_,_] [1] [_] rfl ⟨Zqj Yj,trivial⟩ ?_
 exact tRn 0 (hE:=eB (rfl))
theorem ZoZ (f:Fr) (m:Int)  :Fn prog J 25 [.agg (frC f),.ptr [lI m]] (.bool (ZnN m f)):=by
 refine fE Tryz.func25 fun S w0 hS hJ0=>?_
 clear hJ0
 refine hqs tb hJ [1,1000] [.ptr (frC f),_] [0] U2 rfl ⟨iBs hS hJ,trivial⟩ ?_
 refine qs tb hJ [0,1,1000] [_] U3 ?_
 refine hqs tb hJ [1001,1052] [_,_,.int (f.proof.length:Nat),_,_,_,_,_,.int (f.text.length:Nat),_,_,_,_,_,.int (f.hyps.length:Nat),_,_,_,_,_,.int (f.dummies.length:Nat),_,_,_,_,_,.int (f.apart.length:Nat),_,_,_,_,_,.int (f.wide.length:Nat),_,_,_,_,_,_,.bool (f.hyps.any ZiN),_,_,_,_,_,.bool (f.dummies.any ZiN),_,_,_,_,.bool (f.proof.any Zpf),_,_] [2,8,14,20,26,32,39,45,50] U2 rfl ⟨ZX Zs,ZX Zs,ZX Zx,ZX Zx,ZX ZH,ZX ZH,fun _ _ hk hx hl hc=>Y6 (QM hJ f.hyps 26 [] [] ZiN (fun q'=>(Zg4 hJ q').rr) (Zot)) Zja rfl (nm hS hk) (hx) ZI (Zb (hl.D 37 42 rfl hc) (Zb (hl.D 38 43 rfl hc) Zk)) (js hJ hx),fun _ _ hk hx hl hc=>Y6 (QM hJ f.dummies 26 [] [] ZiN (fun q'=>(Zg4 hJ q').rr) (Zot)) Zja rfl (nm hS hk) (hx) ZI (Zb (hl.D 43 48 rfl hc) (Zb (hl.D 44 49 rfl hc) Zk)) (js hJ hx),fun _ _ hk hx hl hc=>Y6 (Xs hJ f.proof 29 [] [] Zpf (fun q'=>(Zl6 hJ q').rr) (Zuw)) Ze0 rfl (nm hS hk) (hx) ZI (Zb (hl.D 49 54 rfl hc) (Zb (Qw 29) Zk)) (js hJ hx),trivial⟩ ?_
 refine ln 0 fun hl1=>?_
 exact tRn 1 (hE:=eB (rfl))
theorem ZsL (d:Db) (n m:Int)  :Fn prog J 6 [.agg (dbC d),.int n,.int m] (.bool (Zhi d n m)):=by
 refine fE Tryz.func6 fun S w0 hS hJ0=>?_
 clear hJ0
 refine hqs tb hJ [1,1000,1001] [.ptr (dbC d),.ptr [lI m],_] [0,1] U3 rfl ⟨iBs hS hJ,fun _ _ hk hx hl _=>Zdn rfl (hl.env 2 2 _ rfl rfl) (hS _ hk.size) (js hJ hx),trivial⟩ ?_
 refine hqs tb hJ [1001,1024] [_,_,.int (d.frames.length:Nat),_,_,_,_,_,.int (d.consts.length:Nat),_,_,_,_,_,.int (d.vars.length:Nat),_,_,_,_,_,.fn 25 [.ptr [lI m]],.bool (d.frames.any (ZnN m)),_,_,_] [2,8,14,20,21] U2 rfl ⟨ZX XS,ZX Zs,ZX Zs,fun _ _ _ hx hl _=>XV (caps:=[(.tmp 5)]) rfl (Zb (hl.env 2 5 _ rfl rfl) Zk) hx,fun _ _ hk hx hl hc=>Y6 (Zer hJ d.frames 25 [.ptr [lI m]] [] (ZnN m) (fun q'=>(ZoZ hJ q' m).rr) (Zux)) Zuy rfl (nm hS hk) (hx) ZI (Zb (hl.D 19 26 rfl hc) (Zb (hl.D 20 27 rfl hc) Zk)) (js hJ hx),trivial⟩ ?_
 refine ln 0 fun hl1=>?_
 exact tRn 1 (hE:=eB (rfl))
end
theorem ZtN (a i:Int) (b:Nat) (w:World) (h:w.cell? ⟨b,0,none⟩=some (.int .i64 i)):
 Calls prog 64 #[.int .i64 a,.pointer (some ⟨b,0,none⟩)] w fun e w'=>e= .returned (.bool (XX i a))∧w=w':=by
 by_cases h0:a<0
 · go_enter Tryz.func64,Tryz.ntmps64
   go_wp2
   go_ret
   exact⟨by simp[XX,h0],rfl⟩
 · go_enter Tryz.func64,Tryz.ntmps64
   go_wp2
   go_ret
   exact⟨by simp[XX];omega,rfl⟩
def Asks {α:Type} (P:Program) (f:Nat) (caps:Array Value) (enc:World→α→Value→Prop) (p:α→Bool) (xs:List α) (w:World):Prop:=
 ∀ x∈xs,∀ w' v,Keeps All w w'→enc w' x v→Calls P f (#[v]++caps) w' fun e w''=>e= .returned (.bool (p x))∧Keeps All w' w''
set_option maxHeartbeats 400000 in
theorem Zjq (f:Nat) (caps:Array Value) (eg:∀ args w,(callFunc f args).run prog w= .ok (.enter f args) w) (p:Int→Bool) (xs:List Int) (v:Value) (w:World)
 (hv:IsInts All w v xs) (hf:Asks prog f caps (fun _ x v=>v= .int .i64 x) p xs w):
 Calls prog 93 #[v,.func (.func f) #[] caps] w fun e w'=>e= .returned (.int .i64 (X7 p xs 0))∧Keeps All w w':=by
 obtain⟨a,cap,rfl,hl,hx,h⟩:=hv
 have H:=hid hf
 have Hx:=hid hx
 clear hf hx
 go_enter Tryz.func93,Tryz.ntmps93
 go_wp2
 go_loopw [5,8] (fun i5 i wr=>∃ k:Nat,k≤xs.length∧i= .int .i64 k∧Hid (X7 p xs 0=X7 p (xs.drop k) k)∧Keeps All w wr) (fun _ i _=>xs.length-(intOf i).toNat)
 case atStart=>exact⟨0,Nat.zero_le _,rfl,by simp[Hid],Keeps.refl _ _⟩
 case round=>
  obtain⟨k,hk,rfl,hn,hb⟩:=hrel
  by_cases hlt:k<xs.length
  · rcases h with⟨rfl,_⟩ | ⟨b,off,rfl,hB,_,hc⟩
    · simp at hlt
    have hcell:wr.cell? ⟨b,off+k,none⟩=some (.int .i64 xs[k]):=hb.cell (p:=⟨b,off+k,none⟩) trivial (hc k hlt)
    have hdrop:Hid (xs.drop k=xs[k]::xs.drop (k+1)):=List.drop_eq_getElem_cons hlt
    have Hc:=hid hc
    clear hc
    have hcall:=H.out xs[k] (List.getElem_mem hlt) wr _ hb rfl
    have Hq:∀ q:Bool,p xs[k]=q→Hid (p xs[k]=q):=fun q h=>h
    generalize hq:p xs[k]=q at hcall
    have hq':=Hq q hq
    clear Hq hq
    cases q
    · go_wp2_with ((with_reducible refine hcall.mono ?_);clear hcall;rintro e w1 ⟨rfl,hb1⟩)
      go_roundw
      case rel=>exact⟨k+1,by omega,by go_num,by rw[hn.out,hdrop.out];simp only[Hid,X7];simp[hq'.out],hb.trans hb1⟩
      case measure=>simp[intOf];omega
    · go_wp2_with ((with_reducible refine hcall.mono ?_);clear hcall;rintro e w1 ⟨rfl,hb1⟩)
      go_ret
      exact⟨by rw[hn.out,hdrop.out];simp only[X7];simp[hq'.out],hb.trans hb1⟩
  · go_wp2
    go_ret
    exact⟨by rw[hn.out,List.drop_eq_nil_of_le (by omega)];rfl,hb⟩
theorem Zfv (f:Nat) (caps:Array Value) (eg:∀ args w,(callFunc f args).run prog w= .ok (.enter f args) w) (p:Int→Bool) (xs:List Int) (v:Value) (w:World)
 (hv:IsInts All w v xs) (hf:Asks prog f caps (fun _ x v=>v= .int .i64 x) p xs w):
 Calls prog 63 #[v,.func (.func f) #[] caps] w fun e w'=>e= .returned (.bool (xs.any p))∧Keeps All w w':=by
 have hc:=Zjq f caps eg p xs v w hv hf
 have hb:=ZfU p xs 0
 have hl:xs.length≤140737488351232:=by obtain⟨_,_,_,hl,_⟩:=hv;exact hl
 have ha:=hid (ZeP p xs 0)
 generalize X7 p xs 0=q at hc hb ha
 obtain⟨hb1,hb2⟩:=hb
 clear hf hv eg
 go_enter Tryz.func63,Tryz.ntmps63
 go_wp2_with (go_at_call 93;refine hc.mono ?_;clear hc;rintro e w1 ⟨rfl,hb1⟩)
 go_ret
 exact⟨by rw[ha.out];rfl,hb1⟩
end Go.Proofs.YtaigaoflehfdcaaGreatDoor
