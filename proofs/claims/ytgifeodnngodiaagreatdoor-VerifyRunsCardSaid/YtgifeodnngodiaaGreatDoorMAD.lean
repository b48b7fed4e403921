/-
  CONTRACTS of the program: verdicts of theorems, of other proofs.
-/
import Derived.Test.YtgifeodnngodiaaGreatDoorMAC
set_option maxHeartbeats 8000000
set_option maxRecDepth 100000
namespace Go.Proofs.YtgifeodnngodiaaGreatDoor
open Go.RowKit
theorem Zae : ZcI Tryz.prog 30 [.int .i64 0, .int .i64 0] := ⟨fun i => (#[(0, 1), (1, 1)] : Array (Nat × Nat))[i]?, fun j hj => by rcases j with _ | _ | j <;> first | rfl | (simp at hj; omega), fun parts => by kernel_rfl⟩
theorem Zk4 {J : World → Prop} (hJ : Stab J) (d : Db) (n : Nat) (hn : n < d.frames.length) (hck : Zea d = 0) (hw : ∀ f ∈ d.frames, f.wide.length * 32 ≤ 140737488351232) (hpl : ∀ g ∈ d.frames, g.proof.length ≤ 100000 ∧ Zb8 g.proof ≤ 1000000000) : Fn Tryz.prog J 35 [.agg (dbC d), .int (n : Nat)] (.agg (vdC (ZfH d n))) := by
 refine Zx (N := 22) Tryz.func35 rfl rfl (lb rfl) fun S w0 hS hJ0 => ?_
 refine tw Z7 ?_
 refine tsq ?_
 refine sq (.ptr (dbC d)) rfl rfl (lb rfl) (fun _ _ h => YQ rfl (h.get 0 rfl) (Zn hS _ h.keep h.x _ (Nat.le_refl _)) (jo hJ h.x)) ?_
 refine ZU QY hJ rfl rfl rfl (lb rfl) fun b1 => ?_
 refine seK [0,1,3] [_,_,_] rfl ?_
 refine nx (Zo (ZL tb hJ [0,1,2,1001,1006] [_,_,_,.ptr (frC (ge d.frames n)),_,_,_] [3] [_,_,_,_,_] rfl ⟨iIx YB, trivial⟩ ?_))
 refine ln 3 fun hl1 => ?_
 refine cj 4 (fun hb1 => ?_) fun hb1 => ?_
 ·
  try simp at hb1
  refine tsq ?_
  refine sq (.agg (vdC (⟨0, 0⟩ : Int × Int))) rfl rfl (lb rfl) (fun _ _ h => Yw (ps := []) (us := [.int .i64 0, .int .i64 0]) Zae rfl (by simp) ZeI rfl (YJ (.lit _ True.intro) (YJ (.lit _ True.intro) ZJ)) h.x) ?_
  refine ZD (b := b1) (off := 0) (cs := [.lit (.int .i64 0), .lit (.int .i64 0)]) (es := [.lit (.int .i64 ((⟨0, 0⟩ : Int × Int).1)), .lit (.int .i64 ((⟨0, 0⟩ : Int × Int).2))]) (news := [.lit (.int .i64 ((⟨0, 0⟩ : Int × Int).1)), .lit (.int .i64 ((⟨0, 0⟩ : Int × Int).2))]) hJ hJ0 Xt rfl rfl rfl (lb rfl) rfl (fun a w h => ⟨(h.get 1 rfl), (h.get 0 rfl)⟩) ?_
  refine seK [1] [_] rfl ?_
  exact nx (Zi (fun a w h => QA (cs := [.lit (.int .i64 ((⟨0, 0⟩ : Int × Int).1)), .lit (.int .i64 ((⟨0, 0⟩ : Int × Int).2))]) (m := 0) rfl XW h rfl rfl (show ([.lit (.int .i64 ((⟨0, 0⟩ : Int × Int).1)), .lit (.int .i64 ((⟨0, 0⟩ : Int × Int).2))] : List CD) = [.lit (.int .i64 ((ZfH d n).1)), .lit (.int .i64 ((ZfH d n).2))] from by simp [ZfH, hb1])))
 ·
  try simp at hb1
  refine Zf (nx (Zo (fun a w h => Yv (γ := Unit) (fun ix' => ([.agg (dbC d), .int (n : Nat), .ptr [QG d.frames], .rd (QG d.frames), .int (n : Nat), .ptr (frC (ge d.frames n)), .ptr [Zb ((ge d.frames n).proof)], .rd (Zb ((ge d.frames n).proof)), .agg (vdC (Zb7 d.frames d.vars (ge d.frames n) (QU (d.frames.take n)) ((ge d.frames n).proof))), .any] : List AV).getD ix' .any) (fun ix' => ([true, true, true, true, true, true, true, true, true, true] : List Bool).getD ix' true) [(4, fun (g : Unit) => .at b1 0)] (fun (j' : Nat) (g : Unit) => match j' with | 0 => [OB.var b1 [.lit (.int .i64 0), .lit (.int .i64 0)]] | _ => [OB.var b1 [.lit (.int .i64 ((Zb7 d.frames d.vars (ge d.frames n) (QU (d.frames.take n)) ((ge d.frames n).proof)).1)), .lit (.int .i64 ((Zb7 d.frames d.vars (ge d.frames n) (QU (d.frames.take n)) ((ge d.frames n).proof)).2))]]) (fun (k' : Nat) (g : Unit) => match k' with | 0 => undef | _ => undef) [9] 0 () (fun _ => rfl) h hJ Ye rfl rfl rfl rfl rfl rfl (fun j' g hj p hp => by rcases j' with _ | _ | _ | j' <;> first | exact hp | exact List.mem_cons_of_mem _ hp | exact List.mem_cons_of_mem _ (List.mem_cons_of_mem _ hp) | (exfalso; omega)) ⟨?o3_1_0, ⟨?o3_1_1, ⟨?o3_1_2, ⟨?o3_1_3, ⟨?o3_1_4, ⟨?o3_1_5, ⟨?o3_1_6, ⟨?o3_1_7, ⟨?o3_1_8, ⟨?o3_1_9, trivial⟩⟩⟩⟩⟩⟩⟩⟩⟩⟩ ⟨?e3_1_0, trivial⟩ ⟨.old 0 4 _ rfl rfl, trivial⟩ ?n3_1)))
  exact oX rfl fun hx hl => Zbr Zb5 rfl (hl.env 1 2 _ rfl rfl) (Nat.le_refl _) hx
  exact oX rfl fun hx hl => Yl rfl (hl.env 2 1 _ rfl rfl) hx
  exact oX rfl fun hx hl => ZW Qu rfl (hl.env 1 2 _ rfl rfl) hx
  exact oX rfl fun hx hl => Zz Zge rfl (hl.D 2 15 rfl rfl) hx
  exact oX rfl fun hx hl => Yl rfl (hl.env 2 1 _ rfl rfl) hx
  exact oX rfl fun hx hl => Yj (i := (n : Int)) YB rfl (hl.D 3 16 rfl rfl) (hl.D 4 17 rfl rfl) (Int.natCast_nonneg _) (Yz (xs := d.frames) (k := n) (by first | omega | (simp; omega) | grind [Ze])) rfl hx
  exact oX rfl fun hx hl => ZW Zco rfl (hl.D 5 18 rfl rfl) hx
  exact oX rfl fun hx hl => Zz Y8 rfl (hl.D 6 19 rfl rfl) hx
  exact oY rfl fun hk hx hl => Zcy (ZfW hJ (d := d) (n := n) (t := ((ge d.frames n).proof)) (by first | omega | (simp; omega) | grind [Ze]) (by exact ZhE hck) (by exact fun g hg => ⟨(XU hck g hg).1, (XU hck g hg).2.1⟩) (by exact Zcm (ZbS _ (by omega)) (by omega)) (by exact (XU hck _ (Ze (by omega))).2.2) (by exact hw) (by exact (hpl _ (Ze hn)).1) (by exact (hpl _ (Ze hn)).2)) Zmw rfl (Zn hS _ hk hx) (hx.1) (Za (hl.D 0 13 rfl rfl) (Za (hl.D 1 14 rfl rfl) (Za (hl.D 7 20 rfl rfl) Zc))) (jo hJ hx)
  exact Zl rfl
  case e3_1_0 => exact ⟨_, rfl, rfl, rfl, rfl, fun g _ w hk hx hl _ => (by obtain ⟨us2, hv2, hr3⟩ := QT (cs := [.lit (.int .i64 ((Zb7 d.frames d.vars (ge d.frames n) (QU (d.frames.take n)) ((ge d.frames n).proof)).1)), .lit (.int .i64 ((Zb7 d.frames d.vars (ge d.frames n) (QU (d.frames.take n)) ((ge d.frames n).proof)).2))]) (hl.D 8 21 rfl rfl); exact Zt (Xb (off := 0) (cs := [.lit (.int .i64 0), .lit (.int .i64 0)]) (news := [.lit (.int .i64 ((Zb7 d.frames d.vars (ge d.frames n) (QU (d.frames.take n)) ((ge d.frames n).proof)).1)), .lit (.int .i64 ((Zb7 d.frames d.vars (ge d.frames n) (QU (d.frames.take n)) ((ge d.frames n).proof)).2))]) (es := [.lit (.int .i64 ((Zb7 d.frames d.vars (ge d.frames n) (QU (d.frames.take n)) ((ge d.frames n).proof)).1)), .lit (.int .i64 ((Zb7 d.frames d.vars (ge d.frames n) (QU (d.frames.take n)) ((ge d.frames n).proof)).2))]) (us := us2) hJ hJ0 Xt rfl hk hx (hl.env 0 4 _ rfl rfl) (by rw [hv2]; rfl) hr3 (lb rfl) rfl) fun v w' hp => ⟨g, rfl, fun _ _ => rfl, fun e => (by cases e), hp⟩)⟩
  clear a w h
  intro _
  dsimp only [List.map]
  exact nx (Zi (fun a w h => QA (cs := [.lit (.int .i64 ((Zb7 d.frames d.vars (ge d.frames n) (QU (d.frames.take n)) ((ge d.frames n).proof)).1)), .lit (.int .i64 ((Zb7 d.frames d.vars (ge d.frames n) (QU (d.frames.take n)) ((ge d.frames n).proof)).2))]) (m := 0) rfl XW h rfl rfl (show ([.lit (.int .i64 ((Zb7 d.frames d.vars (ge d.frames n) (QU (d.frames.take n)) ((ge d.frames n).proof)).1)), .lit (.int .i64 ((Zb7 d.frames d.vars (ge d.frames n) (QU (d.frames.take n)) ((ge d.frames n).proof)).2))] : List CD) = [.lit (.int .i64 ((ZfH d n).1)), .lit (.int .i64 ((ZfH d n).2))] from by simp [ZfH, hb1])))
theorem Zle {J : World → Prop} (hJ : Stab J) (d : Db) (z : Int) (hw : ∀ f ∈ d.frames, f.wide.length * 32 ≤ 140737488351232) (hG : XY J) (hpl : ∀ g ∈ d.frames, g.proof.length ≤ 100000 ∧ Zb8 g.proof ≤ 1000000000) : Fn Tryz.prog J 9 [.agg (dbC d), .int z] (.tup [.agg (vdC ((Zd0 d z).1)), .int ((Zd0 d z).2)]) := by
 refine Zx (N := 17) Tryz.func9 rfl rfl (lb rfl) fun S w0 hS hJ0 => ?_
 refine tw Z7 ?_
 refine tsq ?_
 refine sq (.ptr (dbC d)) rfl rfl (lb rfl) (fun _ _ h => YQ rfl (h.get 0 rfl) (Zn hS _ h.keep h.x _ (Nat.le_refl _)) (jo hJ h.x)) ?_
 refine ZU QY hJ rfl rfl rfl (lb rfl) fun b1 => ?_
 refine snK 1 tb rfl ?_
 refine seK [1,2,4] [_,_,_] rfl ?_
 refine nx (Zo (ZL tb hJ [0,1,2,1003] [_,_,.int (YV d z),_] [2] [_,_,_,_] rfl ⟨iFo hS hJ (ZbP hJ (d := d) (z := z) (by exact hw) (by exact hG)) Zfi, trivial⟩ ?_))
 refine qso tb hJ [0,1,2,3,1001] [_,_] [_,_,_,_,_] ?_
 refine cj 4 (fun hb1 => ?_) fun hb1 => ?_
 try simp at hb1
 refine tsq ?_
 refine sq (.agg (vdC (⟨0, 0⟩ : Int × Int))) rfl rfl (lb rfl) (fun _ _ h => Yw (ps := []) (us := [.int .i64 0, .int .i64 0]) Zae rfl (by simp) ZeI rfl (YJ (.lit _ True.intro) (YJ (.lit _ True.intro) ZJ)) h.x) ?_
 refine snK 1 tb rfl ?_
 refine ZD (b := b1) (off := 0) (cs := [.lit (.int .i64 0), .lit (.int .i64 0)]) (es := [.lit (.int .i64 ((⟨0, 0⟩ : Int × Int).1)), .lit (.int .i64 ((⟨0, 0⟩ : Int × Int).2))]) (news := [.lit (.int .i64 ((⟨0, 0⟩ : Int × Int).1)), .lit (.int .i64 ((⟨0, 0⟩ : Int × Int).2))]) hJ hJ0 Xt rfl rfl rfl (lb rfl) rfl (fun a w h => ⟨(h.get 2 rfl), (h.get 1 rfl)⟩) ?_
 refine snK 1 tb rfl ?_
 refine seK [0,3] [_,_] rfl ?_
 exact nx (Zi (fun a w h => Zck (cs := [.lit (.int .i64 ((⟨0, 0⟩ : Int × Int).1)), .lit (.int .i64 ((⟨0, 0⟩ : Int × Int).2))]) (m := 1) (q := 0) rfl XW h rfl rfl (show ([.lit (.int .i64 ((⟨0, 0⟩ : Int × Int).1)), .lit (.int .i64 ((⟨0, 0⟩ : Int × Int).2))] : List CD) = [.lit (.int .i64 (((Zd0 d z).1).1)), .lit (.int .i64 (((Zd0 d z).1).2))] from by simp [Zd0, hb1]) rfl (eI (by simp [Zd0, hb1]))))
 try simp at hb1
 have ha : YV d z = 0 := by simpa using hb1
 obtain ⟨hck, hz0, hz1⟩ := Zb3 ha
 refine tw (sa 2 rfl (show (.int z : AV) = .int (z.toNat : Nat) from congrArg AV.int (by omega))) ?_
 refine Zf (nx (tsq ?_))
 refine snK 2 tb rfl ?_
 refine sq (.agg (vdC (ZfH d z.toNat))) rfl rfl (lb rfl) (fun _ _ h => Zcy (Zk4 hJ (d := d) (n := z.toNat) (by first | omega | (simp; omega) | grind [Ze]) (by exact hck) (by exact hw) (by exact hpl)) Zr4 rfl (Zn hS _ h.keep h.x) (h.x.1) (Za (h.get 1 rfl) (Za (h.get 0 rfl) Zc)) (jo hJ h.x)) ?_
 refine ZD (b := b1) (off := 0) (cs := [.lit (.int .i64 0), .lit (.int .i64 0)]) (es := [.lit (.int .i64 ((ZfH d z.toNat).1)), .lit (.int .i64 ((ZfH d z.toNat).2))]) (news := [.lit (.int .i64 ((ZfH d z.toNat).1)), .lit (.int .i64 ((ZfH d z.toNat).2))]) hJ hJ0 Xt rfl rfl rfl (lb rfl) rfl (fun a w h => ⟨(h.get 3 rfl), (h.get 0 rfl)⟩) ?_
 refine snK 1 tb rfl ?_
 refine seK [0,4] [_,_] rfl ?_
 exact nx (Zi (fun a w h => Zck (cs := [.lit (.int .i64 ((ZfH d z.toNat).1)), .lit (.int .i64 ((ZfH d z.toNat).2))]) (m := 1) (q := 0) rfl XW h rfl rfl (show ([.lit (.int .i64 ((ZfH d z.toNat).1)), .lit (.int .i64 ((ZfH d z.toNat).2))] : List CD) = [.lit (.int .i64 (((Zd0 d z).1).1)), .lit (.int .i64 (((Zd0 d z).1).2))] from by simp [Zd0, hb1]) rfl (eI (by simp [Zd0, hb1]))))
theorem Zlf {J : World → Prop} (hJ : Stab J) (d : Db) (z : Int) (t : List ByteArray) (hw : ∀ f ∈ d.frames, f.wide.length * 32 ≤ 140737488351232) (hG : XY J) (hl : t.length ≤ 100000) (hs : Zb8 t ≤ 1000000000) : Fn Tryz.prog J 13 [.agg (dbC d), .int z, .rd (Zb t)] (.tup [.agg (vdC ((Zce d z t).1)), .int ((Zce d z t).2)]) := by
 refine Zx (N := 20) Tryz.func13 rfl rfl (lb rfl) fun S w0 hS hJ0 => ?_
 refine tw Z7 ?_
 refine ln 2 fun hl1 => ?_
 refine tsq ?_
 refine sq (.ptr (dbC d)) rfl rfl (lb rfl) (fun _ _ h => YQ rfl (h.get 0 rfl) (Zn hS _ h.keep h.x _ (Nat.le_refl _)) (jo hJ h.x)) ?_
 refine ZU QY hJ rfl rfl rfl (lb rfl) fun b1 => ?_
 refine snK 1 tb rfl ?_
 refine seK [1,2,4,5] [_,_,_,_] rfl ?_
 refine nx (Zo (ZL tb hJ [0,1,2,3,1003] [_,_,.int (YV d z),_] [2] [_,_,_,_,_] rfl ⟨iFo hS hJ (ZbP hJ (d := d) (z := z) (by exact hw) (by exact hG)) Zfi, trivial⟩ ?_))
 refine qso tb hJ [0,1,2,3,4,1001] [_,_] [_,_,_,_,_,_] ?_
 refine cj 5 (fun hb1 => ?_) fun hb1 => ?_
 try simp at hb1
 refine tsq ?_
 refine sq (.agg (vdC (⟨0, 0⟩ : Int × Int))) rfl rfl (lb rfl) (fun _ _ h => Yw (ps := []) (us := [.int .i64 0, .int .i64 0]) Zae rfl (by simp) ZeI rfl (YJ (.lit _ True.intro) (YJ (.lit _ True.intro) ZJ)) h.x) ?_
 refine snK 1 tb rfl ?_
 refine ZD (b := b1) (off := 0) (cs := [.lit (.int .i64 0), .lit (.int .i64 0)]) (es := [.lit (.int .i64 ((⟨0, 0⟩ : Int × Int).1)), .lit (.int .i64 ((⟨0, 0⟩ : Int × Int).2))]) (news := [.lit (.int .i64 ((⟨0, 0⟩ : Int × Int).1)), .lit (.int .i64 ((⟨0, 0⟩ : Int × Int).2))]) hJ hJ0 Xt rfl rfl rfl (lb rfl) rfl (fun a w h => ⟨(h.get 2 rfl), (h.get 1 rfl)⟩) ?_
 refine snK 1 tb rfl ?_
 refine seK [0,3] [_,_] rfl ?_
 exact nx (Zi (fun a w h => Zck (cs := [.lit (.int .i64 ((⟨0, 0⟩ : Int × Int).1)), .lit (.int .i64 ((⟨0, 0⟩ : Int × Int).2))]) (m := 1) (q := 0) rfl XW h rfl rfl (show ([.lit (.int .i64 ((⟨0, 0⟩ : Int × Int).1)), .lit (.int .i64 ((⟨0, 0⟩ : Int × Int).2))] : List CD) = [.lit (.int .i64 (((Zce d z t).1).1)), .lit (.int .i64 (((Zce d z t).1).2))] from by simp [Zce, hb1]) rfl (eI (by simp [Zce, hb1]))))
 try simp at hb1
 have ha : YV d z = 0 := by simpa using hb1
 obtain ⟨hck, hz0, hz1⟩ := Zb3 ha
 refine tw (sa 2 rfl (show (.int z : AV) = .int (z.toNat : Nat) from congrArg AV.int (by omega))) ?_
 refine Zf (nx (tsq ?_))
 refine snK 3 tb rfl ?_
 refine sq (.agg (vdC (Zb7 d.frames d.vars (ge d.frames z.toNat) (QU (d.frames.take z.toNat)) t))) rfl rfl (lb rfl) (fun _ _ h => Zcy (ZfW hJ (d := d) (n := z.toNat) (t := t) (by first | omega | (simp; omega) | grind [Ze]) (by exact ZhE hck) (by exact fun g hg => ⟨(XU hck g hg).1, (XU hck g hg).2.1⟩) (by exact Zcm (ZbS _ (by omega)) (by omega)) (by exact (XU hck _ (Ze (by omega))).2.2) (by exact hw) (by exact hl) (by exact hs)) Zmw rfl (Zn hS _ h.keep h.x) (h.x.1) (Za (h.get 2 rfl) (Za (h.get 1 rfl) (Za (h.get 0 rfl) Zc))) (jo hJ h.x)) ?_
 refine ZD (b := b1) (off := 0) (cs := [.lit (.int .i64 0), .lit (.int .i64 0)]) (es := [.lit (.int .i64 ((Zb7 d.frames d.vars (ge d.frames z.toNat) (QU (d.frames.take z.toNat)) t).1)), .lit (.int .i64 ((Zb7 d.frames d.vars (ge d.frames z.toNat) (QU (d.frames.take z.toNat)) t).2))]) (news := [.lit (.int .i64 ((Zb7 d.frames d.vars (ge d.frames z.toNat) (QU (d.frames.take z.toNat)) t).1)), .lit (.int .i64 ((Zb7 d.frames d.vars (ge d.frames z.toNat) (QU (d.frames.take z.toNat)) t).2))]) hJ hJ0 Xt rfl rfl rfl (lb rfl) rfl (fun a w h => ⟨(h.get 4 rfl), (h.get 0 rfl)⟩) ?_
 refine snK 1 tb rfl ?_
 refine seK [0,5] [_,_] rfl ?_
 exact nx (Zi (fun a w h => Zck (cs := [.lit (.int .i64 ((Zb7 d.frames d.vars (ge d.frames z.toNat) (QU (d.frames.take z.toNat)) t).1)), .lit (.int .i64 ((Zb7 d.frames d.vars (ge d.frames z.toNat) (QU (d.frames.take z.toNat)) t).2))]) (m := 1) (q := 0) rfl XW h rfl rfl (show ([.lit (.int .i64 ((Zb7 d.frames d.vars (ge d.frames z.toNat) (QU (d.frames.take z.toNat)) t).1)), .lit (.int .i64 ((Zb7 d.frames d.vars (ge d.frames z.toNat) (QU (d.frames.take z.toNat)) t).2))] : List CD) = [.lit (.int .i64 (((Zce d z t).1).1)), .lit (.int .i64 (((Zce d z t).1).2))] from by simp [Zce, hb1]) rfl (eI (by simp [Zce, hb1]))))
end Go.Proofs.YtgifeodnngodiaaGreatDoor
