/-
  DERIVED: THE SHELF's CONTRACTS AT THIS DUMP, IN PLAIN WORDS (tools/lay-plain.mjs out of 'TryzShelf.lean', which tools/lay-shelf.mjs wrote): THE SAME DECLARATIONS UNDER THE SAME NAMES: 'import', 'namespace', 'open', 'def', 'theorem' AND NOTHING ELSE: no command of the shelf's: FOR A HAND-IN. Each laying: the table of numbers ('.._ren') and one theorem, a field a fact of the dump's own or the kernel's comparison; each contract: ONE APPLICATION.
  CONTRACTS of the program: frames' small functions.
  CONTRACTS of the program: classes of bytes, labels, symbols.
  CONTRACTS of the program: whether a word can stand in a proof.
  PLAIN SPECIFICATIONS: the sets of a frame, as the program looks at them.
  CONTRACTS of the program: what is known of a database.
  CONTRACTS of the program: the sets of a frame, closures.
  CONTRACTS of the library: room, rows in a row, copies of maps.
  PLAIN SPECIFICATIONS: a frame's error by what the program knows, and what it knows behind it.
  CONTRACTS of the program: a frame.
  PLAIN LAW: what the program knows of a database and what the reference computes anew.
-/
import Derived.Shelf.Strings.Builder1
import Derived.Shelf.Small.Utf8
import Derived.Shelf.Small.Bits
import Derived.Shelf.Small.Strs
import Derived.Shelf.Strconv.Itoa0
import Derived.Shelf.Strings.Search1
import Derived.Shelf.GgClosure.StringsIndexFunc
import Derived.Ground.GgwProg
import Derived.Shelf.GgClosure.StringsIndexFuncTop
import Derived.Shelf.GgClosure.StringsRunes
import Derived.Shelf.Strings.FuncGrows
import Derived.Test.YtgifeodnngodiaaGreatDoorProg
import Derived.Test.YtgifeodnngodiaaGreatDoorLH
import Derived.Test.YtgifeodnngodiaaGreatDoorLS
import Derived.Test.YtgifeodnngodiaaGreatDoorLI
import Derived.Test.YtgifeodnngodiaaGreatDoorLP
import Derived.Test.YtgifeodnngodiaaGreatDoorLJ
import Derived.Test.YtgifeodnngodiaaGreatDoorLO
namespace Go.Proofs
open Go.Shelf
def Tryz.lays106_ren : Go.Shelf.Ren := ⟨fun | 106 => 140 | 213 => 158 | 265 => 167 | n => n, fun | 9 => 9 | 3 => 3 | n => n, fun | n => n⟩
theorem Tryz.lays106 : Go.Proofs.Lays.n106 Tryz.prog Tryz.lays106_ren := {
  mixed := by kernel_rfl
  f106 := Tryz.func140.trans (congrArg some (by kernel_rfl))
  f213 := Tryz.func158.trans (congrArg some (by kernel_rfl))
  f265 := Tryz.func167.trans (congrArg some (by kernel_rfl))
  t3 := Tryz.underlying3
  a3 := Tryz.isAgg3
  z3 := Tryz.sizeOf3
  v3 := Tryz.zeroValue3
  t9 := Tryz.underlying9
  a9 := Tryz.isAgg9
  z9 := Tryz.sizeOf9
  v9 := Tryz.zeroValue9 }
open Go.RowKit in
theorem Tryz.strings_Compare (a b : ByteArray) (w : World) :
    Calls Tryz.prog 140 #[.string a, .string b] w fun e w' => e = .returned (.int .i64 (Lib.compareBytes a.data.toList b.data.toList)) ∧ w' = w := Any.strings_Compare Tryz.lays106 a b w
end Go.Proofs
set_option maxHeartbeats 8000000
set_option maxRecDepth 100000
namespace Go.Proofs.YtgifeodnngodiaaGreatDoor
open Go.RowKit

theorem ZfQ {J : World → Prop} (_ : Stab J) (x : ByteArray) (y : ByteArray) : Fn Tryz.prog J 140 [.str x, .str y] (.int (ZpB x y)) := fun S w vs hS hJ0 h => by
  simp only [RelL] at h
  obtain ⟨u, _, rfl, h1, u2, _, rfl, h2, rfl⟩ := h
  rw [h1.lit, h2.lit]
  exact Calls.mono (Tryz.strings_Compare x y w) fun e w' ⟨he, hw⟩ => ⟨_, he, Rel.of_lit _, hw ▸ Keeps.refl _ _, hw ▸ hJ0⟩

theorem ZdM {J : World → Prop} (hJ : Stab J) (x : Pr) (y : Pr)  : Fn Tryz.prog J 124 [.agg (prC x), .agg (prC y)] (.int (Zgl x y)) := by
 refine Zx (N := 19) Tryz.func124 rfl rfl (lb rfl) fun S w0 hS hJ0 => ?_
 clear hJ0
 refine hqs tb hJ [1000,1001] [.ptr (prC x),.ptr (prC y),_] [0,1] [_,_] rfl ⟨fun _ _ hk hx hl _ => YU rfl (hl.env 0 0 _ rfl rfl) (hS _ hk.size) (js hJ hx), fun _ _ hk hx hl _ => YU rfl (hl.env 1 1 _ rfl rfl) (hS _ hk.size) (js hJ hx), trivial⟩ ?_
 refine Zn (hqs tb hJ [0,1,1005] [_,_,_,_,.int (ZpB x.a y.a),_] [4] [_,_,_] rfl ⟨iFn hS hJ (ZfQ hJ (x := x.a) (y := y.a) ) ZiD, trivial⟩ ?_)
 refine qs tb hJ [0,1,2,1001] [_,_] [_,_,_,_] ?_
 refine cj 3 (fun hb1 => ?_) fun hb1 => ?_
 try simp at hb1
 refine qs tb hJ [1001] [_,_] [_] ?_
 exact Zi (rtn (m := 0) rfl rfl (eI (by grind [Zgl])))
 try simp at hb1
 refine Zf (nx (hqs tb hJ [1005] [_,_,_,_,.int (ZpB x.b y.b),_] [4] [_] rfl ⟨iFn hS hJ (ZfQ hJ (x := x.b) (y := y.b) ) ZiD, trivial⟩ ?_))
 exact Zi (rtn (m := 0) rfl rfl (eI (by grind [Zgl])))
theorem ZfE {J : World → Prop} (hJ : Stab J) (x : Hy) (y : Hy)  : Fn Tryz.prog J 120 [.agg (hyC x), .agg (hyC y)] (.bool (Zpt x y)) := by
 refine Zx (N := 24) Tryz.func120 rfl rfl (lb rfl) fun S w0 hS hJ0 => ?_
 clear hJ0
 refine hqs tb hJ [1000,1001] [.ptr (hyC x),.ptr (hyC y),_] [0,1] [_,_] rfl ⟨fun _ _ hk hx hl _ => YU rfl (hl.env 0 0 _ rfl rfl) (hS _ hk.size) (js hJ hx), fun _ _ hk hx hl _ => YU rfl (hl.env 1 1 _ rfl rfl) (hS _ hk.size) (js hJ hx), trivial⟩ ?_
 refine hqs tb hJ [1019] [_,_,_,_,_,_,_,_,_,_,.bool (x.floating == y.floating),_,_,_,_,_,_,.bool (decide (x.text = y.text)),_,_] [10,17] [_] rfl ⟨fun _ _ _ hx hl hc => r_eqlB undb_4 rfl (hl.dep 7 12 _ rfl rfl rfl hc) (hl.dep 9 14 _ rfl rfl rfl hc) hx, iFn hS hJ (Zh5 hJ (xs := x.text) (ys := y.text) ) Zl3, trivial⟩ ?_
 exact Zi (rtn (m := 0) rfl rfl (eB (by first | rfl | grind [Zc])))
theorem Zjg {J : World → Prop} (hJ : Stab J) (hs : List Hy) (t : List ByteArray) (b : hs.length ≤ 40) : Fn Tryz.prog J 123 [.rd (Xr hs), .rd (Zb t)] (.rd (Zbx (t :: (X8 hs).map Hy.text))) := by
 refine Zx (N := 26) Tryz.func123 rfl rfl (lb rfl) fun S w0 hS hJ0 => ?_
 refine tw Yn ?_
 refine ln 0 fun hl1 => ?_
 refine ln 1 fun hl2 => ?_
 refine qso tb hJ [0,1] [_] [_,_] ?_
 refine tsq ?_
 refine snK 1 tb rfl ?_
 refine Zp5 Z5 ZcM hJ rfl rfl rfl (lb rfl) (fun _ _ h => (h.get 0 rfl)) fun v1 => ?_
 refine snK 1 tb rfl ?_
 refine seK [0,3] [_,_] rfl ?_
 refine nx (Zn (ZO tb hJ [0,1000,1001,1002] [_,.int (hs.length : Nat),_] [1] [_,_,_,_] rfl ⟨Yz ZF, trivial⟩ ?_))
 refine Zh (lpo (ι := Nat × Value × (List (List ByteArray))) (fun (k, _, out) => (k ≤ hs.length) ∧ (out = t :: (X8 (hs.take k)).map Hy.text) ∧ (out.length ≤ k + 1)) (fun (_, v, out) => [OB.row v 22 1 (out.map Zg)]) (fun (k, v, _) => [(12, .int (k : Nat)), (5, .lit v)]) (fun (k, _, _) => hs.length - k) [1,2,3,0] [_,_] (0, v1, [t]) ⟨Nat.zero_le _, by simp [X8], by simp⟩ ?_)
 rintro ⟨k, v, out⟩ ⟨f1_1, f1_2, f1_3⟩
 refine qso tb hJ [0,1,2,3,1000] [_] [_,_,_,_,_] ?_
 refine cjS 4 (fun hb1 => ?_) fun hb1 => ?_
 try simp at hb1
 refine Zf (nx (Zn (Zh (tsq ?_))))
 refine sq (.ptr (hyC (ge hs k))) rfl rfl (lb rfl) (fun _ _ h => Yg (i := (k : Int)) ZH rfl (h.get 0 rfl) (h.get 2 rfl) (Int.natCast_nonneg _) (Yt (xs := hs) (k := k) (by first | omega | (simp; omega) | grind [Zc])) rfl h.x) ?_
 refine snK 1 tb rfl ?_
 refine Qa (cs := hyC (ge hs k)) ZaT rfl rfl rfl (lb rfl) rfl rfl rfl (by decide) (m := 0) rfl rfl (fun a w h => Zr hS _ h.keep h.x _ (Nat.le_refl _)) (fun a w h w' hk' => Yp hJ _ _ hk' h.x) ?_
 refine seK [0,3,4,5,6] [_,_,_,_,_] rfl ?_
 refine nx (qso tb hJ [0,1,2,3,4,1002] [_,_,_] [_,_,_,_,_,_] ?_)
 refine cj 5 (fun hb2 => ?_) fun hb2 => ?_
 try simp at hb2
 refine ZA (snK 3 tb rfl ?_)
 refine sq (.rd (Zbx ([(ge hs k).text]))) rfl rfl (lb rfl) (fun _ _ h => Y1 Z5 ZcM rfl (h.get 0 rfl) (Zr hS _ h.keep h.x _ (Nat.le_refl _)) (jo hJ h.x)) ?_
 refine XB (f := Zg) (m := 3) (s := 19) out ([(ge hs k).text]) (fun _ => rfl) ZbU hJ hJ0 rfl rfl rfl (lb rfl) rfl rfl (fun a w h => (h.get 0 rfl)) (by first | omega | (simp; omega) | grind [Zc]) (by first | omega | (simp; omega) | grind [Zc]) fun v2 => ?_
 refine snK 1 tb rfl ?_
 refine seK [0,2,3,7,8,9] [_,_,_,_,_,_] rfl ?_
 refine nx (ln 1 fun hl3 => ?_)
 refine ln 2 fun hl4 => ?_
 refine Y6 tb hJ [0,3,4,1001] [.int (k + 1 : Nat),_] [0] [_,_,_,_] rfl ⟨YK, trivial⟩ ?_
 exact XR (k + 1, v2, out ++ ([(ge hs k).text])) [1,2,3,0] ⟨by omega, by rw [X8, YW (by omega), f1_2]; simp [X8, hb2], by simp; omega⟩
 try simp at hb2
 refine Zf (nx (Y6 tb hJ [1,2,4,1001] [.int (k + 1 : Nat),_] [0] [_,_,_,_] rfl ⟨YK, trivial⟩ ?_))
 exact XR (k + 1, v, out) [0,1,3,2] ⟨by omega, by rw [X8, YW (by omega), f1_2]; simp [X8, hb2], by omega⟩
 try simp at hb1
 refine ZC (nx (qso tb hJ [1001] [_,_] [_] ?_))
 refine tw (fun h => YC hS h (m := 0) (s := 4) rfl) ?_
 exact Zi (Qg (m := 0) rfl rfl (congrArg (fun z => AV.rd (Zbx z)) (show out = (t :: (X8 hs).map Hy.text) from by rw [f1_2, ZL (by omega)])))
theorem ZgZ {J : World → Prop} (hJ : Stab J) (M : Nat) (vs : List ByteArray) (l : List (List ByteArray))  : FnM (ι := Nat) Tryz.prog J 122 [OB.set keyS M vs] [.lit (.map (some M)), .rd (Zbx l)] [] (fun i' => .lit (.map (some (i')))) (fun i' => [OB.set keyS (i') (Za0 vs l.flatten)]) := by
 refine Z8 (N := 31) Tryz.func122 rfl rfl (lb rfl) fun S w0 R hS hJ0 hH => ?_
 refine Ya (B := St All (SO S (R)) w0 31 [(0, .lit (.map (some M))), (1, .rd (Zbx l))] (XO J S w0.heap.size (R))) ?_ fun a w h => h
 refine ln 1 fun hl1 => ?_
 refine ZO tb hJ [0,1] [.rd (.lit (Go.Value.map none))] [0] [_,_] rfl ⟨fun _ _ _ hx _ _ => Xe rfl (Rel.of_lit (Go.Value.map none)) hx, trivial⟩ ?_
 refine tsq ?_
 refine Zaz keyS hJ rfl rfl rfl (lb rfl) fun m1 => ?_
 refine snK 1 tb rfl ?_
 refine seK [0,2,3] [_,_,_] rfl ?_
 refine nx (Zn (ZO tb hJ [0,1,1000,1001,1002] [_,.int (l.length : Nat),_] [1] [_,_,_,_,_] rfl ⟨Yz ZaU, trivial⟩ ?_))
 refine Zh (lpo (ι := Nat × (List ByteArray)) (fun (k, ys) => (k ≤ l.length) ∧ (ys = Za0 vs (l.take k).flatten)) (fun (_, ys) => (OB.set keyS m1 ys :: R)) (fun (k, _) => [(13, .int (k : Nat))]) (fun (k, _) => l.length - k) [0,1,2,3,4] [_,_,_,_] (0, ([] : List ByteArray)) ⟨Nat.zero_le _, by simp [Za0]⟩ ?_)
 rintro ⟨k, ys⟩ ⟨f1_1, f1_2⟩
 refine qso tb hJ [0,1,2,3,4,1000] [_] [_,_,_,_,_,_] ?_
 refine cjS 5 (fun hb1 => ?_) fun hb1 => ?_
 try simp at hb1
 refine Zf (nx (Zn (Zh (ZO tb hJ [0,1,2,3,4,1001,1002] [.ptr [Zb (ge l k)],_,_] [0] [_,_,_,_,_,_,_] rfl ⟨iIx Z5, trivial⟩ ?_))))
 refine ln 5 fun hl2 => ?_
 refine ZO tb hJ [0,1,2,3,4,1000,1001,1002] [_,.int ((ge l k).length : Nat),_] [1] [_,_,_,_,_,_,_,_] rfl ⟨Yz Zw, trivial⟩ ?_
 refine Zh (lpo (ι := Nat × (List ByteArray)) (fun (j, zs) => (j ≤ (ge l k).length) ∧ (zs = Za0 vs ((l.take k).flatten ++ (ge l k).take j))) (fun (_, zs) => (OB.set keyS m1 zs :: R)) (fun (j, _) => [(19, .int (j : Nat))]) (fun (j, _) => (ge l k).length - j) [0,1,2,3,4,5,6,7] [_,_,_,_,_,_,_] (0, ys) ⟨Nat.zero_le _, by simp [f1_2]⟩ ?_)
 rintro ⟨j, zs⟩ ⟨f2_1, f2_2⟩
 refine qso tb hJ [0,1,2,3,4,5,6,7,1000] [_] [_,_,_,_,_,_,_,_,_] ?_
 refine cjS 8 (fun hb2 => ?_) fun hb2 => ?_
 try simp at hb2
 refine Zf (nx (Zn (Zh (ZO tb hJ [0,1,2,3,4,5,6,7,1002] [.ptr [.lit (.string (ge (ge l k) j))],_,_] [0] [_,_,_,_,_,_,_,_,_] rfl ⟨iIx Zm, trivial⟩ ?_))))
 refine ZO tb hJ [0,1,2,3,4,5,6,7,8,1002] [_,_,.bool (decide ((ge (ge l k) j) ∈ vs))] [2] [_,_,_,_,_,_,_,_,_,_] rfl ⟨fun _ _ hk hx hl _ => Yh (Kd := keyS) (xs := vs) ZJ ZW (ge (ge l k) j) rfl (Z9 hH hk hx (mo 0 rfl)) (hl.dep 0 23 _ rfl rfl rfl rfl) (hl.dep 1 24 _ rfl rfl rfl rfl) hx, trivial⟩ ?_
 refine cj 9 (fun hb3 => ?_) fun hb3 => ?_
 try simp at hb3
 refine ZA (snK 2 tb rfl ?_)
 refine Zbh ZJ hJ hJ0 (ge (ge l k) j) rfl rfl (.inl rfl) (fun a w h => ⟨(h.get 1 rfl), (h.get 0 rfl), (Rel.of_lit (Go.Value.bool true))⟩) ?_
 refine seK [2,3,4,5,6,7,8,9] [_,_,_,_,_,_,_,_] rfl ?_
 refine nx (Y6 tb hJ [0,1,2,3,4,5,6,1001] [.int (j + 1 : Nat),_] [0] [_,_,_,_,_,_,_,_] rfl ⟨YK, trivial⟩ ?_)
 exact XR (j + 1, Xt zs (ge (ge l k) j)) [0,1,2,3,4,5,6,7] ⟨by omega, by rw [ZU (by omega), ← List.append_assoc, Zc4, ← f2_2]; first | (simp [hb3, Xt]; done) | (simp [hb3, Xt]; grind)⟩
 try simp at hb3
 refine Zf (nx (Y6 tb hJ [0,1,2,3,4,5,6,1001] [.int (j + 1 : Nat),_] [0] [_,_,_,_,_,_,_,_] rfl ⟨YK, trivial⟩ ?_))
 exact XR (j + 1, zs) [0,1,2,3,4,5,6,7] ⟨by omega, by rw [ZU (by omega), ← List.append_assoc, Zc4, ← f2_2]; first | (simp; done) | (simp [hb3]; done) | (simp; grind)⟩
 try simp at hb2
 refine ZC (nx (Y6 tb hJ [0,1,2,3,1001] [.int (k + 1 : Nat),_] [0] [_,_,_,_,_] rfl ⟨YK, trivial⟩ ?_))
 exact XR (k + 1, zs) [0,1,2,3,4] ⟨by omega, by rw [f2_2, ZL (xs := ge l k) (by omega), ZU (by omega)]; simp⟩
 try simp at hb1
 refine ZC (nx (qso tb hJ [1001] [_,_] [_] ?_))
 refine tw (ob0 (congrArg (fun z' => OB.set keyS m1 (z')) (show ys = (Za0 vs l.flatten) from by rw [f1_2, ZL (by omega)]))) ?_
 exact Zi (fun a w h => ZS  (m := 0) m1 rfl h rfl rfl)
theorem ZkI {J : World → Prop} (hJ : Stab J) (M : Nat) (ms : List ByteArray) (p : Pr)  : FnR Tryz.prog J 142 [OB.set keyS M ms] [.agg (prC p), .ptr [.lit (.map (some M))]] (.bool (!decide (p.a ∈ ms) || !decide (p.b ∈ ms))) := by
 refine Z2 (N := 16) Tryz.func142 rfl rfl (lb rfl) fun S w0 hS hJ0 hH => ?_
 clear hJ0
 refine hqs tb hJ [1,1000] [.ptr (prC p),_] [0] [_,_] rfl ⟨fun _ _ hk hx hl _ => YU rfl (hl.env 0 0 _ rfl rfl) (hS _ hk.size) (js hJ hx), trivial⟩ ?_
 refine hqs tb hJ [1012] [_,_,_,.bool (decide (p.a ∈ ms)),_,_,_,_,_,.bool (decide (p.b ∈ ms)),_,_,_] [3,9] [_] rfl ⟨fun a _ hk hx hl _ => Yh (Kd := keyS) (xs := ms) ZJ ZW p.a rfl (YP hH hk (mo 0 rfl)) (hl.dep 0 4 _ rfl rfl rfl rfl) (hl.dep 2 6 _ rfl rfl rfl rfl) hx, fun _ _ hk hx hl hc => Yh (Kd := keyS) (xs := ms) ZJ ZW p.b rfl (YP hH hk (mo 0 rfl)) (hl.dep 6 10 _ rfl rfl rfl hc) (hl.dep 8 12 _ rfl rfl rfl hc) hx, trivial⟩ ?_
 exact Zi (rtn (m := 0) rfl rfl (eB (by first | rfl | grind [Zc])))
theorem Zm9 {J : World → Prop} (hJ : Stab J) (M : Nat) (ms : List ByteArray) (l : List Pr) (b : l.length * 32 ≤ 140737488351232) : FnR Tryz.prog J 126 [OB.set keyS M ms] [.lit (.map (some M)), .rd (Qx l)] (.rd (Qx (l.filter (inV ms)))) := by
 refine Z2 (N := 9) Tryz.func126 rfl rfl (lb rfl) fun S w0 hS hJ0 hH => ?_
 refine tw Yn ?_
 refine ln 1 fun hl1 => ?_
 refine ZO tb hJ [1,1000] [.ptr [.lit (.map (some M))],_] [0] [_,_] rfl ⟨fun _ _ hk hx hl _ => Zbc rfl (hl.env 0 0 _ rfl rfl) (Zr hS _ hk hx _ (Nat.le_refl _)) (jo hJ hx), trivial⟩ ?_
 refine tsq ?_
 refine snK 1 tb rfl ?_
 refine XH (O := []) (R := []) (Zno hJ (xs := l) (b)) Zrz rfl rfl rfl (lb rfl) hS hJ0 Zt (fun a w h => (Za (h.get 0 rfl) Zd)) fun z1 => ?_
 refine sq (.fn 142 [.ptr [.lit (.map (some M))]]) rfl rfl (lb rfl) (fun _ _ h => Xd (caps := [(Go.Operand.tmp 2)]) rfl (Za (h.get 3 rfl) Zd) h.x) ?_
 refine XH (O := [OB.row z1 62 2 (l.map prC)]) (R := []) (ZeF hJ (v := z1) (xs := l) (f := 142) (caps := [.ptr [.lit (.map (some M))]]) (Os := []) (Hs := [OB.set keyS M ms]) (p := (fun x' : Pr => !decide (x'.a ∈ ms) || !decide (x'.b ∈ ms))) (fun q' => ZkI hJ M ms q') (Zof) (by omega)) Zog rfl rfl rfl (lb rfl) hS hJ0 (ZG (hH _ (mo 0 rfl)) Zt) (fun a w h => (Za (h.get 1 rfl) (Za (h.get 0 rfl) Zd))) fun _ => ?_
 refine snK 1 tb rfl ?_
 refine seK [0,1] [_,_] rfl ?_
 refine nx (ln 0 fun hl2 => ?_)
 exact Zi (Qg (m := 0) rfl rfl (congrArg (fun z => AV.rd (Qx z)) (show (l.filter fun x' => !(fun x' : Pr => !decide (x'.a ∈ ms) || !decide (x'.b ∈ ms)) x') = (l.filter (inV ms)) from by congr 1; funext x'; simp [inV])))
theorem ZeE {J : World → Prop} (hJ : Stab J) (y : Hy)  : Fn Tryz.prog J 107 [.agg (hyC y)] (.bool y.floating) := by
 refine Zx (N := 5) Tryz.func107 rfl rfl (lb rfl) fun S w0 hS hJ0 => ?_
 clear hJ0
 refine hqs tb hJ [1000] [.ptr (hyC y),_] [0] [_] rfl ⟨fun _ _ hk hx hl _ => YU rfl (hl.env 0 0 _ rfl rfl) (hS _ hk.size) (js hJ hx), trivial⟩ ?_
 refine qs tb hJ [1002] [_,_,_] [_] ?_
 exact Zi (rtn (m := 0) rfl rfl rfl)
theorem Zck {J : World → Prop} (hJ : Stab J) (f : Fr) (b : f.hyps.length * 48 ≤ 140737488351232) : Fn Tryz.prog J 70 [.agg (frC f)] (.rd (Xr (X8 f.hyps))) := by
 refine Zx (N := 7) Tryz.func70 rfl rfl (lb rfl) fun S w0 hS hJ0 => ?_
 refine tw Yn ?_
 refine ZO tb hJ [1000] [.ptr (frC f),_] [0] [_] rfl ⟨fun _ _ hk hx hl _ => YU rfl (hl.env 0 0 _ rfl rfl) (Zr hS _ hk hx _ (Nat.le_refl _)) (jo hJ hx), trivial⟩ ?_
 refine tsq ?_
 refine snK 2 tb rfl ?_
 refine XH (O := []) (R := []) (Znp hJ (xs := f.hyps) (b)) ZrL rfl rfl rfl (lb rfl) hS hJ0 Zt (fun a w h => (Za (h.get 0 rfl) Zd)) fun z1 => ?_
 refine XH (O := [OB.row z1 45 3 (f.hyps.map hyC)]) (R := []) (ZeG hJ (v := z1) (xs := f.hyps) (f := 107) (caps := []) (Os := []) (Hs := []) (p := (fun x' : Hy => x'.floating)) (fun q' => (ZeE hJ q').r) (ZoF) (by omega)) ZoG rfl rfl rfl (lb rfl) hS hJ0 Zt (fun a w h => (Za (h.get 0 rfl) (Za (Qc 107) Zd))) fun _ => ?_
 refine snK 1 tb rfl ?_
 refine seK [0,1,3] [_,_,_] rfl ?_
 refine nx (ln 0 fun hl1 => ?_)
 refine ln 2 fun hl2 => ?_
 exact Zi (Qg (m := 0) rfl rfl (congrArg (fun z => AV.rd (Xr z)) (show (f.hyps.filter fun x' => !(fun x' : Hy => x'.floating) x') = (X8 f.hyps) from rfl)))
theorem Znh {J : World → Prop} (hJ : Stab J) (xs : List Hy) (ys : List Hy)  : Fn Tryz.prog J 102 [.rd (Xr xs), .rd (Xr ys)] (.int (ZeS (xs.map Hy.label) (ys.map Hy.label) : Nat)) := by
 refine Zx (N := 32) Tryz.func102 rfl rfl (lb rfl) fun S w0 hS hJ0 => ?_
 clear hJ0
 refine ln 0 fun hl1 => ?_
 refine ln 1 fun hl2 => ?_
 refine qs tb hJ [0,1] [_] [_,_] ?_
 refine qs tb hJ [0,1,1000] [_] [_,_,_] ?_
 refine Zn (Zh (lp (ι := Nat) (fun k => (k ≤ xs.length) ∧ (k ≤ ys.length) ∧ (∀ j, j < k → (ge xs j).label = (ge ys j).label)) (fun k => [(5, .int (k : Nat))]) (fun k => xs.length - k) [0,1,2] [_,_] 0 ⟨Nat.zero_le _, Nat.zero_le _, fun j hj => by omega⟩ ?_))
 rintro k ⟨f1_1, f1_2, f1_3⟩
 refine Zn (hqs tb hJ [0,1,2,1022] [_,_,.int (xs.length : Nat),_,_,_,_,.int (ys.length : Nat),_,_,_,_,_,.ptr (hyC (ge xs k)),_,_,_,_,.ptr (hyC (ge ys k)),_,_,_,_] [2,7,13,18] [_,_,_,_] rfl ⟨Yz ZF, Yz ZF, gIx ZH (hk := fun (hc' : (((decide ((k : Int) < (xs.length : Int))) && (decide ((k : Int) < (ys.length : Int)))) == true) = true) => by (try simp at hc'); first | omega | (simp; omega) | grind [Zc]), gIx ZH (hk := fun (hc' : (((decide ((k : Int) < (xs.length : Int))) && (decide ((k : Int) < (ys.length : Int)))) == true) = true) => by (try simp at hc'); first | omega | (simp; omega) | grind [Zc]), trivial⟩ ?_)
 refine cj 3 (fun hb1 => ?_) fun hb1 => ?_
 try simp at hb1
 refine Zf (nx (Zh (hqp tb hJ [0,1,1002] [_,.int (k + 1 : Nat),_] [1] [_,_,_] rfl ⟨YK, trivial⟩ ?_)))
 exact lpE (k + 1) [0,1,2] ⟨by omega, by omega, Z4 f1_3 (by simp_all)⟩
 try simp at hb1
 refine ZC (nx (qs tb hJ [1001] [_,_] [_] ?_))
 exact Zi (rtn (m := 0) rfl rfl (eI (by exact congrArg _ (ZlO (xs.map Hy.label) (ys.map Hy.label) k (by simpa using f1_1) (by simpa using f1_2) (fun j hj => by rw [Zil (by omega), Zil (by omega)]; exact f1_3 j hj) (by rw [List.length_map, List.length_map]; rintro ⟨h1, h2, h3⟩; rw [Zil h1, Zil h2] at h3; simp_all)))))
theorem Zh4 {J : World → Prop} (hJ : Stab J) (y : Hy) (b : y.text.length * 16 ≤ 140737488351232) : Fn Tryz.prog J 104 [.agg (hyC y)] (.agg (hyC y)) := by
 refine Zx (N := 8) Tryz.func104 rfl rfl (lb rfl) fun S w0 hS hJ0 => ?_
 refine tw Yn ?_
 refine tsq ?_
 refine Zke (cs := [.lit (.string y.label), .lit (.bool y.floating), Zb y.text]) hJ rfl rfl rfl (lb rfl) (fun a w h => (h.get 0 rfl)) fun b1 => ?_
 refine ZX Yw hJ rfl rfl rfl (lb rfl) fun b2 => ?_
 refine seK [0,1] [_,_] rfl ?_
 refine nx (tsq ?_)
 refine sq (.at b1 2) rfl rfl (lb rfl) (fun _ _ h => Zp Q1 rfl (h.get 1 rfl) h.x) ?_
 refine sq (.rd (Zb y.text)) rfl rfl (lb rfl) (fun _ _ h => Zs (cs := [.lit (.string y.label), .lit (.bool y.floating), Zb y.text]) XT rfl (Ze h.x (mo 1 rfl)) (h.get 0 rfl) rfl h.x) ?_
 refine XH (O := []) (R := [OB.var b2 [.lit (.string (⟨#[]⟩ : ByteArray)), .lit (.bool false), Zb ([] : List ByteArray)], OB.var b1 [.lit (.string y.label), .lit (.bool y.floating), Zb y.text]]) (ZcD hJ (xs := y.text) (by first | omega | (simp; omega) | grind [Zc])) ZeY rfl rfl rfl (lb rfl) hS hJ0 Zt (fun a w h => (Za (h.get 0 rfl) Zd)) fun z3 => ?_
 refine sq (.at b1 2) rfl rfl (lb rfl) (fun _ _ h => Zp Q1 rfl (h.get 4 rfl) h.x) ?_
 refine kw pm2 ?_
 refine kw pm1 ?_
 refine kw (fun h => YC hS h (m := 1) (s := 5) rfl) ?_
 refine ZN (b := b1) (off := 2) (cs := [.lit (.string y.label), .lit (.bool y.floating), Zb y.text]) (es := [.lit (.string y.label), .lit (.bool y.floating), Zb y.text]) hJ hJ0 Zfp rfl rfl rfl (lb rfl) rfl (fun a w h => ⟨(h.get 1 rfl), (h.get 0 rfl)⟩) ?_
 refine seK [0,2,4,5] [_,_,_,_] rfl ?_
 refine nx (ln 0 fun hl1 => ?_)
 refine tsq ?_
 refine sq (.agg [.lit (.string y.label), .lit (.bool y.floating), Zb y.text]) rfl rfl (lb rfl) (fun _ _ h => Yk (cs := [.lit (.string y.label), .lit (.bool y.floating), Zb y.text]) (ds := [.lit (.string y.label), .lit (.bool y.floating), Zb y.text]) X2 rfl (Ze h.x (mo 0 rfl)) (h.get 3 rfl) rfl rfl h.x) ?_
 refine kw pm1 ?_
 refine ZD (b := b2) (off := 0) (cs := [.lit (.string (⟨#[]⟩ : ByteArray)), .lit (.bool false), Zb ([] : List ByteArray)]) (es := [.lit (.string y.label), .lit (.bool y.floating), Zb y.text]) (news := [.lit (.string y.label), .lit (.bool y.floating), Zb y.text]) hJ hJ0 YM rfl rfl rfl (lb rfl) rfl (fun a w h => ⟨(h.get 3 rfl), (h.get 0 rfl)⟩) ?_
 refine seK [3] [_] rfl ?_
 exact nx (Zi (fun a w h => Zam (cs := [.lit (.string y.label), .lit (.bool y.floating), Zb y.text]) (m := 0) rfl X2 h rfl rfl rfl))
theorem Zpf {J : World → Prop} (hJ : Stab J) (M1 : Nat) (M2 : Nat) (M3 : Nat) (M4 : Nat) (M5 : Nat) (cs : List ByteArray) (vs : List ByteArray) (l : List ByteArray)  : FnR Tryz.prog J 98 [OB.set keyS M1 cs, OB.set keyS M2 vs] [.ptr (mpC [M1, M2, M3, M4, M5]), .rd (Zb l)] (.int (ZiU cs vs l)) := by
 refine Z2 (N := 30) Tryz.func98 rfl rfl (lb rfl) fun S w0 hS hJ0 hH => ?_
 clear hJ0
 refine ln 1 fun hl1 => ?_
 refine hqs tb hJ [1,1000] [.ptr [.ptr (mpC [M1, M2, M3, M4, M5])],_] [0] [_,_] rfl ⟨fun _ _ hk hx hl _ => Zkx rfl (hl.env 0 0 _ rfl rfl) (hS _ hk.size) (js hJ hx), trivial⟩ ?_
 refine Zn (Zh (hqs tb hJ [0,1,1008] [_,.int (l.length : Nat),_,_,_,.int (l.length : Nat),_,_,_] [1,5] [_,_,_] rfl ⟨Yz Zw, Yz Zw, trivial⟩ ?_))
 refine cj 2 (fun hb1 => ?_) fun hb1 => ?_
 refine qs tb hJ [1000] [_] [_] ?_
 exact Zi (rtn (m := 0) rfl rfl (eI (by grind [ZiU])))
 refine hqs tb hJ [1015] [_,_,_,_,_,.ptr [.lit (.string (ge l 0))],_,.bool (decide ((ge l 0) ∈ cs)),_,_,_,.rd (Zb (l.drop 1)),.fn 121 [.ptr [.ptr (mpC [M1, M2, M3, M4, M5])]],.bool ((l.drop 1).any (fun s => !(decide (s ∈ cs) || decide (s ∈ vs)))),_,_] [5,7,11,12,13] [_] rfl ⟨iIx (k := 0) Zm, fun _ _ hk hx hl _ => Yh (Kd := keyS) (xs := cs) ZJ ZW (ge l 0) rfl (YP hH hk (mo 0 rfl)) (hl.dep 3 18 _ rfl rfl rfl rfl) (hl.dep 6 21 _ rfl rfl rfl rfl) hx, fun _ _ _ hx hl hc => ZbE (ys := l.drop 1) (lo := 1) (hi := l.length) (by rw [List.take_length]) Zm (fun _ => rfl) rfl (hl.dep 10 25 _ rfl rfl rfl hc) (Rel.of_lit (Go.Value.int Go.IntKind.i64 1)) rfl (by have hc' : ((!(decide ((ge l 0) ∈ cs))) == false) = true := hc; (try simp at hc'); (first | omega | (simp; omega) | grind [Zc])) (by have hc' : ((!(decide ((ge l 0) ∈ cs))) == false) = true := hc; (try simp at hc'); (first | omega | (simp; omega) | grind [Zc])) hx, fun _ _ _ hx hl _ => Xd (caps := [(Go.Operand.tmp 2)]) rfl (Za (hl.env 1 2 _ rfl rfl) Zd) hx, fun _ _ hk hx hl hc => YS (Yl hJ (xs := (l.drop 1)) (f := 121) (caps := [.ptr [.ptr (mpC [M1, M2, M3, M4, M5])]]) (Os := [OB.set keyS M1 cs, OB.set keyS M2 vs]) (p := (fun s => !(decide (s ∈ cs) || decide (s ∈ vs)))) (fun q' => Zqn hJ M1 M2 M3 M4 M5 cs vs q') (Zou)) ZaR rfl (nm hS hk) (hx) (ZG (YP hH hk (mo 0 rfl)) (ZG (YP hH hk (mo 1 rfl)) Zt)) (Za (hl.dep 11 26 _ rfl rfl rfl hc) (Za (hl.dep 12 27 _ rfl rfl rfl hc) Zd)) (js hJ hx), trivial⟩ ?_
 refine cj 0 (fun hb2 => ?_) fun hb2 => ?_
 refine qs tb hJ [1000] [_] [_] ?_
 exact Zi (rtn (m := 0) rfl rfl (eI (by grind [ZiU])))
 refine Zf (nx (qs tb hJ [1000] [_] [_] ?_))
 exact Zi (rtn (m := 0) rfl rfl (eI (by grind [ZiU])))
end Go.Proofs.YtgifeodnngodiaaGreatDoor
set_option maxHeartbeats 8000000
set_option maxRecDepth 100000
namespace Go.Proofs.YtgifeodnngodiaaGreatDoor
open Go.RowKit

theorem ZkR {J : World → Prop} (hJ : Stab J)   : Fn Tryz.prog J 138 [] (.agg (clsL.map u8D)) := by
 refine Zx (N := 78) Tryz.func138 rfl rfl (lb rfl) fun S w0 hS hJ0 => ?_
 refine tw Yn ?_
 refine tsq ?_
 refine ZX Zbu hJ rfl rfl rfl (lb rfl) fun b1 => ?_
 refine seK [0] [_] rfl ?_
 refine nx (Zn (qso tb hJ [0,1000] [_] [_,_] ?_))
 refine Zh (lpo (ι := Nat × (List UInt8)) (fun (k, xs) => (k ≤ 256) ∧ (xs.length = 256) ∧ (∀ j, j < k → ge xs j = Zdt (UInt8.ofNat j)) ∧ (∀ j, k ≤ j → j < 256 → ge xs j = 0)) (fun (_, xs) => [OB.var b1 (xs.map u8D)]) (fun (k, _) => [(3, .int (k : Nat))]) (fun (k, _) => 256 - k) [0,1] [_] (0, (List.replicate 256 (0 : UInt8))) ⟨Nat.zero_le _, by simp, fun j hj => by omega, fun j _ h => by rw [YZ (by simpa using h)]; exact List.getElem_replicate _⟩ ?_)
 rintro ⟨k, xs⟩ ⟨f1_1, f1_2, f1_3, f1_4⟩
 refine qso tb hJ [0,1,1000] [_] [_,_,_] ?_
 refine cjS 2 (fun hb1 => ?_) fun hb1 => ?_
 ·
  try simp at hb1
  refine Zf (nx (Zn (Zh (qso tb hJ [0,1,1001] [_,_] [_,_,_] ?_))))
  refine ZO tb hJ [0,1,2,1002] [_,.rd (.lit (.int .u8 ((UInt8.ofNat k).toNat : Int))),_] [1] [_,_,_,_] rfl ⟨fun _ _ _ hx hl _ => Zm2 (k := k) XU ZcS rfl (hl.dep 0 6 _ rfl rfl rfl rfl) (by first | omega | (simp; omega) | grind [Zc]) hx, trivial⟩ ?_
  refine Zh (qso tb hJ [0,1,2,3,1014] [_,_,_,_,_,_,_,_,_,_,_,_,_,_,_] [_,_,_,_,_] ?_)
  refine cj 4 (fun hb2 => ?_) fun hb2 => ?_
  ·
   replace hb2 : c2B (UInt8.ofNat k) = true := hb2
   refine ZA (snK 1 tb rfl ?_)
   refine sq (.at b1 k) rfl rfl (lb rfl) (fun _ _ h => ZaE (i := k) Xs rfl (h.get 1 rfl) (h.get 0 rfl) (by first | omega | (simp; omega) | grind [Zc]) h.x) ?_
   refine ZN (b := b1) (off := k) (c := u8D (1 : UInt8)) hJ hJ0 ZcB rfl rfl rfl (by rw [List.length_map]; exact (by first | omega | (simp; omega) | grind [Zc])) (Ze7 (by first | omega | (simp; omega) | grind [Zc])) (fun a w h => ⟨(h.get 0 rfl), (Rel.of_lit (Go.Value.int Go.IntKind.u8 1))⟩) ?_
   refine seK [2,3] [_,_] rfl ?_
   refine nx (Y6 tb hJ [0,1001] [.int (k + 1 : Nat),_] [0] [_,_] rfl ⟨YK, trivial⟩ ?_)
   exact XR (k + 1, xs.set k (1 : UInt8)) [0,1] ⟨by omega, by rw [List.length_set]; exact f1_2, ZcI f1_2 (by omega) f1_3 (by simp [Zdt, hb2]), ZcJ f1_2 (by omega) f1_4⟩
  ·
   replace hb2 : c2B (UInt8.ofNat k) = false := hb2
   refine qso tb hJ [0,1,2,3,1002] [_,_,_] [_,_,_,_,_] ?_
   refine cj 4 (fun hb3 => ?_) fun hb3 => ?_
   ·
    replace hb3 : c3B (UInt8.ofNat k) = true := hb3
    refine ZA (snK 1 tb rfl ?_)
    refine sq (.at b1 k) rfl rfl (lb rfl) (fun _ _ h => ZaE (i := k) Xs rfl (h.get 1 rfl) (h.get 0 rfl) (by first | omega | (simp; omega) | grind [Zc]) h.x) ?_
    refine ZN (b := b1) (off := k) (c := u8D (4 : UInt8)) hJ hJ0 ZcB rfl rfl rfl (by rw [List.length_map]; exact (by first | omega | (simp; omega) | grind [Zc])) (Ze7 (by first | omega | (simp; omega) | grind [Zc])) (fun a w h => ⟨(h.get 0 rfl), (Rel.of_lit (Go.Value.int Go.IntKind.u8 4))⟩) ?_
    refine seK [2,3] [_,_] rfl ?_
    refine nx (Y6 tb hJ [0,1001] [.int (k + 1 : Nat),_] [0] [_,_] rfl ⟨YK, trivial⟩ ?_)
    exact XR (k + 1, xs.set k (4 : UInt8)) [0,1] ⟨by omega, by rw [List.length_set]; exact f1_2, ZcI f1_2 (by omega) f1_3 (by simp [Zdt, hb2, hb3]), ZcJ f1_2 (by omega) f1_4⟩
   ·
    replace hb3 : c3B (UInt8.ofNat k) = false := hb3
    refine qso tb hJ [0,1,2,3,1034] [_,_,_,_,_,_,_,_,_,_,_,_,_,_,_,_,_,_,_,_,_,_,_,_,_,_,_,_,_,_,_,_,_,_,_] [_,_,_,_,_] ?_
    refine cj 4 (fun hb4 => ?_) fun hb4 => ?_
    ·
     replace hb4 : c4B (UInt8.ofNat k) = true := hb4
     refine ZA (snK 1 tb rfl ?_)
     refine sq (.at b1 k) rfl rfl (lb rfl) (fun _ _ h => ZaE (i := k) Xs rfl (h.get 1 rfl) (h.get 0 rfl) (by first | omega | (simp; omega) | grind [Zc]) h.x) ?_
     refine ZN (b := b1) (off := k) (c := u8D (2 : UInt8)) hJ hJ0 ZcB rfl rfl rfl (by rw [List.length_map]; exact (by first | omega | (simp; omega) | grind [Zc])) (Ze7 (by first | omega | (simp; omega) | grind [Zc])) (fun a w h => ⟨(h.get 0 rfl), (Rel.of_lit (Go.Value.int Go.IntKind.u8 2))⟩) ?_
     refine seK [2,3] [_,_] rfl ?_
     refine nx (Y6 tb hJ [0,1001] [.int (k + 1 : Nat),_] [0] [_,_] rfl ⟨YK, trivial⟩ ?_)
     exact XR (k + 1, xs.set k (2 : UInt8)) [0,1] ⟨by omega, by rw [List.length_set]; exact f1_2, ZcI f1_2 (by omega) f1_3 (by simp [Zdt, hb2, hb3, hb4]), ZcJ f1_2 (by omega) f1_4⟩
    ·
     replace hb4 : c4B (UInt8.ofNat k) = false := hb4
     refine qso tb hJ [0,1,2,1006] [_,_,_,_,_,_,_] [_,_,_,_] ?_
     refine cj 3 (fun hb5 => ?_) fun hb5 => ?_
     ·
      replace hb5 : c5B (UInt8.ofNat k) = true := hb5
      refine ZA (snK 1 tb rfl ?_)
      refine sq (.at b1 k) rfl rfl (lb rfl) (fun _ _ h => ZaE (i := k) Xs rfl (h.get 1 rfl) (h.get 0 rfl) (by first | omega | (simp; omega) | grind [Zc]) h.x) ?_
      refine ZN (b := b1) (off := k) (c := u8D (3 : UInt8)) hJ hJ0 ZcB rfl rfl rfl (by rw [List.length_map]; exact (by first | omega | (simp; omega) | grind [Zc])) (Ze7 (by first | omega | (simp; omega) | grind [Zc])) (fun a w h => ⟨(h.get 0 rfl), (Rel.of_lit (Go.Value.int Go.IntKind.u8 3))⟩) ?_
      refine seK [2,3] [_,_] rfl ?_
      refine nx (Y6 tb hJ [0,1001] [.int (k + 1 : Nat),_] [0] [_,_] rfl ⟨YK, trivial⟩ ?_)
      exact XR (k + 1, xs.set k (3 : UInt8)) [0,1] ⟨by omega, by rw [List.length_set]; exact f1_2, ZcI f1_2 (by omega) f1_3 (by simp [Zdt, hb2, hb3, hb4, hb5]), ZcJ f1_2 (by omega) f1_4⟩
     ·
      replace hb5 : c5B (UInt8.ofNat k) = false := hb5
      refine Zf (nx (Y6 tb hJ [0,1001] [.int (k + 1 : Nat),_] [0] [_,_] rfl ⟨YK, trivial⟩ ?_))
      exact XR (k + 1, xs) [0,1] ⟨by omega, f1_2, Z4 f1_3 (by rw [f1_4 k (Nat.le_refl k) (by omega)]; simp [Zdt, hb2, hb3, hb4, hb5]), fun j h1 h2 => f1_4 j (by omega) h2⟩
 ·
  try simp at hb1
  refine ZC (nx (tsq ?_))
  refine sq (.agg (xs.map u8D)) rfl rfl (lb rfl) (fun _ _ h => Yk (cs := xs.map u8D) (ds := xs.map u8D) Zdy rfl (Ze h.x (mo 0 rfl)) (h.get 0 rfl) (by rw [List.drop_zero, List.take_of_length_le (by rw [List.length_map]; omega)]) (by rw [List.length_map]; omega) h.x) ?_
  refine ZD (b := b1) (off := 0) (news := xs.map u8D) hJ hJ0 (by rw [List.length_map, show xs.length = 256 from (f1_2)]; exact Zci) rfl rfl rfl (by simp only [List.length_map]; exact (by omega)) (Zmg (by rw [List.length_map] <;> exact (rfl))) (fun a w h => ⟨(h.get 1 rfl), (h.get 0 rfl)⟩) ?_
  refine seK [1] [_] rfl ?_
  exact nx (Zi (fun a w h => Zam (cs := xs.map u8D) (m := 0) rfl Zdy h rfl (by rw [List.length_map]; exact (f1_2)) (congrArg (fun z' : List UInt8 => z'.map u8D) (show xs = clsL from Zrl f1_2 fun j hj => f1_3 j (by omega)))))

theorem Znl {J : World → Prop} (hJ : Stab J) (xs : List UInt8) (c : UInt8)  : Fn Tryz.prog J 157 [.rd (u8sC xs), .rd (.lit (.int .u8 (c.toNat : Int)))] (.int (YO (fun x' : UInt8 => decide (((c).toNat : Int) = ((x').toNat : Int))) xs)) := by
 refine Zx (N := 19) Tryz.func157 rfl rfl (lb rfl) fun S w0 hS hJ0 => ?_
 clear hJ0
 refine ln 0 fun hl1 => ?_
 refine qs tb hJ [0,1] [_] [_,_] ?_
 refine Zn (hqs tb hJ [0,1,1001,1002] [_,.int (xs.length : Nat),_] [1] [_,_,_,_] rfl ⟨Yz ZiS, trivial⟩ ?_)
 refine Zh (lp (ι := Nat) (fun k => (k ≤ xs.length) ∧ (∀ j, j < k → (fun x' : UInt8 => decide (((c).toNat : Int) = ((x').toNat : Int))) (ge xs j) = false)) (fun k => [(8, .int (k : Nat))]) (fun k => xs.length - k) [0,1,2,3] [_,_,_] 0 ⟨Nat.zero_le _, fun j hj => by omega⟩ ?_)
 rintro k ⟨f1_1, f1_2⟩
 refine qs tb hJ [0,1,2,3,1000] [_] [_,_,_,_,_] ?_
 refine cjS 4 (fun hb1 => ?_) fun hb1 => ?_
 try simp at hb1
 refine Zf (nx (Zn (Zh (qs tb hJ [0,1,2,3,1001] [_,_] [_,_,_,_,_] ?_))))
 refine hqs tb hJ [0,1,2,3,4,1005] [_,_,_,.ptr [.lit (.int .u8 ((ge xs k).toNat : Int))],_,_] [3] [_,_,_,_,_,_] rfl ⟨iIx ZaN, trivial⟩ ?_
 refine cj 5 (fun hb2 => ?_) fun hb2 => ?_
 try simp at hb2
 refine qs tb hJ [1001] [_,_] [_] ?_
 exact Zi (rtn (m := 0) rfl rfl (eI (by first | exact (Y3 (p := fun x' : UInt8 => decide (((c).toNat : Int) = ((x').toNat : Int))) hb1 (by simpa using hb2) f1_2).symm | exact (YH (p := fun x' : UInt8 => decide (((c).toNat : Int) = ((x').toNat : Int))) fun j hj => f1_2 j (by omega)).symm)))
 try simp at hb2
 refine Zf (nx (hqp tb hJ [0,1,2,1001] [.int (k + 1 : Nat),_] [0] [_,_,_,_] rfl ⟨YK, trivial⟩ ?_))
 exact lpE (k + 1) [0,1,2,3] ⟨by omega, Z4 f1_2 (by simpa using hb2)⟩
 try simp at hb1
 refine ZC (nx (qs tb hJ [1000] [_] [_] ?_))
 exact Zi (rtn (m := 0) rfl rfl (eI (by first | exact (Y3 (p := fun x' : UInt8 => decide (((c).toNat : Int) = ((x').toNat : Int))) hb1 (by simpa using hb2) f1_2).symm | exact (YH (p := fun x' : UInt8 => decide (((c).toNat : Int) = ((x').toNat : Int))) fun j hj => f1_2 j (by omega)).symm)))
theorem Zg1 {J : World → Prop} (hJ : Stab J) (xs : List UInt8) (c : UInt8)  : Fn Tryz.prog J 139 [.rd (u8sC xs), .rd (.lit (.int .u8 (c.toNat : Int)))] (.bool (decide (c ∈ xs))) := by
 refine Zx (N := 9) Tryz.func139 rfl rfl (lb rfl) fun S w0 hS hJ0 => ?_
 clear hJ0
 refine ln 0 fun hl1 => ?_
 refine qs tb hJ [0,1] [_] [_,_] ?_
 refine hqs tb hJ [1004] [_,_,.int (YO (fun x' : UInt8 => decide (((c).toNat : Int) = ((x').toNat : Int))) xs),_,_] [2] [_] rfl ⟨iFn hS hJ (Znl hJ (xs := xs) (c := c) ) Zn6, trivial⟩ ?_
 exact Zi (rtn (m := 0) rfl rfl (eB (by rw [ZbK, Znx])))
theorem Zph {J : World → Prop} (hJ : Stab J) (s : ByteArray) (bs : List UInt8)  : Fn Tryz.prog J 118 [.str s, .rd (u8sC bs)] (.bool (Za8 s bs)) := by
 refine Zx (N := 29) Tryz.func118 rfl rfl (lb rfl) fun S w0 hS hJ0 => ?_
 refine tw Yn ?_
 refine lnS 0 fun hl1 => ?_
 refine ln 1 fun hl2 => ?_
 refine qso tb hJ [0,1] [_] [_,_] ?_
 refine Zn (ZO tb hJ [0,1,1006] [_,_,_,_,.int (s.size : Nat),_,_] [4] [_,_,_] rfl ⟨ZrY YB, trivial⟩ ?_)
 refine cj 2 (fun hb1 => ?_) fun hb1 => ?_
 refine qso tb hJ [1000] [_] [_] ?_
 exact Zi (Qg (m := 0) rfl rfl (eB (by first | (rw [Za8, if_pos hb1]; done) | (rw [Za8, if_neg (by rw [hb1]; decide)]; symm; exact Zb8 (p := fun c => decide (Zdt c ∈ bs)) hb2 (by simpa [ZeU] using hb3)) | (rw [Za8, if_neg (by rw [hb1]; decide)]; symm; exact Zmi fun j hj => f1_2 j (by omega)))))
 refine Zf (nx (tsq ?_))
 refine sq (.agg (clsL.map u8D)) rfl rfl (lb rfl) (fun _ _ h => ZdE (ZkR hJ  ) Zoi rfl (Zr hS _ h.keep h.x) (h.x.1) Zd (jo hJ h.x)) ?_
 refine ZX Zbu hJ rfl rfl rfl (lb rfl) fun b1 => ?_
 refine ZD (b := b1) (off := 0) (news := clsL.map u8D) hJ hJ0 (by rw [List.length_map, show clsL.length = 256 from (Zai)]; exact Zci) rfl rfl rfl (by simp only [List.length_map]; exact (by rw [Zai, List.length_replicate]; exact Nat.le_of_ble_eq_true rfl)) (Zmg (by rw [List.length_map] <;> exact (by rw [Zai, List.length_replicate]))) (fun a w h => ⟨(h.get 0 rfl), (h.get 1 rfl)⟩) ?_
 refine seK [0,2,3] [_,_,_] rfl ?_
 refine nx (Zn (ZO tb hJ [0,1,2,1001,1002] [_,.int (s.size : Nat),_] [1] [_,_,_,_,_] rfl ⟨ZrY YB, trivial⟩ ?_))
 refine Zh (lpo (ι := Nat) (fun k => (k ≤ s.size) ∧ (∀ j, j < k → decide (Zdt (bt s j) ∈ bs) = true)) (fun _ => [OB.var b1 (clsL.map u8D)]) (fun k => [(17, .int (k : Nat))]) (fun k => s.size - k) [0,1,2,3,4] [_,_,_,_] 0 ⟨Nat.zero_le _, fun j hj => by omega⟩ ?_)
 rintro k ⟨f1_1, f1_2⟩
 refine qso tb hJ [0,1,2,3,4,1000] [_] [_,_,_,_,_,_] ?_
 refine cjS 5 (fun hb2 => ?_) fun hb2 => ?_
 try simp at hb2
 refine Zf (nx (Zn (Zh (qso tb hJ [0,1,2,3,4,1001] [_,_] [_,_,_,_,_,_] ?_))))
 refine ZO tb hJ [0,1,2,3,4,1007] [_,_,_,.rd (.lit (.int .u8 ((ge s.data.toList k).toNat : Int))),.at b1 ((ge s.data.toList k).toNat),.rd (.lit (.int .u8 ((ge clsL (ge s.data.toList k).toNat).toNat : Int))),.bool (decide ((ge clsL (ge s.data.toList k).toNat) ∈ bs)),_] [3,4,5,6] [_,_,_,_,_,_] rfl ⟨fun _ _ _ hx hl _ => Zku (i := (k : Int)) YB rfl (hl.dep 1 21 _ rfl rfl rfl rfl) (hl.dep 2 22 _ rfl rfl rfl rfl) (Int.natCast_nonneg _) (Ze0 (s := s) (k := k) (by first | omega | (simp; omega) | grind [Zc])) hx, fun _ _ _ hx hl _ => ZaE (i := (ge s.data.toList k).toNat) Xs rfl (hl.env 0 5 _ rfl rfl) (hl.dep 3 23 _ rfl rfl rfl rfl) (UInt8.toNat_lt _) hx, fun _ _ _ hx hl _ => Zs (cs := clsL.map u8D) one_5 rfl (Ze hx (mo 0 rfl)) (hl.dep 4 24 _ rfl rfl rfl rfl) (ZrP (by rw [Zai]; exact UInt8.toNat_lt _)) hx, iFo hS hJ (Zg1 hJ (xs := bs) (c := (ge clsL (ge s.data.toList k).toNat)) ) Zoh, trivial⟩ ?_
 refine cj 5 (fun hb3 => ?_) fun hb3 => ?_
 try simp at hb3
 refine qso tb hJ [1000] [_] [_] ?_
 exact Zi (Qg (m := 0) rfl rfl (eB (by first | (rw [Za8, if_pos hb1]; done) | (rw [Za8, if_neg (by rw [hb1]; decide)]; symm; exact Zb8 (p := fun c => decide (Zdt c ∈ bs)) hb2 (by simpa [ZeU] using hb3)) | (rw [Za8, if_neg (by rw [hb1]; decide)]; symm; exact Zmi fun j hj => f1_2 j (by omega)))))
 try simp at hb3
 refine Zf (nx (Y6 tb hJ [0,1,2,3,1001] [.int (k + 1 : Nat),_] [0] [_,_,_,_,_] rfl ⟨YK, trivial⟩ ?_))
 exact XR (k + 1) [0,1,2,3,4] ⟨by omega, Z4 f1_2 (by simpa [ZeU] using hb3)⟩
 try simp at hb2
 refine ZC (nx (qso tb hJ [1000] [_] [_] ?_))
 exact Zi (Qg (m := 0) rfl rfl (eB (by first | (rw [Za8, if_pos hb1]; done) | (rw [Za8, if_neg (by rw [hb1]; decide)]; symm; exact Zb8 (p := fun c => decide (Zdt c ∈ bs)) hb2 (by simpa [ZeU] using hb3)) | (rw [Za8, if_neg (by rw [hb1]; decide)]; symm; exact Zmi fun j hj => f1_2 j (by omega)))))
theorem ZbI {J : World → Prop} (hJ : Stab J) (s : ByteArray)  : Fn Tryz.prog J 95 [.str s] (.bool (Zcc s)) := by
 refine Zx (N := 6) Tryz.func95 rfl rfl (lb rfl) fun S w0 hS hJ0 => ?_
 clear hJ0
 refine qs tb hJ [0] [_] [_] ?_
 refine hqs tb hJ [1001,1003] [_,.rd (u8sC ([(2 : UInt8)])),.bool (Za8 s ([(2 : UInt8)])),_] [1,2] [_,_] rfl ⟨fun _ _ hk hx _ _ => Y1 ZaN zero_5 rfl (Rel.of_lit (Go.Value.int Go.IntKind.u8 2)) (hS _ hk.size) (js hJ hx), iFn hS hJ (Zph hJ (s := s) (bs := ([(2 : UInt8)])) ) ZiF, trivial⟩ ?_
 refine ln 0 fun hl1 => ?_
 exact Zi (rtn (m := 1) rfl rfl (eB (ZkZ s)))
theorem Zb7 {J : World → Prop} (hJ : Stab J) (s : ByteArray)  : Fn Tryz.prog J 93 [.str s] (.bool (ZjK s)) := by
 refine Zx (N := 6) Tryz.func93 rfl rfl (lb rfl) fun S w0 hS hJ0 => ?_
 clear hJ0
 refine qs tb hJ [0] [_] [_] ?_
 refine hqs tb hJ [1001,1003] [_,.rd (u8sC ([2, 3] : List UInt8)),.bool (Za8 s ([2, 3] : List UInt8)),_] [1,2] [_,_] rfl ⟨fun a _ hk hx _ _ => Y0 (k := 2) (us := [a.eval (Go.Operand.const (Go.Value.int Go.IntKind.u8 2)), a.eval (Go.Operand.const (Go.Value.int Go.IntKind.u8 3))]) ZaN ZjM rfl (by simp) (Zj (Rel.of_lit (Go.Value.int Go.IntKind.u8 2)) (Zj (Rel.of_lit (Go.Value.int Go.IntKind.u8 3)) ZI)) rfl (by decide) (by decide) (hS _ hk.size) (js hJ hx), iFn hS hJ (Zph hJ (s := s) (bs := ([2, 3] : List UInt8)) ) ZiF, trivial⟩ ?_
 refine ln 0 fun hl1 => ?_
 exact Zi (rtn (m := 1) rfl rfl (eB (ZkY s)))
end Go.Proofs.YtgifeodnngodiaaGreatDoor
set_option maxHeartbeats 8000000
set_option maxRecDepth 100000
namespace Go.Proofs.YtgifeodnngodiaaGreatDoor
open Go.RowKit

theorem Zjf {J : World → Prop} (hJ : Stab J) (s : ByteArray) : Fn Tryz.prog J 163 [.str s] (.bool (XL s)) := by
  intro S w vs hS hJ0 ha
  simp only [RelL] at ha
  obtain ⟨u, us, rfl, h1, rfl⟩ := ha
  rw [h1.lit]
  exact (Zjj s w).mono fun e w' ⟨he, hb⟩ => by
    have hk : Keeps All w w' := (Keeps.of_below hb).sub fun k hk _ => hk
    exact ⟨_, he, Rel.of_lit _, hk, hJ w w' hk hJ0⟩
def fm7 (s : Sm) : Bool := ((Zcc s.label && (decide ((1 : Int) ≤ (s.text.length : Int)) && decide ((s.text.length : Int) ≤ 200))) && s.text.all ZjK) && s.proof.all XL
def wd7 (s : Sm) : List ByteArray := ((([s.label] ++ [⟨#[36, 112]⟩] ++ s.text) ++ [⟨#[36, 61]⟩]) ++ s.proof) ++ [⟨#[36, 46]⟩]

theorem ZfI {J : World → Prop} (hJ : Stab J) (g : FuncId)  : Fn Tryz.prog J 161 [.lit (.func (.func g) #[] #[])] (.fn 162 [.ptr [.lit (.func (.func g) #[] #[])]]) := by
 refine Zx (N := 4) Tryz.func161 rfl rfl (lb rfl) fun S w0 hS hJ0 => ?_
 clear hJ0
 refine hqs tb hJ [1000] [.ptr [.lit (.func (.func g) #[] #[])],_] [0] [_] rfl ⟨fun _ _ hk hx hl _ => Zbc rfl (hl.env 0 0 _ rfl rfl) (hS _ hk.size) (js hJ hx), trivial⟩ ?_
 refine hqs tb hJ [1001] [.fn 162 [.ptr [.lit (.func (.func g) #[] #[])]],_] [0] [_] rfl ⟨fun _ _ _ hx hl _ => Xd (caps := [(Go.Operand.tmp 1)]) rfl (Za (hl.env 0 1 _ rfl rfl) Zd) hx, trivial⟩ ?_
 exact Zi (rtn (m := 0) rfl rfl rfl)
theorem Zd7 {J : World → Prop} (hJ : Stab J) (g : FuncId) (p : ByteArray → Bool) (q : ByteArray) (hk0 : Zq Tryz.prog g) (hf : ∀ q', Fn Tryz.prog J g [.str q'] (.bool (p q'))) : Fn Tryz.prog J 162 [.str q, .ptr [.lit (.func (.func g) #[] #[])]] (.bool (!p q)) := by
 refine Zx (N := 8) Tryz.func162 rfl rfl (lb rfl) fun S w0 hS hJ0 => ?_
 clear hJ0
 refine qs tb hJ [0,1] [_] [_,_] ?_
 refine hqs tb hJ [1004] [_,_,.bool (p q),_,_] [2] [_] rfl ⟨fun _ _ hk hx hl _ => Zcw ((hf q).r) hk0 rfl (ZlB (hl.dep 0 4 _ rfl rfl rfl rfl)) (nm hS hk) (hx) Zt (Za (hl.dep 1 5 _ rfl rfl rfl rfl) Zd) (js hJ hx), trivial⟩ ?_
 exact Zi (rtn (m := 0) rfl rfl (eB (by first | rfl | grind [Zc])))
theorem Zng {J : World → Prop} (hJ : Stab J) (s : Sm) (hG : QL J) (h7 : s.kind = 7) : Fn Tryz.prog J 145 [.agg (stC s)] (.bool (fm7 s)) := by
 refine Zx (N := 76) Tryz.func145 rfl rfl (lb rfl) fun S w0 hS hJ0 => ?_
 refine tw Yn ?_
 refine ZO tb hJ [1000] [.ptr (stC s),_] [0] [_] rfl ⟨fun _ _ hk hx hl _ => YU rfl (hl.env 0 0 _ rfl rfl) (Zr hS _ hk hx _ (Nat.le_refl _)) (jo hJ hx), trivial⟩ ?_
 refine Zn (qso tb hJ [0,1007] [_,_,_,_,_,_,_,_] [_,_] ?_)
 refine cj 1 (fun hb1 => ?_) fun hb1 => ?_
 try simp at hb1
 refine qso tb hJ [1000] [_] [_] ?_
 exact Zi (Qg (m := 0) rfl rfl (eB (by first | (exfalso; omega) | (unfold fm7; grind) | (simp only [fm7, List.all_eq_not_any_not]; grind))))
 try simp at hb1
 refine Zf (nx (tsq ?_))
 refine snK 2 tb rfl ?_
 refine sq (.at 0 28) rfl rfl (lb rfl) (fun _ _ h => Zd3 (k := 7) Zaw ZaW rfl (h.get 0 rfl) (h7) (by decide) h.x) ?_
 refine sq (.agg [.lit (.string (⟨#[36, 112]⟩ : ByteArray)), .lit (.bool true), .lit (.int .i64 (1 : Int)), .lit (.int .i64 (200 : Int))]) rfl rfl (lb rfl) (fun _ _ h => Zd2 Zgy rfl (hG _ (h.x.1)) (h.get 0 rfl) h.x) ?_
 refine ZX Zbt hJ rfl rfl rfl (lb rfl) fun b1 => ?_
 refine ZD (b := b1) (off := 0) (cs := [.lit (.string (⟨#[]⟩ : ByteArray)), .lit (.bool false), .lit (.int .i64 0), .lit (.int .i64 0)]) (es := [.lit (.string (⟨#[36, 112]⟩ : ByteArray)), .lit (.bool true), .lit (.int .i64 (1 : Int)), .lit (.int .i64 (200 : Int))]) (news := [.lit (.string (⟨#[36, 112]⟩ : ByteArray)), .lit (.bool true), .lit (.int .i64 (1 : Int)), .lit (.int .i64 (200 : Int))]) hJ hJ0 ZaW rfl rfl rfl (lb rfl) rfl (fun a w h => ⟨(h.get 0 rfl), (h.get 1 rfl)⟩) ?_
 refine kw (fun h => Yj hS h (m := 0) (s := 3) rfl) ?_
 refine seK [0,5] [_,_] rfl ?_
 refine nx (Zn (ZO tb hJ [1,1033] [_,_,_,_,_,.bool (Zcc s.label),_,_,_,_,_,_,_,_,_,_,_,_,_,_,_,.int (s.text.length : Nat),_,_,_,_,_,_,_,.int (s.text.length : Nat),_,_,_,_] [5,21,29] [_,_] rfl ⟨iFo hS hJ (ZbI hJ (s := s.label) ) ZeV, Yz Zw, Yz Zw, trivial⟩ ?_))
 refine cj 1 (fun hb2 => ?_) fun hb2 => ?_
 try simp at hb2
 refine qso tb hJ [1000] [_] [_] ?_
 exact Zi (Qg (m := 0) rfl rfl (eB (by first | (exfalso; omega) | (unfold fm7; grind) | (simp only [fm7, List.all_eq_not_any_not]; grind))))
 try simp at hb2
 refine Zf (nx (qso tb hJ [0,1000] [_] [_,_] ?_))
 refine ZO tb hJ [1001,1025] [_,_,_,.fn 162 [.ptr [.lit (.func (.func 93) #[] #[])]],.bool (s.text.any (fun w' => !ZjK w')),_,_,_,_,_,.fn 162 [.ptr [.lit (.func (.func 163) #[] #[])]],.bool (s.proof.any (fun w' => !XL w')),_,_,_,_,_,_,_,_,_,.int (s.proof.length : Nat),_,_,_,_] [3,4,10,11,21] [_,_] rfl ⟨fun _ _ hk hx hl _ => Zcw ((ZfI hJ 93).r) Ziz rfl (hl.dep 2 53 _ rfl rfl rfl rfl) (Zr hS _ hk hx) (hx.1) Zt (Za (Zfw 93) Zd) (jo hJ hx), fun _ w hk hx hl _ => YS (Yl hJ (xs := s.text) (f := 162) (caps := [.ptr [.lit (.func (.func 93) #[] #[])]]) (Os := []) (p := (fun w' => !ZjK w')) (fun q' => (Zd7 hJ 93 ZjK q' Zhn fun z' => Zb7 hJ z').r) (Ziy)) ZaR rfl (Zr hS _ hk hx) (hx.1) Zt (Za (hl.dep 1 52 _ rfl rfl rfl rfl) (Za (hl.dep 3 54 _ rfl rfl rfl rfl) Zd)) (jo hJ hx), fun _ _ hk hx hl hc => Zcw ((ZfI hJ 163).r) Ziz rfl (hl.dep 9 60 _ rfl rfl rfl hc) (Zr hS _ hk hx) (hx.1) Zt (Za (Zfw 163) Zd) (jo hJ hx), fun _ w hk hx hl hc => YS (Yl hJ (xs := s.proof) (f := 162) (caps := [.ptr [.lit (.func (.func 163) #[] #[])]]) (Os := []) (p := (fun w' => !XL w')) (fun q' => (Zd7 hJ 163 XL q' Zn3 fun z' => Zjf hJ z').r) (Ziy)) ZaR rfl (Zr hS _ hk hx) (hx.1) Zt (Za (hl.dep 8 59 _ rfl rfl rfl hc) (Za (hl.dep 10 61 _ rfl rfl rfl hc) Zd)) (jo hJ hx), Yz Zw, trivial⟩ ?_
 refine ln 0 fun hl1 => ?_
 exact Zi (Qg (m := 1) rfl rfl (eB (by first | (exfalso; omega) | (unfold fm7; grind) | (simp only [fm7, List.all_eq_not_any_not]; grind))))
theorem Zni {J : World → Prop} (hJ : Stab J) (s : Sm) (hG : QL J) (h7 : s.kind = 7) : Fn Tryz.prog J 144 [.agg (stC s)] (.bool (!fm7 s)) := by
 refine Zx (N := 6) Tryz.func144 rfl rfl (lb rfl) fun S w0 hS hJ0 => ?_
 refine tw Yn ?_
 refine ZO tb hJ [1000] [.ptr (stC s),_] [0] [_] rfl ⟨fun _ _ hk hx hl _ => YU rfl (hl.env 0 0 _ rfl rfl) (Zr hS _ hk hx _ (Nat.le_refl _)) (jo hJ hx), trivial⟩ ?_
 refine ZO tb hJ [1003] [_,.bool (fm7 s),_,_] [1] [_] rfl ⟨iFo hS hJ (Zng hJ (s := s) (hG) (h7)) Zoc, trivial⟩ ?_
 exact Zi (Qg (m := 0) rfl rfl (eB (by first | rfl | grind [Zc])))
theorem ZfL {J : World → Prop} (hJ : Stab J) (xs : List Sm) (f : FuncId) (caps : List AV) (Os : List OB) (p : Sm → Bool) (hf : ∀ q' ∈ xs, FnR Tryz.prog J f Os ([.agg (stC (q'))] ++ caps) (.bool (p q'))) (hk0 : Zq Tryz.prog f) : FnR Tryz.prog J 160 Os [.rd (stsC xs), .fn f caps] (.int (YO p xs)) := by
 refine Z2 (N := 19) Tryz.func160 rfl rfl (lb rfl) fun S w0 hS hJ0 hH => ?_
 clear hJ0
 refine ln 0 fun hl1 => ?_
 refine qs tb hJ [0,1] [_] [_,_] ?_
 refine Zn (hqs tb hJ [0,1,1001,1002] [_,.int (xs.length : Nat),_] [1] [_,_,_,_] rfl ⟨Yz Zav, trivial⟩ ?_)
 refine Zh (lp (ι := Nat) (fun k => (k ≤ xs.length) ∧ (∀ j, j < k → p (ge xs j) = false)) (fun k => [(8, .int (k : Nat))]) (fun k => xs.length - k) [0,1,2,3] [_,_,_] 0 ⟨Nat.zero_le _, fun j hj => by omega⟩ ?_)
 rintro k ⟨f1_1, f1_2⟩
 refine qs tb hJ [0,1,2,3,1000] [_] [_,_,_,_,_] ?_
 refine cjS 4 (fun hb1 => ?_) fun hb1 => ?_
 try simp at hb1
 refine Zf (nx (Zn (Zh (qs tb hJ [0,1,2,3,1001] [_,_] [_,_,_,_,_] ?_))))
 refine hqs tb hJ [0,1,2,3,4,1005] [_,_,_,.ptr (stC (ge xs k)),_,.bool (p (ge xs k))] [3,5] [_,_,_,_,_,_] rfl ⟨iIx QQ, fun _ _ hk hx hl _ => Zcw (hf (ge xs k) (Zc (by omega))) hk0 rfl (hl.dep 0 11 _ rfl rfl rfl rfl) (nm hS hk) (hx) (fun _ ho => YP hH hk ho) (Za (hl.dep 4 15 _ rfl rfl rfl rfl) Zd) (js hJ hx), trivial⟩ ?_
 refine cj 5 (fun hb2 => ?_) fun hb2 => ?_
 try simp at hb2
 refine qs tb hJ [1001] [_,_] [_] ?_
 exact Zi (rtn (m := 0) rfl rfl (eI (by first | exact (Y3 hb1 hb2 f1_2).symm | exact (YH fun j hj => f1_2 j (by omega)).symm)))
 try simp at hb2
 refine Zf (nx (hqp tb hJ [0,1,2,1001] [.int (k + 1 : Nat),_] [0] [_,_,_,_] rfl ⟨YK, trivial⟩ ?_))
 exact lpE (k + 1) [0,1,2,3] ⟨by omega, Z4 f1_2 hb2⟩
 try simp at hb1
 refine ZC (nx (qs tb hJ [1000] [_] [_] ?_))
 exact Zi (rtn (m := 0) rfl rfl (eI (by first | exact (Y3 hb1 hb2 f1_2).symm | exact (YH fun j hj => f1_2 j (by omega)).symm)))
theorem Zc0 {J : World → Prop} (hJ : Stab J) (xs : List Sm) (f : FuncId) (caps : List AV) (Os : List OB) (p : Sm → Bool) (hf : ∀ q' ∈ xs, FnR Tryz.prog J f Os ([.agg (stC (q'))] ++ caps) (.bool (p q'))) (hk0 : Zq Tryz.prog f) : FnR Tryz.prog J 143 Os [.rd (stsC xs), .fn f caps] (.bool (xs.any p)) := by
 refine Z2 (N := 9) Tryz.func143 rfl rfl (lb rfl) fun S w0 hS hJ0 hH => ?_
 clear hJ0
 refine ln 0 fun hl1 => ?_
 refine qs tb hJ [0,1] [_] [_,_] ?_
 refine hqs tb hJ [1004] [_,_,.int (YO p xs),_,_] [2] [_] rfl ⟨fun _ _ hk hx hl _ => YS (ZfL hJ (xs := xs) (f := f) (caps := caps) (Os := Os) (p := p) (hf) (hk0)) Zn4 rfl (nm hS hk) (hx) (fun _ ho => YP hH hk ho) (Za (hl.dep 0 5 _ rfl rfl rfl rfl) (Za (hl.dep 1 6 _ rfl rfl rfl rfl) Zd)) (js hJ hx), trivial⟩ ?_
 exact Zi (rtn (m := 0) rfl rfl (eB (by rw [← ZbK])))
theorem ZkH {J : World → Prop} (hJ : Stab J) (s : Sm) (hG : QL J) (h7 : s.kind = 7) (hl : s.text.length + s.proof.length ≤ 100) : Fn Tryz.prog J 146 [.agg (stC s)] (.rd (Zb (wd7 s))) := by
 refine Zx (N := 40) Tryz.func146 rfl rfl (lb rfl) fun S w0 hS hJ0 => ?_
 refine tw Yn ?_
 refine ZO tb hJ [1000] [.ptr (stC s),_] [0] [_] rfl ⟨fun _ _ hk hx hl _ => YU rfl (hl.env 0 0 _ rfl rfl) (Zr hS _ hk hx _ (Nat.le_refl _)) (jo hJ hx), trivial⟩ ?_
 refine tsq ?_
 refine snK 2 tb rfl ?_
 refine sq (.at 0 28) rfl rfl (lb rfl) (fun _ _ h => Zd3 (k := 7) Zaw ZaW rfl (h.get 0 rfl) (h7) (by decide) h.x) ?_
 refine sq (.agg [.lit (.string (⟨#[36, 112]⟩ : ByteArray)), .lit (.bool true), .lit (.int .i64 (1 : Int)), .lit (.int .i64 (200 : Int))]) rfl rfl (lb rfl) (fun _ _ h => Zd2 Zgy rfl (hG _ (h.x.1)) (h.get 0 rfl) h.x) ?_
 refine ZX Zbt hJ rfl rfl rfl (lb rfl) fun b1 => ?_
 refine ZD (b := b1) (off := 0) (cs := [.lit (.string (⟨#[]⟩ : ByteArray)), .lit (.bool false), .lit (.int .i64 0), .lit (.int .i64 0)]) (es := [.lit (.string (⟨#[36, 112]⟩ : ByteArray)), .lit (.bool true), .lit (.int .i64 (1 : Int)), .lit (.int .i64 (200 : Int))]) (news := [.lit (.string (⟨#[36, 112]⟩ : ByteArray)), .lit (.bool true), .lit (.int .i64 (1 : Int)), .lit (.int .i64 (200 : Int))]) hJ hJ0 ZaW rfl rfl rfl (lb rfl) rfl (fun a w h => ⟨(h.get 0 rfl), (h.get 1 rfl)⟩) ?_
 refine kw (fun h => Yj hS h (m := 0) (s := 3) rfl) ?_
 refine seK [0,5] [_,_] rfl ?_
 refine nx (qso tb hJ [0,1,1000] [_] [_,_,_] ?_)
 refine Zn (qso tb hJ [0,1,2,1001] [_,_] [_,_,_,_] ?_)
 refine cj 3 (fun hb1 => ?_) fun hb1 => ?_
 refine tw (YA 9 1 hJ) ?_
 refine ZA (snK 3 tb rfl ?_)
 refine sq (.rd (Zb ([s.label]))) rfl rfl (lb rfl) (fun _ _ h => Y1 Zm Zbq rfl (h.get 0 rfl) (Zr hS _ h.keep h.x _ (Nat.le_refl _)) (jo hJ h.x)) ?_
 refine XB (f := QM) (m := 3) (s := 11) ([] : List ByteArray) ([s.label]) (fun _ => rfl) Xu hJ hJ0 rfl rfl rfl (lb rfl) rfl rfl (fun a w h => (h.get 0 rfl)) (by first | omega | (simp; done) | (simp; omega)) (by first | omega | (simp; done) | (simp; omega)) fun v2 => ?_
 refine snK 1 tb rfl ?_
 refine seK [0,2,6,7] [_,_,_,_] rfl ?_
 refine nx (ln 1 fun hl1 => ?_)
 refine Zn (fun a w h => YN [] (γ := Value × Value) (fun ix' => ([.lit v2, .ptr [.lit (.string (⟨#[36, 112]⟩ : ByteArray)), .lit (.bool true), .lit (.int .i64 (1 : Int)), .lit (.int .i64 (200 : Int))], .str (⟨#[36, 112]⟩ : ByteArray), .rd (Zb ([(⟨#[36, 112]⟩ : ByteArray)])), .any, .ptr [Zb s.text, Zb s.proof], .rd (Zb s.text), .any, .any] : List AV).getD ix' .any) (fun ix' => ([true, true, true, true, true, true, true, true, true] : List Bool).getD ix' true) [(3, fun (g : Value × Value) => .ptr [.lit (.string (⟨#[36, 112]⟩ : ByteArray)), .lit (.bool true), .lit (.int .i64 (1 : Int)), .lit (.int .i64 (200 : Int))]), (1, fun (g : Value × Value) => .ptr (stC s)), (4, fun (g : Value × Value) => .lit g.2)] (fun (j' : Nat) (g : Value × Value) => match j' with | 0 => [OB.row v2 9 1 ((([] : List ByteArray) ++ ([s.label])).map QM)] | 1 => [OB.row g.1 9 1 (((([] : List ByteArray) ++ ([s.label])) ++ ([(⟨#[36, 112]⟩ : ByteArray)])).map QM)] | 2 => [OB.row g.2 9 1 ((((([] : List ByteArray) ++ ([s.label])) ++ ([(⟨#[36, 112]⟩ : ByteArray)])) ++ s.text).map QM)] | _ => [OB.row g.2 9 1 ((((([] : List ByteArray) ++ ([s.label])) ++ ([(⟨#[36, 112]⟩ : ByteArray)])) ++ s.text).map QM)]) (fun (k' : Nat) (g : Value × Value) => match k' with | 0 => g.1 | 1 => g.2 | 2 => g.2 | _ => undef) [4, 7, 8] 3 ((.slice none 0 0), (.slice none 0 0)) (fun _ => rfl) h hJ Yd rfl rfl rfl rfl rfl rfl (fun j' g hj p hp => by rcases j' with _ | _ | _ | _ | j' <;> first | exact hp | exact List.mem_cons_of_mem _ hp | exact List.mem_cons_of_mem _ (List.mem_cons_of_mem _ hp) | (exfalso; omega)) ⟨?o5_1_0, ⟨?o5_1_1, ⟨?o5_1_2, ⟨?o5_1_3, ⟨?o5_1_4, ⟨?o5_1_5, ⟨?o5_1_6, ⟨?o5_1_7, ⟨?o5_1_8, trivial⟩⟩⟩⟩⟩⟩⟩⟩⟩ ⟨?e5_1_0, ⟨?e5_1_1, ⟨?e5_1_2, trivial⟩⟩⟩ ⟨.old 2 3 _ rfl rfl, ⟨.old 3 1 _ rfl rfl, ⟨.eff 2 8 4 (fun (g : Value × Value) => g.2) rfl rfl (fun _ => rfl) (fun _ _ hx => Xw (hx.2.1 _ (mo 0 rfl))), trivial⟩⟩⟩ ?n5_1)
 case o5_1_0 => exact fun _ O' _ => ⟨rfl, fun _ _ _ hx hl _ => Yb rfl (hl.env 0 4 _ rfl rfl) hx⟩
 case o5_1_1 => exact fun _ O' _ => ⟨rfl, fun _ _ _ hx hl _ => ZR Zhf rfl (hl.env 2 3 _ rfl rfl) hx⟩
 case o5_1_2 => exact fun _ O' _ => ⟨rfl, fun _ _ _ hx hl _ => Zy QN rfl (hl.dep 1 17 _ rfl rfl rfl rfl) hx⟩
 case o5_1_3 => exact fun _ O' _ => ⟨rfl, fun _ _ hk hx hl _ => Y1 Zm Zbq rfl (hl.dep 2 18 _ rfl rfl rfl rfl) (Zr hS _ hk hx _ (Nat.le_refl _)) (jo hJ hx)⟩
 case o5_1_4 => exact Zk rfl
 case o5_1_5 => exact fun _ O' _ => ⟨rfl, fun _ _ _ hx hl _ => ZR Zhh rfl (hl.env 3 1 _ rfl rfl) hx⟩
 case o5_1_6 => exact fun _ O' _ => ⟨rfl, fun _ _ _ hx hl _ => Zy XT rfl (hl.dep 5 21 _ rfl rfl rfl rfl) hx⟩
 case o5_1_7 => exact Zk rfl
 case o5_1_8 => exact Zk rfl
 case e5_1_0 => exact ⟨_, rfl, rfl, rfl, rfl, fun g _ w hk hx hl _ => Zo (YL (f := QM) (([] : List ByteArray) ++ ([s.label])) ([(⟨#[36, 112]⟩ : ByteArray)]) (fun _ => rfl) Xu hJ hJ0 rfl hk hx (hl.dep 0 16 _ rfl rfl rfl rfl).lit (hl.dep 3 19 _ rfl rfl rfl rfl) (by first | omega | (simp; done) | (simp; omega)) (by first | omega | (simp; done) | (simp; omega))) fun v w' hp => ⟨(v, g.2), rfl, fun k' hk' => absurd hk' (Nat.not_lt_zero _), fun _ => rfl, hp⟩⟩
 case e5_1_1 => exact ⟨_, rfl, rfl, rfl, rfl, fun g _ w hk hx hl hs => Zo (YL (f := QM) ((([] : List ByteArray) ++ ([s.label])) ++ ([(⟨#[36, 112]⟩ : ByteArray)])) s.text (fun _ => rfl) Xu hJ hJ0 rfl hk hx (hs 0 4 _ 20 (by omega) rfl rfl rfl) (hl.dep 6 22 _ rfl rfl rfl rfl) (by first | omega | (simp; done) | (simp; omega)) (by first | omega | (simp; done) | (simp; omega))) fun v w' hp => ⟨(g.1, v), rfl, fun k' hk' => by rcases k' with _ | _ | _ | k' <;> first | rfl | omega, fun _ => rfl, hp⟩⟩
 case e5_1_2 => exact ⟨_, rfl, rfl, rfl, rfl, fun g _ w hk hx _ hs => Zo (ZcH (.inl rfl) (hs 1 7 _ 23 (by omega) rfl rfl rfl) hk hx) fun v w' hp => ⟨g, rfl, fun _ _ => rfl, fun _ => hp.1, hp.2⟩⟩
 clear a w h
 rintro ⟨v3, v4⟩
 change ∀ a w, St All (SO S [OB.row v4 9 1 ((((([] : List ByteArray) ++ ([s.label])) ++ ([(⟨#[36, 112]⟩ : ByteArray)])) ++ s.text).map QM)]) w0 40 [(3, .ptr [.lit (.string (⟨#[36, 112]⟩ : ByteArray)), .lit (.bool true), .lit (.int .i64 (1 : Int)), .lit (.int .i64 (200 : Int))]), (1, .ptr (stC s)), (4, .lit v4)] (XO J S w0.heap.size [OB.row v4 9 1 ((((([] : List ByteArray) ++ ([s.label])) ++ ([(⟨#[36, 112]⟩ : ByteArray)])) ++ s.text).map QM)]) a w → _
 refine nx (Zn (qso tb hJ [0,1,2,1002] [_,_,_] [_,_,_,_] ?_))
 refine cj 3 (fun hb2 => ?_) fun hb2 => ?_
 refine fun a w h => YN [] (γ := Value × Value) (fun ix' => ([.lit v4, .rd (Zb ([(⟨#[36, 61]⟩ : ByteArray)])), .any, .ptr [Zb s.proof], .rd (Zb s.proof), .any, .any] : List AV).getD ix' .any) (fun ix' => ([true, true, true, true, true, true, true] : List Bool).getD ix' true) [(3, fun (g : Value × Value) => .ptr [.lit (.string (⟨#[36, 112]⟩ : ByteArray)), .lit (.bool true), .lit (.int .i64 (1 : Int)), .lit (.int .i64 (200 : Int))]), (4, fun (g : Value × Value) => .lit g.2)] (fun (j' : Nat) (g : Value × Value) => match j' with | 0 => [OB.row v4 9 1 ((((([] : List ByteArray) ++ ([s.label])) ++ ([(⟨#[36, 112]⟩ : ByteArray)])) ++ s.text).map QM)] | 1 => [OB.row g.1 9 1 (((((([] : List ByteArray) ++ ([s.label])) ++ ([(⟨#[36, 112]⟩ : ByteArray)])) ++ s.text) ++ ([(⟨#[36, 61]⟩ : ByteArray)])).map QM)] | 2 => [OB.row g.2 9 1 ((((((([] : List ByteArray) ++ ([s.label])) ++ ([(⟨#[36, 112]⟩ : ByteArray)])) ++ s.text) ++ ([(⟨#[36, 61]⟩ : ByteArray)])) ++ s.proof).map QM)] | _ => [OB.row g.2 9 1 ((((((([] : List ByteArray) ++ ([s.label])) ++ ([(⟨#[36, 112]⟩ : ByteArray)])) ++ s.text) ++ ([(⟨#[36, 61]⟩ : ByteArray)])) ++ s.proof).map QM)]) (fun (k' : Nat) (g : Value × Value) => match k' with | 0 => g.1 | 1 => g.2 | 2 => g.2 | _ => undef) [2, 5, 6] 3 ((.slice none 0 0), (.slice none 0 0)) (fun _ => rfl) h hJ Yd rfl rfl rfl rfl rfl rfl (fun j' g hj p hp => by rcases j' with _ | _ | _ | _ | j' <;> first | exact hp | exact List.mem_cons_of_mem _ hp | exact List.mem_cons_of_mem _ (List.mem_cons_of_mem _ hp) | (exfalso; omega)) ⟨?o7_2_0, ⟨?o7_2_1, ⟨?o7_2_2, ⟨?o7_2_3, ⟨?o7_2_4, ⟨?o7_2_5, ⟨?o7_2_6, trivial⟩⟩⟩⟩⟩⟩⟩ ⟨?e7_2_0, ⟨?e7_2_1, ⟨?e7_2_2, trivial⟩⟩⟩ ⟨.old 0 3 _ rfl rfl, ⟨.eff 2 6 4 (fun (g : Value × Value) => g.2) rfl rfl (fun _ => rfl) (fun _ _ hx => Xw (hx.2.1 _ (mo 0 rfl))), trivial⟩⟩ ?n7_2
 case o7_2_0 => exact fun _ O' _ => ⟨rfl, fun _ _ _ hx hl _ => Yb rfl (hl.env 2 4 _ rfl rfl) hx⟩
 case o7_2_1 => exact fun _ O' _ => ⟨rfl, fun _ _ hk hx _ _ => Y1 Zm Zbq rfl (Rel.of_lit (Go.Value.string { data := #[36, 61] }) (lb rfl)) (Zr hS _ hk hx _ (Nat.le_refl _)) (jo hJ hx)⟩
 case o7_2_2 => exact Zk rfl
 case o7_2_3 => exact fun _ O' _ => ⟨rfl, fun _ _ _ hx hl _ => ZR Zhg rfl (hl.env 1 1 _ rfl rfl) hx⟩
 case o7_2_4 => exact fun _ O' _ => ⟨rfl, fun _ _ _ hx hl _ => Zy XT rfl (hl.dep 3 30 _ rfl rfl rfl rfl) hx⟩
 case o7_2_5 => exact Zk rfl
 case o7_2_6 => exact Zk rfl
 case e7_2_0 => exact ⟨_, rfl, rfl, rfl, rfl, fun g _ w hk hx hl _ => Zo (YL (f := QM) (((([] : List ByteArray) ++ ([s.label])) ++ ([(⟨#[36, 112]⟩ : ByteArray)])) ++ s.text) ([(⟨#[36, 61]⟩ : ByteArray)]) (fun _ => rfl) Xu hJ hJ0 rfl hk hx (hl.dep 0 27 _ rfl rfl rfl rfl).lit (hl.dep 1 28 _ rfl rfl rfl rfl) (by first | omega | (simp; done) | (simp; omega)) (by first | omega | (simp; done) | (simp; omega))) fun v w' hp => ⟨(v, g.2), rfl, fun k' hk' => absurd hk' (Nat.not_lt_zero _), fun _ => rfl, hp⟩⟩
 case e7_2_1 => exact ⟨_, rfl, rfl, rfl, rfl, fun g _ w hk hx hl hs => Zo (YL (f := QM) ((((([] : List ByteArray) ++ ([s.label])) ++ ([(⟨#[36, 112]⟩ : ByteArray)])) ++ s.text) ++ ([(⟨#[36, 61]⟩ : ByteArray)])) s.proof (fun _ => rfl) Xu hJ hJ0 rfl hk hx (hs 0 2 _ 29 (by omega) rfl rfl rfl) (hl.dep 4 31 _ rfl rfl rfl rfl) (by first | omega | (simp; done) | (simp; omega)) (by first | omega | (simp; done) | (simp; omega))) fun v w' hp => ⟨(g.1, v), rfl, fun k' hk' => by rcases k' with _ | _ | _ | k' <;> first | rfl | omega, fun _ => rfl, hp⟩⟩
 case e7_2_2 => exact ⟨_, rfl, rfl, rfl, rfl, fun g _ w hk hx _ hs => Zo (ZcH (.inl rfl) (hs 1 5 _ 32 (by omega) rfl rfl rfl) hk hx) fun v w' hp => ⟨g, rfl, fun _ _ => rfl, fun _ => hp.1, hp.2⟩⟩
 clear a w h
 rintro ⟨v5, v6⟩
 change ∀ a w, St All (SO S [OB.row v6 9 1 ((((((([] : List ByteArray) ++ ([s.label])) ++ ([(⟨#[36, 112]⟩ : ByteArray)])) ++ s.text) ++ ([(⟨#[36, 61]⟩ : ByteArray)])) ++ s.proof).map QM)]) w0 40 [(3, .ptr [.lit (.string (⟨#[36, 112]⟩ : ByteArray)), .lit (.bool true), .lit (.int .i64 (1 : Int)), .lit (.int .i64 (200 : Int))]), (4, .lit v6)] (XO J S w0.heap.size [OB.row v6 9 1 ((((((([] : List ByteArray) ++ ([s.label])) ++ ([(⟨#[36, 112]⟩ : ByteArray)])) ++ s.text) ++ ([(⟨#[36, 61]⟩ : ByteArray)])) ++ s.proof).map QM)]) a w → _
 refine nx (Zn (qso tb hJ [1,1002] [_,_,_] [_,_] ?_))
 refine cj 1 (fun hb3 => ?_) fun hb3 => ?_
 refine ZA (snK 1 tb rfl ?_)
 refine sq (.rd (Zb ([(⟨#[36, 46]⟩ : ByteArray)]))) rfl rfl (lb rfl) (fun _ _ h => Y1 Zm Zbq rfl (Rel.of_lit (Go.Value.string { data := #[36, 46] }) (lb rfl)) (Zr hS _ h.keep h.x _ (Nat.le_refl _)) (jo hJ h.x)) ?_
 refine XB (f := QM) (m := 1) (s := 36) (((((([] : List ByteArray) ++ ([s.label])) ++ ([(⟨#[36, 112]⟩ : ByteArray)])) ++ s.text) ++ ([(⟨#[36, 61]⟩ : ByteArray)])) ++ s.proof) ([(⟨#[36, 46]⟩ : ByteArray)]) (fun _ => rfl) Xu hJ hJ0 rfl rfl rfl (lb rfl) rfl rfl (fun a w h => (h.get 0 rfl)) (by first | omega | (simp; done) | (simp; omega)) (by first | omega | (simp; done) | (simp; omega)) fun v7 => ?_
 refine snK 1 tb rfl ?_
 refine seK [0,2] [_,_] rfl ?_
 refine nx (ln 1 fun hl2 => ?_)
 refine qso tb hJ [1001] [_,_] [_] ?_
 refine tw (fun h => YC hS h (m := 0) (s := 2) rfl) ?_
 exact Zi (Qg (m := 0) rfl rfl (congrArg (fun z => AV.rd (Zb z)) (show ((((((([] : List ByteArray) ++ ([s.label])) ++ ([(⟨#[36, 112]⟩ : ByteArray)])) ++ s.text) ++ ([(⟨#[36, 61]⟩ : ByteArray)])) ++ s.proof) ++ ([(⟨#[36, 46]⟩ : ByteArray)])) = (wd7 s) from by simp [wd7])))
 exact False.elim (by simp at hb3)
 exact False.elim (by simp [h7] at hb2)
 exact False.elim (by cases hb1)
theorem ZjQ (s : Sm) : (wd7 s).length = s.text.length + s.proof.length + 4 := by simp [wd7]; omega
theorem ZqC {J : World → Prop} (hJ : Stab J) (l : List Sm) (hG : QL J) (h1 : l.length = 1) (h7 : (ge l 0).kind = 7) (hl : (ge l 0).text.length + (ge l 0).proof.length ≤ 100) : Fn Tryz.prog J 127 [.rd (stsC l)] (.tup [.rd (Zb (if fm7 (ge l 0) then wd7 (ge l 0) else [])), .int (if fm7 (ge l 0) then 0 else 2 : Int)]) := by
 refine Zx (N := 27) Tryz.func127 rfl rfl (lb rfl) fun S w0 hS hJ0 => ?_
 refine tw Yn ?_
 refine ln 0 fun hl1 => ?_
 refine qso tb hJ [0] [_,_] [_] ?_
 refine Zn (ZO tb hJ [0,1002] [_,.int (l.length : Nat),_] [1] [_,_] rfl ⟨Yz Zav, trivial⟩ ?_)
 refine cj 1 (fun hb1 => ?_) fun hb1 => ?_
 exact False.elim (by rw [h1] at hb1; exact absurd hb1 (by decide))
 refine Zf (nx (Zn (ZO tb hJ [0,1001] [_,.bool (l.any (fun s' => !fm7 s'))] [1] [_,_] rfl ⟨fun _ _ hk hx hl _ => YS (Zc0 hJ (xs := l) (f := 144) (caps := []) (Os := []) (p := (fun s' => !fm7 s')) (fun q' hq' => (Zni hJ q' hG (by obtain ⟨j, hj, rfl⟩ := XC hq'; obtain rfl : j = 0 := (by omega); exact h7)).r) (Zod)) Zoe rfl (Zr hS _ hk hx) (hx.1) Zt (Za (hl.dep 0 10 _ rfl rfl rfl rfl) (Za (Qc 144) Zd)) (jo hJ hx), trivial⟩ ?_)))
 refine cj 1 (fun hb2 => ?_) fun hb2 => ?_
 have e2 : fm7 (ge l 0) = false := by obtain ⟨x, hx, hn⟩ := List.any_eq_true.1 hb2; obtain ⟨q, hq, rfl⟩ := XC hx; obtain rfl : q = 0 := (by omega); simpa using hn
 refine qso tb hJ [1000,1001] [_,_] [_,_] ?_
 refine tw (fun h => Zer h (m := 0) (s := 2) rfl) ?_
 exact Zi (fun a w h => Zda (m := 0) (k := 1) rfl (Zay h) rfl rfl (congrArg (fun z => AV.rd (Zb z)) (show ([] : List ByteArray) = (if fm7 (ge l 0) then wd7 (ge l 0) else []) from by first | (rw [e2]; rfl) | (rw [f1_2, if_neg (by omega), e2]; rfl))) (eI (by first | (rw [e2]; rfl) | (rw [f1_2, if_neg (by omega), e2]; rfl))))
 have e2 : fm7 (ge l 0) = true := by have := List.any_eq_false.1 hb2 (ge l 0) (Zc (by omega)); simpa using this
 refine Zf (nx (qso tb hJ [0,1000] [_] [_,_] ?_))
 refine Zn (ZO tb hJ [1,1000,1001,1002] [_,.int (l.length : Nat),_] [1] [_,_,_,_] rfl ⟨Yz Zav, trivial⟩ ?_)
 refine Zh (tw (YA 9 1 hJ) ?_)
 refine lpo (ι := Nat × Value × (List ByteArray)) (fun (k, _, out) => (k ≤ l.length) ∧ (out = if k = 0 then [] else wd7 (ge l 0))) (fun (_, vo, out) => [OB.row vo 9 1 (out.map QM)]) (fun (k, vo, _) => [(14, .int (k : Nat)), (4, .lit vo)]) (fun (k, _, _) => l.length - k) [1,2,3,0] [_,_] (0, (.slice none 0 0), ([] : List ByteArray)) ⟨Nat.zero_le _, rfl⟩ ?_
 rintro ⟨k, vo, out⟩ ⟨f1_1, f1_2⟩
 refine qso tb hJ [0,1,2,3,1000] [_] [_,_,_,_,_] ?_
 refine cjS 4 (fun hb3 => ?_) fun hb3 => ?_
 try simp at hb3
 have e0 : k = 0 := by omega
 have e1 : k = 0 → out = [] := fun e => by rw [f1_2, if_pos e]
 have e5 := ZjQ (ge l k)
 refine Zf (nx (Zn (Zh (tsq ?_))))
 refine sq (.ptr (stC (ge l k))) rfl rfl (lb rfl) (fun _ _ h => Yg (i := (k : Int)) QQ rfl (h.get 0 rfl) (h.get 2 rfl) (Int.natCast_nonneg _) (Yt (xs := l) (k := k) (by first | omega | (simp; omega) | grind [Zc])) rfl h.x) ?_
 refine snK 1 tb rfl ?_
 refine Qa (cs := stC (ge l k)) ZjU rfl rfl rfl (lb rfl) rfl rfl rfl (by decide) (m := 0) rfl rfl (fun a w h => Zr hS _ h.keep h.x _ (Nat.le_refl _)) (fun a w h w' hk' => Yp hJ _ _ hk' h.x) ?_
 refine seK [0,3,4,5,6] [_,_,_,_,_] rfl ?_
 refine nx (tsq ?_)
 refine snK 2 tb rfl ?_
 refine sq (.rd (Zb (wd7 (ge l k)))) rfl rfl (lb rfl) (fun _ _ h => ZdE (ZkH hJ (s := (ge l k)) (hG) (by rw [e0]; exact h7) (by rw [e0]; exact hl)) Zob rfl (Zr hS _ h.keep h.x) (h.x.1) (Za (h.get 0 rfl) Zd) (jo hJ h.x)) ?_
 refine XB (f := QM) (m := 2) (s := 18) out (wd7 (ge l k)) (fun _ => rfl) Xu hJ hJ0 rfl rfl rfl (lb rfl) rfl rfl (fun a w h => (h.get 0 rfl)) (by rw [e1 e0, e5, e0]; simp only [List.length_nil]; omega) (by rw [e1 e0, e5, e0]; simp only [List.length_nil]; omega) fun v1 => ?_
 refine snK 1 tb rfl ?_
 refine seK [0,2,6,7,8] [_,_,_,_,_] rfl ?_
 refine nx (ln 1 fun hl2 => ?_)
 refine Zpu tb hJ [0,2,3,4,1002] [_,.int ((out ++ (wd7 (ge l k))).length : Nat),_] [1] [_,_,_,_,_] rfl ⟨fun _ _ _ hx hl _ => ZbG Zw rfl (QC hS hx (mo 0 rfl) (hl.dep 0 22 _ rfl rfl rfl rfl)) hx, trivial⟩ ?_
 refine cj 4 (fun hb4 => ?_) fun hb4 => ?_
 exact False.elim (by have := ZjQ (ge l k); rw [e0] at this; simp only [List.length_append, e1 e0, e0, decide_eq_true_eq] at hb4; simp at hb4; omega)
 refine Zf (nx (Y6 tb hJ [0,1,2,1001] [.int (k + 1 : Nat),_] [0] [_,_,_,_] rfl ⟨YK, trivial⟩ ?_))
 exact XR (k + 1, v1, out ++ (wd7 (ge l k))) [1,2,3,0] ⟨by omega, by rw [e1 e0, e0]; simp⟩
 try simp at hb3
 refine ZC (nx (qso tb hJ [1001,1002] [_,_,_] [_,_] ?_))
 refine tw (fun h => YC hS h (m := 0) (s := 2) rfl) ?_
 exact Zi (fun a w h => Zda (m := 0) (k := 1) rfl (Zay h) rfl rfl (congrArg (fun z => AV.rd (Zb z)) (show out = (if fm7 (ge l 0) then wd7 (ge l 0) else []) from by first | (rw [e2]; rfl) | (rw [f1_2, if_neg (by omega), e2]; rfl))) (eI (by first | (rw [e2]; rfl) | (rw [f1_2, if_neg (by omega), e2]; rfl))))
theorem fm7_x (s : ByteArray) : fm7 ⟨7, ⟨#[120]⟩, [⟨#[120]⟩], [s]⟩ = XL s := by
  have h1 : Zcc ⟨#[120]⟩ = true := by decide +kernel
  have h2 : ZjK ⟨#[120]⟩ = true := by decide +kernel
  simp [fm7, h1, h2]

theorem ZkO {J : World → Prop} (hJ : Stab J) (s : ByteArray) (hG : QL J) : Fn Tryz.prog J 101 [.str s] (.bool (XL s)) := by
 refine Zx (N := 16) Tryz.func101 rfl rfl (lb rfl) fun S w0 hS hJ0 => ?_
 refine tw Yn ?_
 refine qso tb hJ [0] [_] [_] ?_
 refine ZO tb hJ [1000,1002,1004,1007,1009,1010] [.rd (Zb ([(⟨#[120]⟩ : ByteArray)])),_,.rd (Zb ([s])),.agg (stC (⟨(7 : Int), (⟨#[120]⟩ : ByteArray), [(⟨#[120]⟩ : ByteArray)], [s]⟩ : Sm)),.rd (stsC ([(⟨(7 : Int), (⟨#[120]⟩ : ByteArray), [(⟨#[120]⟩ : ByteArray)], [s]⟩ : Sm)])),.tup [.rd (Zb (if fm7 (ge ([(⟨(7 : Int), (⟨#[120]⟩ : ByteArray), [(⟨#[120]⟩ : ByteArray)], [s]⟩ : Sm)]) 0) then wd7 (ge ([(⟨(7 : Int), (⟨#[120]⟩ : ByteArray), [(⟨#[120]⟩ : ByteArray)], [s]⟩ : Sm)]) 0) else [])), .int (if fm7 (ge ([(⟨(7 : Int), (⟨#[120]⟩ : ByteArray), [(⟨#[120]⟩ : ByteArray)], [s]⟩ : Sm)]) 0) then 0 else 2 : Int)],_,_,_,_,_] [0,2,3,4,5] [_,_,_,_,_,_] rfl ⟨fun _ _ hk hx _ _ => Y1 Zm Zbq rfl (Rel.of_lit (Go.Value.string { data := #[120] }) (lb rfl)) (Zr hS _ hk hx _ (Nat.le_refl _)) (jo hJ hx), fun _ _ hk hx hl _ => Y1 Zm Zbq rfl (hl.dep 1 7 _ rfl rfl rfl rfl) (Zr hS _ hk hx _ (Nat.le_refl _)) (jo hJ hx), fun a _ _ hx hl _ => XX (us := [a.eval (Go.Operand.const (Go.Value.int Go.IntKind.i64 7)), a.eval (Go.Operand.const (Go.Value.string { data := #[120] })), a.eval (Go.Operand.tmp 6), a.eval (Go.Operand.tmp 8)]) Zhr rfl (by simp) (Zj (Rel.of_lit (Go.Value.int Go.IntKind.i64 7)) (Zj (Rel.of_lit (Go.Value.string { data := #[120] }) (lb rfl)) (Zj (hl.dep 0 6 _ rfl rfl rfl rfl) (Zj (hl.dep 2 8 _ rfl rfl rfl rfl) ZI)))) rfl hx, fun _ _ hk hx hl _ => Xo QQ Zmt rfl rfl (hl.dep 3 9 _ rfl rfl rfl rfl) (Zr hS _ hk hx _ (Nat.le_refl _)) (jo hJ hx), iFo hS hJ (ZqC hJ (l := ([(⟨(7 : Int), (⟨#[120]⟩ : ByteArray), [(⟨#[120]⟩ : ByteArray)], [s]⟩ : Sm)])) (hG) (rfl) (rfl) (lb rfl)) Zoo, trivial⟩ ?_
 refine ln 0 fun hl1 => ?_
 refine ln 1 fun hl2 => ?_
 refine ln 2 fun hl3 => ?_
 refine ln 3 fun hl4 => ?_
 refine qso tb hJ [1002] [_,_,_] [_] ?_
 exact Zi (Qg (m := 0) rfl rfl (eB (by rw [← fm7_x s]; simp only [ge, List.getD_cons_zero]; cases fm7 ⟨7, ⟨#[120]⟩, [⟨#[120]⟩], [s]⟩ <;> simp)))
end Go.Proofs.YtgifeodnngodiaaGreatDoor
namespace Go.Proofs.YtgifeodnngodiaaGreatDoor

theorem Zo0 {d : Db} {k : Nat} {e : Int} (hk : k < d.consts.length) (h : ∀ j, j < k → Zit d j = 0) (h0 : Zit d k ≠ 0) (he : Zit d k = e) : ZdG d = e := by
  have := Qm hk h h0
  rw [ZdG, this, he]
  rw [he] at h0
  simp [h0]
theorem ZoZ {d : Db} {k : Nat} {e : Int} (h1 : Xi d.consts.length (Zit d) = 0) (hk : k < d.vars.length) (h : ∀ j, j < k → ZjJ d j = 0) (h0 : ZjJ d k ≠ 0) (he : ZjJ d k = e) : ZdG d = e := by
  rw [ZdG, h1, Qm hk h h0, he]; rfl
theorem Zp1 {d : Db} (h1 : Xi d.consts.length (Zit d) = 0) (h2 : Xi d.vars.length (ZjJ d) = 0) : ZdG d = 0 := by
  rw [ZdG, h1, h2]; rfl
theorem QH {α : Type} (ls : List (List α)) (k : Nat) : (ls.take k).flatten.length ≤ ls.flatten.length := by
  have h : ls.flatten = (ls.take k).flatten ++ (ls.drop k).flatten := by rw [← List.flatten_append, List.take_append_drop]
  rw [h, List.length_append]; omega
theorem ZlL {ts : List (ByteArray × ByteArray)} {vis : List ByteArray} {k : ByteArray} (h1 : vis.Nodup) (h2 : ∀ q ∈ vis, q ∈ ts.map (·.1)) (h3 : k ∉ vis ∧ (Zz ts k).isSome = true) : ts.length - (vis ++ [k]).length < ts.length - vis.length := by
  have hk : k ∈ ts.map (·.1) := by have := h3.2; rw [Xx] at this; simpa using this
  have hn : (vis ++ [k]).Nodup := by
    rw [List.nodup_append]
    exact ⟨h1, by simp, fun x hx y hy e => by rw [List.mem_singleton.1 hy] at e; subst e; exact h3.1 hx⟩
  have := ZbJ (ys := ts.map (·.1)) hn fun x hx => by
    rcases List.mem_append.1 hx with h | h
    · exact h2 x h
    · rw [List.mem_singleton.1 h]; exact hk
  simp at this ⊢
  omega
theorem ZlK {ts tm tn : List (ByteArray × ByteArray)} {vis : List ByteArray} {k : ByteArray} (h1 : ∀ q, Zz tn q = if q ∈ vis then Zz ts q else Zz tm q) (h3 : k ∉ vis ∧ (Zz ts k).isSome = true) : ∀ q, Zz (Qq tn k ((Zz ts k).getD default)) q = if q ∈ vis ++ [k] then Zz ts q else Zz tm q := fun q => by
  obtain ⟨v, hv⟩ := Option.isSome_iff_exists.1 h3.2
  rw [Za1]
  by_cases e : q = k
  · subst e; simp [hv]
  · rw [if_neg e, h1 q]
    simp [e]
def Zic (vs : List ByteArray) (f : Fr) : List ByteArray := Za0 vs (f.text :: (X8 f.hyps).map Hy.text).flatten
def Zjm (m : List ByteArray) (h : Hy) : Bool := !h.floating || decide (ge h.text 1 ∈ m)
def Zms (vs : List ByteArray) (wide : List Pr) (i : Nat) : Bool := ((!Op.bytesLess (ge wide i).a.toList (ge wide i).b.toList || !decide ((ge wide i).a ∈ vs)) || !decide ((ge wide i).b ∈ vs)) || (decide ((0 : Int) < ((i : Nat) : Int)) && decide ((0 : Int) ≤ Zgl (ge wide (((i : Nat) : Int) - 1).toNat) (ge wide i)))
def Zo3 (vs : List ByteArray) (f : Fr) : Bool :=
  ((f.hyps.all (Zjm (Zic vs f)) && decide ((Zfj f.hyps).length = (Zic vs f).length)) && (List.range f.wide.length).all fun i => !Zms vs f.wide i) && decide (f.apart = f.wide.filter (inV (Zic vs f)))
def ZdJ (vs : List ByteArray) (f : Fr) : Int := if Zo3 vs f then 0 else 70
theorem setE_h {vs : List ByteArray} {f : Fr} (h : f.hyps.all (Zjm (Zic vs f)) = false) : ZdJ vs f = 70 := by simp [ZdJ, Zo3, h]
theorem setE_n {vs : List ByteArray} {f : Fr} (h : ¬ (Zfj f.hyps).length = (Zic vs f).length) : ZdJ vs f = 70 := by simp [ZdJ, Zo3, h]
theorem setE_w {vs : List ByteArray} {f : Fr} {k : Nat} (hk : k < f.wide.length) (h : Zms vs f.wide k = true) : ZdJ vs f = 70 := by
  have : ((List.range f.wide.length).all fun i => !Zms vs f.wide i) = false := by
    rw [List.all_eq_false]
    exact ⟨k, by simpa using hk, by simp [h]⟩
  simp [ZdJ, Zo3, this]
theorem setE_a {vs : List ByteArray} {f : Fr} (h : ¬ f.apart = f.wide.filter (inV (Zic vs f))) : ZdJ vs f = 70 := by simp [ZdJ, Zo3, h]
theorem Zp9 {vs : List ByteArray} {f : Fr} (h1 : f.hyps.all (Zjm (Zic vs f)) = true) (h2 : (Zfj f.hyps).length = (Zic vs f).length) (h3 : ∀ j, j < f.wide.length → Zms vs f.wide j = false) (h4 : f.apart = f.wide.filter (inV (Zic vs f))) : ZdJ vs f = 0 := by
  have : ((List.range f.wide.length).all fun i => !Zms vs f.wide i) = true := by
    rw [List.all_eq_true]
    intro i hi
    simp [h3 i (by simpa using hi)]
  rw [ZdJ, Zo3, h1, this, decide_eq_true h2, decide_eq_true h4]
  rfl
end Go.Proofs.YtgifeodnngodiaaGreatDoor
set_option maxHeartbeats 8000000
set_option maxRecDepth 100000
namespace Go.Proofs.YtgifeodnngodiaaGreatDoor
open Go.RowKit

theorem ZkK {J : World → Prop} (hJ : Stab J) (M1 : Nat) (M2 : Nat) (M3 : Nat) (M4 : Nat) (M5 : Nat) (d : Db)  : FnM (ι := { p' : List ByteArray × List ByteArray // ZdG d = 0 → p' = (d.consts, d.vars) }) Tryz.prog J 68 [] [.ptr (mpC [M1, M2, M3, M4, M5]), .agg (dbC d)] [OB.set keyS M1 ([] : List ByteArray), OB.set keyS M2 ([] : List ByteArray)] (fun _ => .int (ZdG d)) (fun i' => [OB.set keyS M1 (i'.1.1), OB.set keyS M2 (i'.1.2)]) := by
 refine Z8 (N := 50) Tryz.func68 rfl rfl (lb rfl) fun S w0 R hS hJ0 hH => ?_
 refine Ya (B := St All (SO S (OB.set keyS M1 ([] : List ByteArray) :: OB.set keyS M2 ([] : List ByteArray) :: R)) w0 50 [(0, .ptr (mpC [M1, M2, M3, M4, M5])), (1, .agg (dbC d))] (XO J S w0.heap.size (OB.set keyS M1 ([] : List ByteArray) :: OB.set keyS M2 ([] : List ByteArray) :: R))) ?_ fun a w h => h
 refine ZO tb hJ [0,1000] [.ptr (dbC d),_] [0] [_,_] rfl ⟨fun _ _ hk hx hl _ => YU rfl (hl.env 1 1 _ rfl rfl) (Zr hS _ hk hx _ (Nat.le_refl _)) (jo hJ hx), trivial⟩ ?_
 refine Zn (ZO tb hJ [0,1,1001,1002,1003] [_,_,.int (d.consts.length : Nat),_] [2] [_,_,_,_,_] rfl ⟨Yz Zw, trivial⟩ ?_)
 refine ln 2 fun hl1 => ?_
 refine Zh (lpo (ι := Nat × (List ByteArray)) (fun (k, cs) => (k ≤ d.consts.length) ∧ (cs = d.consts.take k) ∧ (∀ j, j < k → Zit d j = 0)) (fun (_, cs) => (OB.set keyS M1 cs :: OB.set keyS M2 ([] : List ByteArray) :: R)) (fun (k, _) => [(12, .int (k : Nat))]) (fun (k, _) => d.consts.length - k) [0,1,2,3,4] [_,_,_,_] (0, ([] : List ByteArray)) ⟨Nat.zero_le _, rfl, fun j hj => by omega⟩ ?_)
 rintro ⟨k, cs⟩ ⟨f1_1, f1_2, f1_3⟩
 refine qso tb hJ [0,1,2,3,4,1000] [_] [_,_,_,_,_,_] ?_
 refine cjS 5 (fun hb1 => ?_) fun hb1 => ?_
 try simp at hb1
 refine Zf (nx (Zn (Zh (ZO tb hJ [0,1,2,3,4,1002] [.ptr [.lit (.string (ge d.consts k))],_,_] [0] [_,_,_,_,_,_] rfl ⟨iIx Zm, trivial⟩ ?_))))
 refine Zn (ZO tb hJ [0,1,2,3,4,5,1002] [_,.bool (ZjK (ge d.consts k)),_] [1] [_,_,_,_,_,_,_] rfl ⟨iFo hS hJ (Zb7 hJ (s := (ge d.consts k)) ) Zhn, trivial⟩ ?_)
 refine cj 6 (fun hb2 => ?_) fun hb2 => ?_
 try simp at hb2
 have q2 : Zit d k = 2 := by simp [Zit, hb2]
 have e9 : ZdG d = 2 := Zo0 (by omega) f1_3 (by rw [q2]; decide) q2
 refine qso tb hJ [1000] [_] [_] ?_
 exact Zi (fun a w h => ZS  (m := 0) ⟨(cs, ([] : List ByteArray)), by first | (intro h9; rw [e9] at h9; exact absurd h9 (by decide)) | (intro _; rw [e1c, f2_2, ZL (by omega)])⟩ rfl h rfl (eI (e9.symm)))
 try simp at hb2
 refine Zf (nx (Zn (ZO tb hJ [0,1,2,3,4,5,1005] [_,_,_,_,_,.bool (decide ((ge d.consts k) ∈ cs))] [5] [_,_,_,_,_,_,_] rfl ⟨fun _ _ _ hx hl _ => Yh (Kd := keyS) (xs := cs) ZJ ZW (ge d.consts k) rfl (Ze hx (mo 0 rfl)) (hl.dep 3 22 _ rfl rfl rfl rfl) (hl.dep 4 23 _ rfl rfl rfl rfl) hx, trivial⟩ ?_)))
 refine cj 6 (fun hb3 => ?_) fun hb3 => ?_
 try simp at hb3
 have q2 : Zit d k = 6 := by simp [Zit, hb2, ← f1_2, hb3]
 have e9 : ZdG d = 6 := Zo0 (by omega) f1_3 (by rw [q2]; decide) q2
 refine qso tb hJ [1000] [_] [_] ?_
 exact Zi (fun a w h => ZS  (m := 0) ⟨(cs, ([] : List ByteArray)), by first | (intro h9; rw [e9] at h9; exact absurd h9 (by decide)) | (intro _; rw [e1c, f2_2, ZL (by omega)])⟩ rfl h rfl (eI (e9.symm)))
 try simp at hb3
 refine Zf (nx (ZA (snK 5 tb rfl ?_)))
 refine Zbh ZJ hJ hJ0 (ge d.consts k) rfl rfl (.inl rfl) (fun a w h => ⟨(h.get 1 rfl), (h.get 0 rfl), (Rel.of_lit (Go.Value.bool true))⟩) ?_
 refine seK [5,6,7,8,9] [_,_,_,_,_] rfl ?_
 refine nx (Y6 tb hJ [0,1,2,3,1001] [.int (k + 1 : Nat),_] [0] [_,_,_,_,_] rfl ⟨YK, trivial⟩ ?_)
 exact XR (k + 1, Xt cs (ge d.consts k)) [0,1,2,3,4] ⟨by omega, by rw [ZU (by omega), ← f1_2]; simp [Xt, hb3], Z4 f1_3 (by simp [Zit, hb2, ← f1_2, hb3])⟩
 try simp at hb1
 have e1c : cs = d.consts := by rw [f1_2, ZL (by omega)]
 have e1 : Xi d.consts.length (Zit d) = 0 := Q4 fun j hj => f1_3 j (by omega)
 refine ZC (nx (Zn (ZO tb hJ [0,1001,1002,1003] [_,_,.int (d.vars.length : Nat),_] [2] [_,_,_,_] rfl ⟨Yz Zw, trivial⟩ ?_)))
 refine ln 1 fun hl2 => ?_
 refine Zh (lpo (ι := Nat × (List ByteArray)) (fun (k, vs) => (k ≤ d.vars.length) ∧ (vs = d.vars.take k) ∧ (∀ j, j < k → ZjJ d j = 0)) (fun (_, vs) => (OB.set keyS M1 cs :: OB.set keyS M2 vs :: R)) (fun (k, _) => [(34, .int (k : Nat))]) (fun (k, _) => d.vars.length - k) [0,1,2,3] [_,_,_] (0, ([] : List ByteArray)) ⟨Nat.zero_le _, rfl, fun j hj => by omega⟩ ?_)
 rintro ⟨k, vs⟩ ⟨f2_1, f2_2, f2_3⟩
 refine qso tb hJ [0,1,2,3,1000] [_] [_,_,_,_,_] ?_
 refine cjS 4 (fun hb4 => ?_) fun hb4 => ?_
 try simp at hb4
 refine Zf (nx (Zn (Zh (ZO tb hJ [0,1,2,3,1002] [.ptr [.lit (.string (ge d.vars k))],_,_] [0] [_,_,_,_,_] rfl ⟨iIx Zm, trivial⟩ ?_))))
 refine Zn (ZO tb hJ [0,1,2,3,4,1002] [_,.bool (ZjK (ge d.vars k)),_] [1] [_,_,_,_,_,_] rfl ⟨iFo hS hJ (Zb7 hJ (s := (ge d.vars k)) ) Zhn, trivial⟩ ?_)
 refine cj 5 (fun hb5 => ?_) fun hb5 => ?_
 try simp at hb5
 have q5 : ZjJ d k = 2 := by simp [ZjJ, hb5]
 have e9 : ZdG d = 2 := ZoZ e1 (by omega) f2_3 (by rw [q5]; decide) q5
 refine qso tb hJ [1000] [_] [_] ?_
 exact Zi (fun a w h => ZS  (m := 0) ⟨(cs, vs), by first | (intro h9; rw [e9] at h9; exact absurd h9 (by decide)) | (intro _; rw [e1c, f2_2, ZL (by omega)])⟩ rfl h rfl (eI (e9.symm)))
 try simp at hb5
 refine Zf (nx (Zn (ZO tb hJ [0,1,2,3,4,1002] [_,_,.bool (decide ((ge d.vars k) ∈ cs) || decide ((ge d.vars k) ∈ vs))] [2] [_,_,_,_,_,_] rfl ⟨fun _ _ hk hx hl _ => YS (ZaZ hJ (M1 := M1) (M2 := M2) (M3 := M3) (M4 := M4) (M5 := M5) (cs := cs) (vs := vs) (s := (ge d.vars k)) ) ZeW rfl (Zr hS _ hk hx) (hx.1) (ZG (Ze hx (mo 0 rfl)) (ZG (Ze hx (mo 1 rfl)) Zt)) (Za (hl.dep 0 41 _ rfl rfl rfl rfl) (Za (hl.dep 1 42 _ rfl rfl rfl rfl) Zd)) (jo hJ hx), trivial⟩ ?_)))
 refine cj 5 (fun hb6 => ?_) fun hb6 => ?_
 try simp at hb6
 have q5 : ZjJ d k = 6 := by rw [ZjJ, if_neg (by simp [hb5]), if_pos (by rw [← f2_2, ← e1c]; simpa using hb6)]
 have e9 : ZdG d = 6 := ZoZ e1 (by omega) f2_3 (by rw [q5]; decide) q5
 refine qso tb hJ [1000] [_] [_] ?_
 exact Zi (fun a w h => ZS  (m := 0) ⟨(cs, vs), by first | (intro h9; rw [e9] at h9; exact absurd h9 (by decide)) | (intro _; rw [e1c, f2_2, ZL (by omega)])⟩ rfl h rfl (eI (e9.symm)))
 try simp at hb6
 refine Zf (nx (ZA (snK 5 tb rfl ?_)))
 refine kw pm1 ?_
 refine Zbh ZJ hJ hJ0 (ge d.vars k) rfl rfl (.inl rfl) (fun a w h => ⟨(h.get 1 rfl), (h.get 0 rfl), (Rel.of_lit (Go.Value.bool true))⟩) ?_
 refine seK [5,6,7,8] [_,_,_,_] rfl ?_
 refine nx (Y6 tb hJ [0,1,2,1001] [.int (k + 1 : Nat),_] [0] [_,_,_,_] rfl ⟨YK, trivial⟩ ?_)
 refine kw pm1 ?_
 exact XR (k + 1, Xt vs (ge d.vars k)) [0,1,2,3] ⟨by omega, by rw [ZU (by omega), ← f2_2]; simp only [Xt]; rw [if_neg hb6.2], Z4 f2_3 (by rw [ZjJ, if_neg (by simp [hb5]), if_neg (by rw [← f2_2, ← e1c]; simpa using hb6)])⟩
 try simp at hb4
 have e9 : ZdG d = 0 := Zp1 e1 (Q4 fun j hj => f2_3 j (by omega))
 refine ZC (nx (qso tb hJ [1000] [_] [_] ?_))
 exact Zi (fun a w h => ZS  (m := 0) ⟨(cs, vs), by first | (intro h9; rw [e9] at h9; exact absurd h9 (by decide)) | (intro _; rw [e1c, f2_2, ZL (by omega)])⟩ rfl h rfl (eI (e9.symm)))
theorem p_hyp {J : World → Prop} (hJ : Stab J) (M1 : Nat) (M2 : Nat) (M3 : Nat) (M4 : Nat) (M5 : Nat) (L1 : Nat) (T1 : Nat) (cs : List ByteArray) (vs : List ByteArray) (fs : List ByteArray) (hm : List (ByteArray × Hy)) (tm : List (ByteArray × ByteArray)) (ls : List ByteArray) (ts : List (ByteArray × ByteArray)) (y : Hy) (dm : Bool)  : FnR Tryz.prog J 97 [OB.set keyS M1 cs, OB.set keyS M2 vs, OB.set keyS M3 fs, OB.mH M4 hm, OB.mT M5 tm, OB.set keyS L1 ls, OB.mT T1 ts] [.ptr (mpC [M1, M2, M3, M4, M5]), .agg [.lit (.map (some L1)), .lit (.map (some T1))], .agg (hyC y), .bool dm] (.int (ZeK cs vs fs hm tm ls ts y dm)) := by
 refine Z2 (N := 166) Tryz.func97 rfl rfl (lb rfl) fun S w0 hS hJ0 hH => ?_
 refine tw Yn ?_
 refine ZO tb hJ [0,3,1000,1001] [.ptr (mpC [L1, T1]),.ptr (hyC y),_] [0,1] [_,_,_,_] rfl ⟨fun _ _ hk hx hl _ => YU rfl (hl.env 1 1 _ rfl rfl) (Zr hS _ hk hx _ (Nat.le_refl _)) (jo hJ hx), fun _ _ hk hx hl _ => YU rfl (hl.env 2 2 _ rfl rfl) (Zr hS _ hk hx _ (Nat.le_refl _)) (jo hJ hx), trivial⟩ ?_
 refine Zn (ZO tb hJ [0,2,3,1038] [_,_,.bool (Zcc y.label),_,_,_,_,_,_,_,_,_,_,_,_,_,_,_,.int (y.text.length : Nat),_,_,_,_,_,_,_,_,_,_,.int (y.text.length : Nat),_,_,_,_,.int (y.text.length : Nat),_,_,_,_] [2,18,29,34] [_,_,_,_] rfl ⟨iFo hS hJ (ZbI hJ (s := y.label) ) ZeV, Yz Zw, Yz Zw, Yz Zw, trivial⟩ ?_)
 refine cj 3 (fun hb1 => ?_) fun hb1 => ?_
 ·
  replace hb1 : QO y dm = true := hb1
  refine qso tb hJ [1000] [_] [_] ?_
  exact Zi (Qg (m := 0) rfl rfl (eI (by grind [ZeK])))
 ·
  replace hb1 : QO y dm = false := hb1
  have hy1 := Zlu hb1
  refine Zf (nx (Zn (ZO tb hJ [0,1,2,1019] [_,_,_,.bool (decide (y.label ∈ cs) || decide (y.label ∈ vs)),_,_,_,_,_,_,_,.bool (decide (y.label ∈ fs)),_,_,_,_,_,_,.bool (decide (y.label ∈ ls)),_] [3,11,18] [_,_,_,_] rfl ⟨fun _ _ hk hx hl _ => YS (ZaZ hJ (M1 := M1) (M2 := M2) (M3 := M3) (M4 := M4) (M5 := M5) (cs := cs) (vs := vs) (s := y.label) ) ZeW rfl (Zr hS _ hk hx) (hx.1) (ZG (Z9 hH hk hx (mo 0 rfl)) (ZG (Z9 hH hk hx (mo 1 rfl)) Zt)) (Za (hl.dep 0 55 _ rfl rfl rfl rfl) (Za (hl.dep 2 57 _ rfl rfl rfl rfl) Zd)) (jo hJ hx), fun _ _ hk hx hl hc => Yh (Kd := keyS) (xs := fs) ZJ ZW y.label rfl (Z9 hH hk hx (mo 2 rfl)) (hl.dep 8 63 _ rfl rfl rfl hc) (hl.dep 10 65 _ rfl rfl rfl hc) hx, fun _ _ hk hx hl hc => Yh (Kd := keyS) (xs := ls) ZJ ZW y.label rfl (Z9 hH hk hx (mo 5 rfl)) (hl.dep 15 70 _ rfl rfl rfl hc) (hl.dep 17 72 _ rfl rfl rfl hc) hx, trivial⟩ ?_)))
  refine cj 3 (fun hb2 => ?_) fun hb2 => ?_
  ·
   refine qso tb hJ [1000] [_] [_] ?_
   exact Zi (Qg (m := 0) rfl rfl (eI (by grind [ZeK])))
  ·
   refine Zf (nx (Zn (qso tb hJ [0,1,2,1001] [_,_] [_,_,_,_] ?_)))
   refine cj 3 (fun hb3 => ?_) fun hb3 => ?_
   ·
    refine Zn (ZO tb hJ [0,1,2,1005,1021] [_,_,_,_,_,_,.ptr [.lit (.string (ge y.text 0))],_,.bool (decide ((ge y.text 0) ∈ cs)),_,_,_,_,_,_,_,_,.ptr [.lit (.string (ge y.text 1))],_,.bool (decide ((ge y.text 1) ∈ vs)),_,_] [6,8,17,19] [_,_,_,_,_] rfl ⟨iIx (k := 0) Zm (hk := by have := Ys hb1 hb3; omega), fun _ _ hk hx hl _ => Yh (Kd := keyS) (xs := cs) ZJ ZW (ge y.text 0) rfl (Z9 hH hk hx (mo 0 rfl)) (hl.dep 3 80 _ rfl rfl rfl rfl) (hl.dep 7 84 _ rfl rfl rfl rfl) hx, gIx (k := 1) Zm (hk := fun (hc' : ((!(decide ((ge y.text 0) ∈ cs))) == false) = true) => by (try simp at hc'); have := Ys hb1 hb3; omega), fun _ _ hk hx hl hc => Yh (Kd := keyS) (xs := vs) ZJ ZW (ge y.text 1) rfl (Z9 hH hk hx (mo 1 rfl)) (hl.dep 14 91 _ rfl rfl rfl hc) (hl.dep 18 95 _ rfl rfl rfl hc) hx, trivial⟩ ?_)
    refine ln 3 fun hl1 => ?_
    refine cj 4 (fun hb4 => ?_) fun hb4 => ?_
    ·
     refine qso tb hJ [1000] [_] [_] ?_
     exact Zi (Qg (m := 0) rfl rfl (eI (by grind [ZeK])))
    ·
     refine Zf (nx (ZO tb hJ [0,2,1010,1011] [_,_,_,_,.ptr [.lit (.string (ge y.text 1))],_,.tup [.str ((Zz ts (ge y.text 1)).getD default), .bool ((Zz ts (ge y.text 1)).isSome)],_,_,_,_,_] [4,6] [_,_,_,_] rfl ⟨iIx (k := 1) Zm (hk := by have := Ys hb1 hb3; omega), fun _ _ hk hx hl _ => XK (Kd := keyS) (f := (fun z' : ByteArray => AV.str z')) (L := ts) QE ZcN (ge y.text 1) rfl (Z9 hH hk hx (mo 6 rfl)) (hl.dep 1 101 _ rfl rfl rfl rfl) (hl.dep 5 105 _ rfl rfl rfl rfl) hx, trivial⟩ ?_))
     refine Zn (ZO tb hJ [0,1,2,3,1012,1013] [_,_,_,_,_,_,.ptr [.lit (.string (ge y.text 1))],_,.tup [.str ((Zz tm (ge y.text 1)).getD default), .bool ((Zz tm (ge y.text 1)).isSome)],_,_,_,_,_] [6,8] [_,_,_,_,_,_] rfl ⟨iIx (k := 1) Zm (hk := by have := Ys hb1 hb3; omega), fun _ _ hk hx hl _ => XK (Kd := keyS) (f := (fun z' : ByteArray => AV.str z')) (L := tm) QE ZcN (ge y.text 1) rfl (Z9 hH hk hx (mo 4 rfl)) (hl.dep 3 113 _ rfl rfl rfl rfl) (hl.dep 7 117 _ rfl rfl rfl rfl) hx, trivial⟩ ?_)
     refine ZO tb hJ [0,1,3,1019] [_,_,_,_,_,.ptr [.lit (.string (ge y.text 0))],_,_,_,_,_,_,_,_,_,.ptr [.lit (.string (ge y.text 0))],_,_,_,_] [5,15] [_,_,_,_] rfl ⟨gIx (k := 0) Zm (hk := fun (hc' : (((Zz tm (ge y.text 1)).isSome) == true) = true) => by (try simp at hc'); have := Ys hb1 hb3; omega), gIx (k := 0) Zm (hk := fun (hc' : (((((Zz tm (ge y.text 1)).isSome) && (!decide (((Zz tm (ge y.text 1)).getD default) = (ge y.text 0)))) == false) && (((Zz ts (ge y.text 1)).isSome) == true)) = true) => by (try simp at hc'); have := Ys hb1 hb3; omega), trivial⟩ ?_
     refine cj 3 (fun hb5 => ?_) fun hb5 => ?_
     ·
      refine qso tb hJ [1000] [_] [_] ?_
      exact Zi (Qg (m := 0) rfl rfl (eI (by grind [ZeK])))
     ·
      refine Zf (nx (qso tb hJ [0,1,1000] [_] [_,_,_] ?_))
      refine cj 2 (fun hb6 => ?_) fun hb6 => ?_
      ·
       refine qso tb hJ [1000] [_] [_] ?_
       exact Zi (Qg (m := 0) rfl rfl (eI (by grind [ZeK])))
      ·
       refine Zf (nx (Zn (Zn (fun a w h => YE (γ := Nat) (fun ix' => ([.ptr (mpC [M1, M2, M3, M4, M5]), .ptr (mpC [M1, M2, M3, M4, M5]), .ptr (mpC [M4, M5]), .lit (.map (some M4)), .ptr (hyC y), .str y.label, .tup [.agg (hyC ((Zz hm y.label).getD default)), .bool ((Zz hm y.label).isSome)], .tup [.agg (hyC ((Zz hm y.label).getD default)), .bool ((Zz hm y.label).isSome)], .agg (hyC ((Zz hm y.label).getD default)), .bool ((Zz hm y.label).isSome), .any, .any, .bool ((Zz hm y.label).isSome)] : List AV).getD ix' .any) (fun ix' => ([true, true, true, true, true, true, true, true, true, true, true, true, true] : List Bool).getD ix' true) [(6, fun (g : Nat) => .ptr (hyC y)), (14, fun (g : Nat) => .at g 0), (15, fun (g : Nat) => .bool ((Zz hm y.label).isSome))] (fun (j' : Nat) (g : Nat) => match j' with | 0 => [] | 1 => [OB.var g [.lit (.string (⟨#[]⟩ : ByteArray)), .lit (.bool false), Zb ([] : List ByteArray)]] | _ => [OB.var g [.lit (.string (((Zz hm y.label).getD default).label)), .lit (.bool (((Zz hm y.label).getD default).floating)), Zb (((Zz hm y.label).getD default).text)]]) (fun (k' : Nat) (g : Nat) => match k' with | 0 => (.pointer (some ⟨g, 0, none⟩)) | 1 => undef | _ => undef) [10, 11] 2 0 (fun _ => rfl) h hJ Yd rfl rfl rfl rfl rfl rfl (fun j' g hj p hp => by rcases j' with _ | _ | _ | j' <;> first | exact hp | exact List.mem_cons_of_mem _ hp | exact List.mem_cons_of_mem _ (List.mem_cons_of_mem _ hp) | (exfalso; omega)) ⟨?o17_1_0, ⟨?o17_1_1, ⟨?o17_1_2, ⟨?o17_1_3, ⟨?o17_1_4, ⟨?o17_1_5, ⟨?o17_1_6, ⟨?o17_1_7, ⟨?o17_1_8, ⟨?o17_1_9, ⟨?o17_1_10, ⟨?o17_1_11, ⟨?o17_1_12, trivial⟩⟩⟩⟩⟩⟩⟩⟩⟩⟩⟩⟩⟩ ⟨?e17_1_0, ⟨?e17_1_1, trivial⟩⟩ ⟨.old 1 6 _ rfl rfl, ⟨.eff 0 10 14 (fun g => (.pointer (some ⟨g, 0, none⟩))) rfl rfl (fun _ => rfl) (fun _ => True.intro), ⟨.new 12 15 _ rfl rfl rfl, trivial⟩⟩⟩ ?n17_1))))
       case o17_1_0 => exact fun _ O' _ => ⟨rfl, fun _ _ _ hx hl _ => Yb rfl (hl.env 0 0 _ rfl rfl) hx⟩
       case o17_1_1 => exact fun _ O' _ => ⟨rfl, fun _ _ _ hx hl _ => YX rfl (hl.dep 0 150 _ rfl rfl rfl rfl) hx⟩
       case o17_1_2 => exact fun _ O' _ => ⟨rfl, fun _ _ _ hx hl _ => ZR Qr rfl (hl.dep 1 151 _ rfl rfl rfl rfl) hx⟩
       case o17_1_3 => exact fun _ O' _ => ⟨rfl, fun _ _ _ hx hl _ => Zy Zc2 rfl (hl.dep 2 152 _ rfl rfl rfl rfl) hx⟩
       case o17_1_4 => exact fun _ O' _ => ⟨rfl, fun _ _ _ hx hl _ => ZR Q2 rfl (hl.env 1 6 _ rfl rfl) hx⟩
       case o17_1_5 => exact fun _ O' _ => ⟨rfl, fun _ _ _ hx hl _ => Zy QN rfl (hl.dep 4 154 _ rfl rfl rfl rfl) hx⟩
       case o17_1_6 => exact fun _ O' _ => ⟨rfl, fun _ _ hk hx hl _ => XK (Kd := keyS) (f := (fun z' : Hy => AV.agg (hyC z'))) (L := hm) XN Zaa y.label rfl (Z9 hH hk hx (mo 3 rfl)) (hl.dep 3 153 _ rfl rfl rfl rfl) (hl.dep 5 155 _ rfl rfl rfl rfl) hx⟩
       case o17_1_7 => exact fun _ O' _ => ⟨rfl, fun _ _ _ hx hl _ => Yb rfl (hl.dep 6 156 _ rfl rfl rfl rfl) hx⟩
       case o17_1_8 => exact fun _ O' _ => ⟨rfl, fun _ _ _ hx hl _ => Yr rfl (hl.dep 7 149 _ rfl rfl rfl rfl) rfl hx⟩
       case o17_1_9 => exact fun _ O' _ => ⟨rfl, fun _ _ _ hx hl _ => Yr rfl (hl.dep 7 149 _ rfl rfl rfl rfl) rfl hx⟩
       case o17_1_10 => exact Zk rfl
       case o17_1_11 => exact Zk rfl
       case o17_1_12 => exact fun _ O' _ => ⟨rfl, fun _ _ _ hx hl _ => Xe rfl (hl.dep 9 158 _ rfl rfl rfl rfl) hx⟩
       case e17_1_0 => exact ⟨_, rfl, rfl, rfl, rfl, fun g _ w hk hx _ _ => Zo (Zah Yw hJ rfl hk hx) fun v w' ⟨g', hv, hp⟩ => ⟨g', rfl, fun k' hk' => absurd hk' (Nat.not_lt_zero _), fun _ => hv, hp⟩⟩
       case e17_1_1 => exact ⟨_, rfl, rfl, rfl, rfl, fun g _ w hk hx hl hs => (by obtain ⟨us2, hv2, hr3⟩ := Qn (cs := [.lit (.string (((Zz hm y.label).getD default).label)), .lit (.bool (((Zz hm y.label).getD default).floating)), Zb (((Zz hm y.label).getD default).text)]) (hl.dep 8 157 _ rfl rfl rfl rfl); exact Zo (Y4 (S' := S) (off := 0) (cs := [.lit (.string (⟨#[]⟩ : ByteArray)), .lit (.bool false), Zb ([] : List ByteArray)]) (news := [.lit (.string (((Zz hm y.label).getD default).label)), .lit (.bool (((Zz hm y.label).getD default).floating)), Zb (((Zz hm y.label).getD default).text)]) (es := [.lit (.string (((Zz hm y.label).getD default).label)), .lit (.bool (((Zz hm y.label).getD default).floating)), Zb (((Zz hm y.label).getD default).text)]) (us := us2) hJ hJ0 YM rfl hk hx (ZbD (hs 0 10 _ 14 (by omega) rfl rfl rfl)) (by rw [hv2]; rfl) hr3 (lb rfl) rfl) fun v w' hp => ⟨g, rfl, fun _ _ => rfl, fun e => (by cases e), hp⟩)⟩
       clear a w h
       intro b1
       change ∀ a w, St All (SO S [OB.var b1 [.lit (.string (((Zz hm y.label).getD default).label)), .lit (.bool (((Zz hm y.label).getD default).floating)), Zb (((Zz hm y.label).getD default).text)]]) w0 166 [(6, .ptr (hyC y)), (14, .at b1 0), (15, .bool ((Zz hm y.label).isSome))] (XO J S w0.heap.size [OB.var b1 [.lit (.string (((Zz hm y.label).getD default).label)), .lit (.bool (((Zz hm y.label).getD default).floating)), Zb (((Zz hm y.label).getD default).text)]]) a w → _
       refine kw (fun h => Yj hS h (m := 1) (s := 14) rfl) ?_
       refine nx (ZO tb hJ [1006] [_,_,_,_,.bool (Zpt ((Zz hm y.label).getD default) y),_,_] [4] [_] rfl ⟨iFo hS hJ (ZfE hJ (x := ((Zz hm y.label).getD default)) (y := y) ) ZiE, trivial⟩ ?_)
       refine cj 0 (fun hb8 => ?_) fun hb8 => ?_
       ·
        refine qso tb hJ [1000] [_] [_] ?_
        exact Zi (Qg (m := 0) rfl rfl (eI (by grind [ZeK])))
       ·
        refine Zf (nx (qso tb hJ [1000] [_] [_] ?_))
        exact Zi (Qg (m := 0) rfl rfl (eI (by grind [ZeK])))
   ·
    refine ZO tb hJ [0,2,1002,1004] [_,_,_,.int (ZiU cs vs y.text),_] [3] [_,_,_,_] rfl ⟨fun _ _ hk hx hl _ => YS (Zpf hJ (M1 := M1) (M2 := M2) (M3 := M3) (M4 := M4) (M5 := M5) (cs := cs) (vs := vs) (l := y.text) ) Zl0 rfl (Zr hS _ hk hx) (hx.1) (ZG (Z9 hH hk hx (mo 0 rfl)) (ZG (Z9 hH hk hx (mo 1 rfl)) Zt)) (Za (hl.dep 0 142 _ rfl rfl rfl rfl) (Za (hl.dep 2 144 _ rfl rfl rfl rfl) Zd)) (jo hJ hx), trivial⟩ ?_
    refine ln 2 fun hl2 => ?_
    refine qso tb hJ [0,1,3,1001] [_,_] [_,_,_,_] ?_
    refine cj 3 (fun hb7 => ?_) fun hb7 => ?_
    ·
     refine qso tb hJ [1001] [_,_] [_] ?_
     exact Zi (Qg (m := 0) rfl rfl (eI (by grind [ZeK])))
    ·
     refine Zf (nx (Zn (Zn (fun a w h => YE (γ := Nat) (fun ix' => ([.ptr (mpC [M1, M2, M3, M4, M5]), .ptr (mpC [M1, M2, M3, M4, M5]), .ptr (mpC [M4, M5]), .lit (.map (some M4)), .ptr (hyC y), .str y.label, .tup [.agg (hyC ((Zz hm y.label).getD default)), .bool ((Zz hm y.label).isSome)], .tup [.agg (hyC ((Zz hm y.label).getD default)), .bool ((Zz hm y.label).isSome)], .agg (hyC ((Zz hm y.label).getD default)), .bool ((Zz hm y.label).isSome), .any, .any, .bool ((Zz hm y.label).isSome)] : List AV).getD ix' .any) (fun ix' => ([true, true, true, true, true, true, true, true, true, true, true, true, true] : List Bool).getD ix' true) [(6, fun (g : Nat) => .ptr (hyC y)), (14, fun (g : Nat) => .at g 0), (15, fun (g : Nat) => .bool ((Zz hm y.label).isSome))] (fun (j' : Nat) (g : Nat) => match j' with | 0 => [] | 1 => [OB.var g [.lit (.string (⟨#[]⟩ : ByteArray)), .lit (.bool false), Zb ([] : List ByteArray)]] | _ => [OB.var g [.lit (.string (((Zz hm y.label).getD default).label)), .lit (.bool (((Zz hm y.label).getD default).floating)), Zb (((Zz hm y.label).getD default).text)]]) (fun (k' : Nat) (g : Nat) => match k' with | 0 => (.pointer (some ⟨g, 0, none⟩)) | 1 => undef | _ => undef) [10, 11] 2 0 (fun _ => rfl) h hJ Yd rfl rfl rfl rfl rfl rfl (fun j' g hj p hp => by rcases j' with _ | _ | _ | j' <;> first | exact hp | exact List.mem_cons_of_mem _ hp | exact List.mem_cons_of_mem _ (List.mem_cons_of_mem _ hp) | (exfalso; omega)) ⟨?o17_2_0, ⟨?o17_2_1, ⟨?o17_2_2, ⟨?o17_2_3, ⟨?o17_2_4, ⟨?o17_2_5, ⟨?o17_2_6, ⟨?o17_2_7, ⟨?o17_2_8, ⟨?o17_2_9, ⟨?o17_2_10, ⟨?o17_2_11, ⟨?o17_2_12, trivial⟩⟩⟩⟩⟩⟩⟩⟩⟩⟩⟩⟩⟩ ⟨?e17_2_0, ⟨?e17_2_1, trivial⟩⟩ ⟨.old 1 6 _ rfl rfl, ⟨.eff 0 10 14 (fun g => (.pointer (some ⟨g, 0, none⟩))) rfl rfl (fun _ => rfl) (fun _ => True.intro), ⟨.new 12 15 _ rfl rfl rfl, trivial⟩⟩⟩ ?n17_2))))
     case o17_2_0 => exact fun _ O' _ => ⟨rfl, fun _ _ _ hx hl _ => Yb rfl (hl.env 0 0 _ rfl rfl) hx⟩
     case o17_2_1 => exact fun _ O' _ => ⟨rfl, fun _ _ _ hx hl _ => YX rfl (hl.dep 0 150 _ rfl rfl rfl rfl) hx⟩
     case o17_2_2 => exact fun _ O' _ => ⟨rfl, fun _ _ _ hx hl _ => ZR Qr rfl (hl.dep 1 151 _ rfl rfl rfl rfl) hx⟩
     case o17_2_3 => exact fun _ O' _ => ⟨rfl, fun _ _ _ hx hl _ => Zy Zc2 rfl (hl.dep 2 152 _ rfl rfl rfl rfl) hx⟩
     case o17_2_4 => exact fun _ O' _ => ⟨rfl, fun _ _ _ hx hl _ => ZR Q2 rfl (hl.env 1 6 _ rfl rfl) hx⟩
     case o17_2_5 => exact fun _ O' _ => ⟨rfl, fun _ _ _ hx hl _ => Zy QN rfl (hl.dep 4 154 _ rfl rfl rfl rfl) hx⟩
     case o17_2_6 => exact fun _ O' _ => ⟨rfl, fun _ _ hk hx hl _ => XK (Kd := keyS) (f := (fun z' : Hy => AV.agg (hyC z'))) (L := hm) XN Zaa y.label rfl (Z9 hH hk hx (mo 3 rfl)) (hl.dep 3 153 _ rfl rfl rfl rfl) (hl.dep 5 155 _ rfl rfl rfl rfl) hx⟩
     case o17_2_7 => exact fun _ O' _ => ⟨rfl, fun _ _ _ hx hl _ => Yb rfl (hl.dep 6 156 _ rfl rfl rfl rfl) hx⟩
     case o17_2_8 => exact fun _ O' _ => ⟨rfl, fun _ _ _ hx hl _ => Yr rfl (hl.dep 7 149 _ rfl rfl rfl rfl) rfl hx⟩
     case o17_2_9 => exact fun _ O' _ => ⟨rfl, fun _ _ _ hx hl _ => Yr rfl (hl.dep 7 149 _ rfl rfl rfl rfl) rfl hx⟩
     case o17_2_10 => exact Zk rfl
     case o17_2_11 => exact Zk rfl
     case o17_2_12 => exact fun _ O' _ => ⟨rfl, fun _ _ _ hx hl _ => Xe rfl (hl.dep 9 158 _ rfl rfl rfl rfl) hx⟩
     case e17_2_0 => exact ⟨_, rfl, rfl, rfl, rfl, fun g _ w hk hx _ _ => Zo (Zah Yw hJ rfl hk hx) fun v w' ⟨g', hv, hp⟩ => ⟨g', rfl, fun k' hk' => absurd hk' (Nat.not_lt_zero _), fun _ => hv, hp⟩⟩
     case e17_2_1 => exact ⟨_, rfl, rfl, rfl, rfl, fun g _ w hk hx hl hs => (by obtain ⟨us2, hv2, hr3⟩ := Qn (cs := [.lit (.string (((Zz hm y.label).getD default).label)), .lit (.bool (((Zz hm y.label).getD default).floating)), Zb (((Zz hm y.label).getD default).text)]) (hl.dep 8 157 _ rfl rfl rfl rfl); exact Zo (Y4 (S' := S) (off := 0) (cs := [.lit (.string (⟨#[]⟩ : ByteArray)), .lit (.bool false), Zb ([] : List ByteArray)]) (news := [.lit (.string (((Zz hm y.label).getD default).label)), .lit (.bool (((Zz hm y.label).getD default).floating)), Zb (((Zz hm y.label).getD default).text)]) (es := [.lit (.string (((Zz hm y.label).getD default).label)), .lit (.bool (((Zz hm y.label).getD default).floating)), Zb (((Zz hm y.label).getD default).text)]) (us := us2) hJ hJ0 YM rfl hk hx (ZbD (hs 0 10 _ 14 (by omega) rfl rfl rfl)) (by rw [hv2]; rfl) hr3 (lb rfl) rfl) fun v w' hp => ⟨g, rfl, fun _ _ => rfl, fun e => (by cases e), hp⟩)⟩
     clear a w h
     intro b2
     change ∀ a w, St All (SO S [OB.var b2 [.lit (.string (((Zz hm y.label).getD default).label)), .lit (.bool (((Zz hm y.label).getD default).floating)), Zb (((Zz hm y.label).getD default).text)]]) w0 166 [(6, .ptr (hyC y)), (14, .at b2 0), (15, .bool ((Zz hm y.label).isSome))] (XO J S w0.heap.size [OB.var b2 [.lit (.string (((Zz hm y.label).getD default).label)), .lit (.bool (((Zz hm y.label).getD default).floating)), Zb (((Zz hm y.label).getD default).text)]]) a w → _
     refine kw (fun h => Yj hS h (m := 1) (s := 14) rfl) ?_
     refine nx (ZO tb hJ [1006] [_,_,_,_,.bool (Zpt ((Zz hm y.label).getD default) y),_,_] [4] [_] rfl ⟨iFo hS hJ (ZfE hJ (x := ((Zz hm y.label).getD default)) (y := y) ) ZiE, trivial⟩ ?_)
     refine cj 0 (fun hb8 => ?_) fun hb8 => ?_
     ·
      refine qso tb hJ [1000] [_] [_] ?_
      exact Zi (Qg (m := 0) rfl rfl (eI (by grind [ZeK])))
     ·
      refine Zf (nx (qso tb hJ [1000] [_] [_] ?_))
      exact Zi (Qg (m := 0) rfl rfl (eI (by grind [ZeK])))

end Go.Proofs.YtgifeodnngodiaaGreatDoor
set_option maxHeartbeats 8000000
set_option maxRecDepth 100000
namespace Go.Proofs.YtgifeodnngodiaaGreatDoor
open Go.RowKit

theorem Znm {J : World → Prop} (hJ : Stab J) (xs : List Pr) (ys : List Pr)  : Fn Tryz.prog J 125 [.rd (Qx xs), .rd (Qx ys)] (.bool (decide (xs = ys))) := by
 refine Zx (N := 26) Tryz.func125 rfl rfl (lb rfl) fun S w0 hS hJ0 => ?_
 clear hJ0
 refine ln 0 fun hl1 => ?_
 refine ln 1 fun hl2 => ?_
 refine qs tb hJ [0,1] [_] [_,_] ?_
 refine Zn (hqs tb hJ [0,1,1004] [_,.int (xs.length : Nat),_,.int (ys.length : Nat),_] [1,3] [_,_,_] rfl ⟨Yz Z6, Yz Z6, trivial⟩ ?_)
 refine cj 2 (fun hb1 => ?_) fun hb1 => ?_
 try simp at hb1
 refine qs tb hJ [1000] [_] [_] ?_
 exact Zi (rtn (m := 0) rfl rfl (eB (by first | (have := Zdm (xs := xs) (ys := ys) (by omega) (fun j hj => prEq_iff.1 (f1_2 j (by omega))); simp [this]; done) | (symm; rw [decide_eq_false_iff_not]; intro e; subst e; simp at hb3; done) | (symm; rw [decide_eq_false_iff_not]; intro e; subst e; exact hb1 rfl))))
 try simp at hb1
 refine Zf (nx (Zn (hqs tb hJ [0,1,1001,1002] [_,.int (xs.length : Nat),_] [1] [_,_,_,_] rfl ⟨Yz Z6, trivial⟩ ?_)))
 refine Zh (lp (ι := Nat) (fun k => (k ≤ xs.length) ∧ (∀ j, j < k → Zmo (ge xs j) (ge ys j) = true)) (fun k => [(13, .int (k : Nat))]) (fun k => xs.length - k) [0,1,2,3] [_,_,_] 0 ⟨Nat.zero_le _, fun j hj => by omega⟩ ?_)
 rintro k ⟨f1_1, f1_2⟩
 refine qs tb hJ [0,1,2,3,1000] [_] [_,_,_,_,_] ?_
 refine cjS 4 (fun hb2 => ?_) fun hb2 => ?_
 try simp at hb2
 refine Zf (nx (Zn (Zh (qs tb hJ [0,1,2,3,1001] [_,_] [_,_,_,_,_] ?_))))
 refine hqs tb hJ [0,1,2,3,1008] [_,_,.ptr (prC (ge xs k)),_,_,_,.ptr (prC (ge ys k)),_,.bool (!(decide ((ge xs k).a = (ge ys k).a) && decide ((ge xs k).b = (ge ys k).b)))] [2,6,8] [_,_,_,_,_] rfl ⟨iIx ZE, iIx ZE, fun _ _ _ hx hl _ => Zpc ZlD rfl (hl.dep 3 19 _ rfl rfl rfl rfl) (hl.dep 7 23 _ rfl rfl rfl rfl) hx, trivial⟩ ?_
 refine cj 4 (fun hb3 => ?_) fun hb3 => ?_
 try simp at hb3
 refine qs tb hJ [1000] [_] [_] ?_
 exact Zi (rtn (m := 0) rfl rfl (eB (by first | (have := Zdm (xs := xs) (ys := ys) (by omega) (fun j hj => prEq_iff.1 (f1_2 j (by omega))); simp [this]; done) | (symm; rw [decide_eq_false_iff_not]; intro e; subst e; simp at hb3; done) | (symm; rw [decide_eq_false_iff_not]; intro e; subst e; exact hb1 rfl))))
 try simp at hb3
 refine Zf (nx (hqp tb hJ [0,1,2,1001] [.int (k + 1 : Nat),_] [0] [_,_,_,_] rfl ⟨YK, trivial⟩ ?_))
 exact lpE (k + 1) [0,1,2,3] ⟨by omega, Z4 f1_2 (by simp [Zmo, hb3])⟩
 try simp at hb2
 refine ZC (nx (qs tb hJ [1000] [_] [_] ?_))
 exact Zi (rtn (m := 0) rfl rfl (eB (by first | (have := Zdm (xs := xs) (ys := ys) (by omega) (fun j hj => prEq_iff.1 (f1_2 j (by omega))); simp [this]; done) | (symm; rw [decide_eq_false_iff_not]; intro e; subst e; simp at hb3; done) | (symm; rw [decide_eq_false_iff_not]; intro e; subst e; exact hb1 rfl))))
theorem p_sets {J : World → Prop} (hJ : Stab J) (M1 : Nat) (M2 : Nat) (M3 : Nat) (M4 : Nat) (M5 : Nat) (vs : List ByteArray) (f : Fr) (h2 : f.hyps.length ≤ 40) (h3 : f.wide.length * 32 ≤ 140737488351232) (h4 : ∀ x ∈ f.hyps, x.floating = true → x.text.length = 2) : FnR Tryz.prog J 99 [OB.set keyS M2 vs] [.ptr (mpC [M1, M2, M3, M4, M5]), .agg (frC f)] (.int (ZdJ vs f)) := by
 refine Z2 (N := 101) Tryz.func99 rfl rfl (lb rfl) fun S w0 hS hJ0 hH => ?_
 refine tw Yn ?_
 refine ZO tb hJ [0,1000] [.ptr (frC f),_] [0] [_,_] rfl ⟨fun _ _ hk hx hl _ => YU rfl (hl.env 1 1 _ rfl rfl) (Zr hS _ hk hx _ (Nat.le_refl _)) (jo hJ hx), trivial⟩ ?_
 refine Zn (fun a w h => YE (γ := Nat) (fun ix' => ([.ptr (mpC [M1, M2, M3, M4, M5]), .ptr (mpC [M1, M2, M3, M4, M5]), .ptr (mpC [M2, M3, M4, M5]), .lit (.map (some M2)), .ptr [Xr f.hyps, Qx f.apart, Zb f.text, Xr f.dummies, Qx f.wide, Zb f.proof], .rd (Xr f.hyps), .ptr [Zb f.text, Xr f.dummies, Qx f.wide, Zb f.proof], .rd (Zb f.text), .rd (Zbx (f.text :: (X8 f.hyps).map Hy.text)), .any, .any] : List AV).getD ix' .any) (fun ix' => ([true, true, true, true, true, true, true, true, true, true, true] : List Bool).getD ix' true) [(0, fun (g : Nat) => .ptr (mpC [M1, M2, M3, M4, M5])), (3, fun (g : Nat) => .ptr (frC f)), (5, fun (g : Nat) => .lit (.map (some g)))] (fun (j' : Nat) (g : Nat) => match j' with | 0 => [] | 1 => [OB.set keyS g (Za0 vs (f.text :: (X8 f.hyps).map Hy.text).flatten)] | _ => [OB.set keyS g (Za0 vs (f.text :: (X8 f.hyps).map Hy.text).flatten)]) (fun (k' : Nat) (g : Nat) => match k' with | 0 => (.map (some g)) | 1 => (.map (some g)) | _ => undef) [9, 10] 2 0 (fun _ => rfl) h hJ Yd rfl rfl rfl rfl rfl rfl (fun j' g hj p hp => by rcases j' with _ | _ | _ | j' <;> first | exact hp | exact List.mem_cons_of_mem _ hp | exact List.mem_cons_of_mem _ (List.mem_cons_of_mem _ hp) | (exfalso; omega)) ⟨?o1_1_0, ⟨?o1_1_1, ⟨?o1_1_2, ⟨?o1_1_3, ⟨?o1_1_4, ⟨?o1_1_5, ⟨?o1_1_6, ⟨?o1_1_7, ⟨?o1_1_8, ⟨?o1_1_9, ⟨?o1_1_10, trivial⟩⟩⟩⟩⟩⟩⟩⟩⟩⟩⟩ ⟨?e1_1_0, ⟨?e1_1_1, trivial⟩⟩ ⟨.old 0 0 _ rfl rfl, ⟨.old 1 3 _ rfl rfl, ⟨.eff 1 10 5 (fun g => (.map (some g))) rfl rfl (fun _ => rfl) (fun _ => True.intro), trivial⟩⟩⟩ ?n1_1)
 case o1_1_0 => exact fun _ O' _ => ⟨rfl, fun _ _ _ hx hl _ => Yb rfl (hl.env 0 0 _ rfl rfl) hx⟩
 case o1_1_1 => exact fun _ O' _ => ⟨rfl, fun _ _ _ hx hl _ => YX rfl (hl.dep 0 11 _ rfl rfl rfl rfl) hx⟩
 case o1_1_2 => exact fun _ O' _ => ⟨rfl, fun _ _ _ hx hl _ => ZR Zhl rfl (hl.dep 1 12 _ rfl rfl rfl rfl) hx⟩
 case o1_1_3 => exact fun _ O' _ => ⟨rfl, fun _ _ _ hx hl _ => Zy Zk0 rfl (hl.dep 2 13 _ rfl rfl rfl rfl) hx⟩
 case o1_1_4 => exact fun _ O' _ => ⟨rfl, fun _ _ _ hx hl _ => ZR Za2 rfl (hl.env 1 3 _ rfl rfl) hx⟩
 case o1_1_5 => exact fun _ O' _ => ⟨rfl, fun _ _ _ hx hl _ => Zy ZfS rfl (hl.dep 4 15 _ rfl rfl rfl rfl) hx⟩
 case o1_1_6 => exact fun _ O' _ => ⟨rfl, fun _ _ _ hx hl _ => ZR Zee rfl (hl.env 1 3 _ rfl rfl) hx⟩
 case o1_1_7 => exact fun _ O' _ => ⟨rfl, fun _ _ _ hx hl _ => Zy XT rfl (hl.dep 6 17 _ rfl rfl rfl rfl) hx⟩
 case o1_1_8 => exact fun _ O' _ => ⟨rfl, fun _ _ hk hx hl _ => ZdE (Zjg hJ (hs := f.hyps) (t := f.text) (h2)) Zos rfl (Zr hS _ hk hx) (hx.1) (Za (hl.dep 5 16 _ rfl rfl rfl rfl) (Za (hl.dep 7 18 _ rfl rfl rfl rfl) Zd)) (jo hJ hx)⟩
 case o1_1_9 => exact Zk rfl
 case o1_1_10 => exact Zk rfl
 case e1_1_0 => exact ⟨_, rfl, rfl, rfl, rfl, fun _ _ w hk hx hl _ => Zo (Zrf (O := []) (R := []) (ZgZ hJ (M := M2) (vs := vs) (l := (f.text :: (X8 f.hyps).map Hy.text)) ) Zot rfl hS hJ0 (ZG (hH _ (mo 0 rfl)) Zt) hk hx (Za (hl.dep 3 14 _ rfl rfl rfl rfl) (Za (hl.dep 8 19 _ rfl rfl rfl rfl) Zd))) fun v w' ⟨i, hp, hv⟩ => ⟨i, rfl, fun k' hk' => absurd hk' (Nat.not_lt_zero _), fun _ => hv.lit, hp⟩⟩
 case e1_1_1 => exact ⟨_, rfl, rfl, rfl, rfl, fun g _ w hk hx _ hs => Zo (ZcH (.inl rfl) (hs 0 9 _ 20 (by omega) rfl rfl rfl) hk hx) fun v w' hp => ⟨g, rfl, fun _ _ => rfl, fun _ => hp.1, hp.2⟩⟩
 clear a w h
 intro z1
 change ∀ a w, St All (SO S [OB.set keyS z1 (Za0 vs (f.text :: (X8 f.hyps).map Hy.text).flatten)]) w0 101 [(0, .ptr (mpC [M1, M2, M3, M4, M5])), (3, .ptr (frC f)), (5, .lit (.map (some z1)))] (XO J S w0.heap.size [OB.set keyS z1 (Za0 vs (f.text :: (X8 f.hyps).map Hy.text).flatten)]) a w → _
 refine nx (qso tb hJ [0,1,2,1000] [_] [_,_,_,_] ?_)
 refine Zn (ZO tb hJ [0,1,2,3,1001,1002,1003] [_,_,.int (f.hyps.length : Nat),_] [2] [_,_,_,_,_,_,_] rfl ⟨Yz ZF, trivial⟩ ?_)
 refine ln 4 fun hl1 => ?_
 refine Zh (lpo (ι := Nat × Nat) (fun (k, n) => (k ≤ f.hyps.length) ∧ (n = (Zfj (f.hyps.take k)).length) ∧ ((f.hyps.take k).all (Zjm (Zic vs f)) = true) ∧ (n ≤ k)) (fun (_, _) => [OB.set keyS z1 (Za0 vs (f.text :: (X8 f.hyps).map Hy.text).flatten)]) (fun (k, n) => [(24, .int (k : Nat)), (6, .int (n : Nat))]) (fun (k, _) => f.hyps.length - k) [0,1,2,4,5,6,3] [_,_,_,_,_] (0, 0) ⟨Nat.zero_le _, rfl, rfl, Nat.zero_le _⟩ ?_)
 rintro ⟨k, n⟩ ⟨f1_1, f1_2, f1_3, f1_4⟩
 refine qso tb hJ [0,1,2,3,4,5,6,1000] [_] [_,_,_,_,_,_,_,_] ?_
 refine cjS 7 (fun hb1 => ?_) fun hb1 => ?_
 try simp at hb1
 refine Zf (nx (Zn (Zh (tsq ?_))))
 refine sq (.ptr (hyC (ge f.hyps k))) rfl rfl (lb rfl) (fun _ _ h => Yg (i := (k : Int)) ZH rfl (h.get 3 rfl) (h.get 5 rfl) (Int.natCast_nonneg _) (Yt (xs := f.hyps) (k := k) (by first | omega | (simp; omega) | grind [Zc])) rfl h.x) ?_
 refine snK 1 tb rfl ?_
 refine Qa (cs := hyC (ge f.hyps k)) ZaT rfl rfl rfl (lb rfl) rfl rfl rfl (by decide) (m := 0) rfl rfl (fun a w h => Zr hS _ h.keep h.x _ (Nat.le_refl _)) (fun a w h w' hk' => Yp hJ _ _ hk' h.x) ?_
 refine seK [0,3,4,5,6,7,8,9] [_,_,_,_,_,_,_,_] rfl ?_
 refine nx (qso tb hJ [0,1,2,3,4,5,6,7,1001] [_,_] [_,_,_,_,_,_,_,_,_] ?_)
 refine cj 8 (fun hb2 => ?_) fun hb2 => ?_
 try simp at hb2
 refine Zn (ZO tb hJ [1,2,3,4,5,6,7,1002,1006] [_,_,_,.ptr [.lit (.string (ge ((ge f.hyps k).text) 1))],_,.bool (decide ((ge ((ge f.hyps k).text) 1) ∈ (Za0 vs (f.text :: (X8 f.hyps).map Hy.text).flatten))),_] [3,5] [_,_,_,_,_,_,_,_,_] rfl ⟨iIx (k := 1) Zm (hk := by have := h4 _ (Zc (by omega)) hb2; omega), fun _ _ _ hx hl _ => Yh (Kd := keyS) (xs := (Za0 vs (f.text :: (X8 f.hyps).map Hy.text).flatten)) ZJ ZW (ge ((ge f.hyps k).text) 1) rfl (Ze hx (mo 0 rfl)) (hl.dep 0 30 _ rfl rfl rfl rfl) (hl.dep 4 34 _ rfl rfl rfl rfl) hx, trivial⟩ ?_)
 refine ln 7 fun hl2 => ?_
 refine cj 8 (fun hb3 => ?_) fun hb3 => ?_
 have q3 : ZdJ vs f = 70 := setE_h (Zd8 hb1 (by simp only [Zjm, hb2, Bool.not_true, Bool.false_or]; exact decide_eq_false (ZqM hb3)))
 refine qso tb hJ [1000] [_] [_] ?_
 exact Zi (Qg (m := 0) rfl rfl (eI (q3.symm)))
 refine Zf (nx (Y6 tb hJ [0,1,2,3,4,5,1002] [_,.int (n + 1 : Nat),_] [1] [_,_,_,_,_,_,_] rfl ⟨YK (h0 := by omega), trivial⟩ ?_))
 refine nx (Y6 tb hJ [0,1,2,3,4,6,1001] [.int (k + 1 : Nat),_] [0] [_,_,_,_,_,_,_] rfl ⟨YK, trivial⟩ ?_)
 exact XR (k + 1, n + 1) [0,1,2,3,4,6,5] ⟨by omega, by rw [Zfj, YW (by omega), f1_2]; simp [Zfj, hb2], by rw [ZbV (by omega), f1_3]; simp only [Zjm, hb2, Bool.not_true, Bool.false_or, Bool.true_and]; exact decide_eq_true (ZqN hb3), by omega⟩
 try simp at hb2
 refine Zf (nx (Y6 tb hJ [1,2,3,4,5,7,1001] [.int (k + 1 : Nat),_] [0] [_,_,_,_,_,_,_] rfl ⟨YK, trivial⟩ ?_))
 exact XR (k + 1, n) [0,1,2,3,4,6,5] ⟨by omega, by rw [Zfj, YW (by omega), f1_2]; simp [Zfj, hb2], by rw [ZbV (by omega), f1_3]; simp [Zjm, hb2], by omega⟩
 try simp at hb1
 have e1 : f.hyps.all (Zjm (Zic vs f)) = true := by rw [← ZL (xs := f.hyps) (by omega)]; exact f1_3
 have f1_2' : n = (Zfj f.hyps).length := by rw [f1_2, ZL (by omega)]
 refine ZC (nx (Zn (ZO tb hJ [0,1,2,1003] [_,_,.int ((Za0 vs (f.text :: (X8 f.hyps).map Hy.text).flatten).length : Nat),_] [2] [_,_,_,_] rfl ⟨fun _ _ _ hx hl _ => ZmZ Zfh rfl (Ze hx (mo 0 rfl)) (hl.dep 1 41 _ rfl rfl rfl rfl) hx, trivial⟩ ?_)))
 refine cj 3 (fun hb4 => ?_) fun hb4 => ?_
 have hb4a : ¬ n = (Zic vs f).length := fun e => ZqM hb4 (congrArg Int.ofNat e)
 have q3 : ZdJ vs f = 70 := setE_n (by rw [← f1_2']; exact hb4a)
 refine qso tb hJ [1000] [_] [_] ?_
 exact Zi (Qg (m := 0) rfl rfl (eI (q3.symm)))
 have hb4a : n = (Zic vs f).length := Int.ofNat.inj (ZqN hb4)
 refine Zf (nx (Zn (ZO tb hJ [0,1,2,1001,1002,1003] [_,_,.int (f.wide.length : Nat),_] [2] [_,_,_,_,_,_] rfl ⟨Yz Z6, trivial⟩ ?_)))
 refine ln 3 fun hl3 => ?_
 refine Zh (lpo (ι := Nat) (fun k => (k ≤ f.wide.length) ∧ (∀ j, j < k → Zms vs f.wide j = false)) (fun _ => [OB.set keyS z1 (Za0 vs (f.text :: (X8 f.hyps).map Hy.text).flatten)]) (fun k => [(47, .int (k : Nat))]) (fun k => f.wide.length - k) [0,1,2,3,4,5] [_,_,_,_,_] 0 ⟨Nat.zero_le _, fun j hj => by omega⟩ ?_)
 rintro k ⟨f2_1, f2_2⟩
 refine qso tb hJ [0,1,2,3,4,5,1000] [_] [_,_,_,_,_,_,_] ?_
 refine cjS 6 (fun hb5 => ?_) fun hb5 => ?_
 try simp at hb5
 refine Zf (nx (Zn (Zh (tsq ?_))))
 refine snK 1 tb rfl ?_
 refine sq (.ptr (prC (ge f.wide k))) rfl rfl (lb rfl) (fun _ _ h => Yg (i := (k : Int)) ZE rfl (h.get 4 rfl) (h.get 6 rfl) (Int.natCast_nonneg _) (Yt (xs := f.wide) (k := k) (by first | omega | (simp; omega) | grind [Zc])) rfl h.x) ?_
 refine snK 1 tb rfl ?_
 refine ZX QS hJ rfl rfl rfl (lb rfl) fun b2 => ?_
 refine snK 1 tb rfl ?_
 refine ZD (b := b2) (off := 0) (cs := [.lit (.string (⟨#[]⟩ : ByteArray)), .lit (.string (⟨#[]⟩ : ByteArray))]) (es := [.lit (.string ((ge f.wide k).a)), .lit (.string ((ge f.wide k).b))]) (news := [.lit (.string ((ge f.wide k).a)), .lit (.string ((ge f.wide k).b))]) hJ hJ0 Xm rfl rfl rfl (lb rfl) rfl (fun a w h => ⟨(h.get 1 rfl), (h.get 2 rfl)⟩) ?_
 refine kw (fun h => Yj hS h (m := 1) (s := 10) rfl) ?_
 refine seK [0,1,5,6,7,8,9,10] [_,_,_,_,_,_,_,_] rfl ?_
 refine nx (ZO tb hJ [2,3,4,5,6,7,1039] [_,_,_,_,_,_,_,_,_,_,_,_,.bool (decide ((ge f.wide k).a ∈ vs)),_,_,_,_,_,_,_,_,_,.bool (decide ((ge f.wide k).b ∈ vs)),_,_,_,_,_,_,_,_,_,.int ((k : Int) - (1 : Int)),.ptr (prC (ge f.wide ((k : Int) - (1 : Int)).toNat)),_,_,.int (Zgl (ge f.wide ((k : Int) - (1 : Int)).toNat) (ge f.wide k)),_,_,_] [12,22,32,33,36] [_,_,_,_,_,_,_] rfl ⟨fun a _ hk hx hl hc => Yh (Kd := keyS) (xs := vs) ZJ ZW ((ge f.wide k).a) rfl (Z9 hH hk hx (mo 0 rfl)) (hl.dep 9 61 _ rfl rfl rfl hc) (hl.dep 11 63 _ rfl rfl rfl hc) hx, fun _ _ hk hx hl hc => Yh (Kd := keyS) (xs := vs) ZJ ZW ((ge f.wide k).b) rfl (Z9 hH hk hx (mo 0 rfl)) (hl.dep 19 71 _ rfl rfl rfl hc) (hl.dep 21 73 _ rfl rfl rfl hc) hx, fun a _ _ hx hl hc => ZdK (i := (k : Int)) (j := (1 : Int)) rfl (hl.dep 31 83 _ rfl rfl rfl hc) (Rel.of_lit (Go.Value.int Go.IntKind.i64 1)) (by have hc' : (((((!Op.bytesLess ((ge f.wide k).a).toList ((ge f.wide k).b).toList) || (!(decide ((ge f.wide k).a ∈ vs)))) || (!(decide ((ge f.wide k).b ∈ vs)))) == false) && ((decide ((0 : Int) < (k : Int))) == true)) = true := hc; (try simp at hc'); (first | omega | (simp; omega) | grind [Zc])) (by have hc' : (((((!Op.bytesLess ((ge f.wide k).a).toList ((ge f.wide k).b).toList) || (!(decide ((ge f.wide k).a ∈ vs)))) || (!(decide ((ge f.wide k).b ∈ vs)))) == false) && ((decide ((0 : Int) < (k : Int))) == true)) = true := hc; (try simp at hc'); (first | omega | (simp; omega) | grind [Zc])) hx, fun a _ _ hx hl hc => Yg (i := (k : Int) - (1 : Int)) ZE rfl (hl.dep 30 82 _ rfl rfl rfl hc) (hl.dep 32 84 _ rfl rfl rfl hc) (by have hc' : (((((!Op.bytesLess ((ge f.wide k).a).toList ((ge f.wide k).b).toList) || (!(decide ((ge f.wide k).a ∈ vs)))) || (!(decide ((ge f.wide k).b ∈ vs)))) == false) && ((decide ((0 : Int) < (k : Int))) == true)) = true := hc; (try simp at hc'); (first | omega | (simp; omega) | grind [Zc])) (Zex (xs := f.wide) (i := (k : Int) - (1 : Int)) (by have hc' : (((((!Op.bytesLess ((ge f.wide k).a).toList ((ge f.wide k).b).toList) || (!(decide ((ge f.wide k).a ∈ vs)))) || (!(decide ((ge f.wide k).b ∈ vs)))) == false) && ((decide ((0 : Int) < (k : Int))) == true)) = true := hc; (try simp at hc'); (first | omega | (simp; omega) | grind [Zc])) (by have hc' : (((((!Op.bytesLess ((ge f.wide k).a).toList ((ge f.wide k).b).toList) || (!(decide ((ge f.wide k).a ∈ vs)))) || (!(decide ((ge f.wide k).b ∈ vs)))) == false) && ((decide ((0 : Int) < (k : Int))) == true)) = true := hc; (try simp at hc'); (first | omega | (simp; omega) | grind [Zc]))) rfl hx, iFo hS hJ (ZdM hJ (x := (ge f.wide ((k : Int) - (1 : Int)).toNat)) (y := (ge f.wide k)) ) Zor, trivial⟩ ?_)
 refine cj 6 (fun hb6 => ?_) fun hb6 => ?_
 have q3 : ZdJ vs f = 70 := setE_w hb5 hb6
 refine qso tb hJ [1000] [_] [_] ?_
 exact Zi (Qg (m := 0) rfl rfl (eI (q3.symm)))
 refine Zf (nx (Y6 tb hJ [0,1,2,3,4,1001] [.int (k + 1 : Nat),_] [0] [_,_,_,_,_,_] rfl ⟨YK, trivial⟩ ?_))
 exact XR (k + 1) [0,1,2,3,4,5] ⟨by omega, Z4 f2_2 hb6⟩
 try simp at hb5
 refine ZC (nx (Zn (ZO tb hJ [1001,1005,1007] [_,_,_,_,_,.rd (Qx (f.wide.filter (inV (Za0 vs (f.text :: (X8 f.hyps).map Hy.text).flatten)))),.bool (decide (f.apart = (f.wide.filter (inV (Za0 vs (f.text :: (X8 f.hyps).map Hy.text).flatten))))),_] [5,6] [_,_,_] rfl ⟨fun _ _ hk hx hl _ => YS (Zm9 hJ (M := z1) (ms := (Za0 vs (f.text :: (X8 f.hyps).map Hy.text).flatten)) (l := f.wide) (h3)) Zop rfl (Zr hS _ hk hx) (hx.1) (ZG (Ze hx (mo 0 rfl)) Zt) (Za (hl.dep 2 95 _ rfl rfl rfl rfl) (Za (hl.dep 4 97 _ rfl rfl rfl rfl) Zd)) (jo hJ hx), iFo hS hJ (Znm hJ (xs := f.apart) (ys := (f.wide.filter (inV (Za0 vs (f.text :: (X8 f.hyps).map Hy.text).flatten)))) ) Zoq, trivial⟩ ?_)))
 refine ln 0 fun hl4 => ?_
 refine ln 1 fun hl5 => ?_
 refine cj 2 (fun hb7 => ?_) fun hb7 => ?_
 have q3 : ZdJ vs f = 70 := setE_a (ZqM hb7)
 refine qso tb hJ [1000] [_] [_] ?_
 exact Zi (Qg (m := 0) rfl rfl (eI (q3.symm)))
 have q3 : ZdJ vs f = 0 := Zp9 e1 (by rw [← f1_2']; exact hb4a) (fun j hj => f2_2 j (by omega)) (ZqN hb7)
 refine Zf (nx (qso tb hJ [1000] [_] [_] ?_))
 exact Zi (Qg (m := 0) rfl rfl (eI (q3.symm)))
theorem Znf {J : World → Prop} (hJ : Stab J) (s : ByteArray) (hG : QL J) : Fn Tryz.prog J 100 [.str s] (.bool (!XL s)) := by
 refine Zx (N := 6) Tryz.func100 rfl rfl (lb rfl) fun S w0 hS hJ0 => ?_
 clear hJ0
 refine qs tb hJ [0] [_] [_] ?_
 refine hqs tb hJ [1003] [_,.bool (XL s),_,_] [1] [_] rfl ⟨iFn hS hJ (ZkO hJ (s := s) (hG)) ZoK, trivial⟩ ?_
 exact Zi (rtn (m := 0) rfl rfl (eB (by first | rfl | grind [Zc])))
theorem Zne {J : World → Prop} (hJ : Stab J) (M1 : Nat) (M2 : Nat) (M3 : Nat) (M4 : Nat) (M5 : Nat) (hm : List (ByteArray × Hy)) (y : Hy)  : FnR Tryz.prog J 103 [OB.mH M4 hm] [.agg (hyC y), .ptr [.ptr (mpC [M1, M2, M3, M4, M5])]] (.bool ((Zz hm y.label).isSome)) := by
 refine Z2 (N := 17) Tryz.func103 rfl rfl (lb rfl) fun S w0 hS hJ0 hH => ?_
 refine tw Yn ?_
 refine ZO tb hJ [1,1000] [.ptr (hyC y),_] [0] [_,_] rfl ⟨fun _ _ hk hx hl _ => YU rfl (hl.env 0 0 _ rfl rfl) (Zr hS _ hk hx _ (Nat.le_refl _)) (jo hJ hx), trivial⟩ ?_
 refine Zn (fun a w h => YE (γ := Nat) (fun ix' => ([.ptr (mpC [M1, M2, M3, M4, M5]), .ptr (mpC [M1, M2, M3, M4, M5]), .ptr (mpC [M4, M5]), .lit (.map (some M4)), .ptr (hyC y), .str y.label, .tup [.agg (hyC ((Zz hm y.label).getD default)), .bool ((Zz hm y.label).isSome)], .tup [.agg (hyC ((Zz hm y.label).getD default)), .bool ((Zz hm y.label).isSome)], .agg (hyC ((Zz hm y.label).getD default)), .bool ((Zz hm y.label).isSome), .any, .any, .bool ((Zz hm y.label).isSome)] : List AV).getD ix' .any) (fun ix' => ([true, true, true, true, true, true, true, true, true, true, true, true, true] : List Bool).getD ix' true) [(5, fun (g : Nat) => .bool ((Zz hm y.label).isSome))] (fun (j' : Nat) (g : Nat) => match j' with | 0 => [] | 1 => [OB.var g [.lit (.string (⟨#[]⟩ : ByteArray)), .lit (.bool false), Zb ([] : List ByteArray)]] | _ => [OB.var g [.lit (.string (((Zz hm y.label).getD default).label)), .lit (.bool (((Zz hm y.label).getD default).floating)), Zb (((Zz hm y.label).getD default).text)]]) (fun (k' : Nat) (g : Nat) => match k' with | 0 => (.pointer (some ⟨g, 0, none⟩)) | 1 => undef | _ => undef) [10, 11] 2 0 (fun _ => rfl) h hJ Yd rfl rfl rfl rfl rfl rfl (fun j' g hj p hp => by rcases j' with _ | _ | _ | j' <;> first | exact hp | exact List.mem_cons_of_mem _ hp | exact List.mem_cons_of_mem _ (List.mem_cons_of_mem _ hp) | (exfalso; omega)) ⟨?o1_1_0, ⟨?o1_1_1, ⟨?o1_1_2, ⟨?o1_1_3, ⟨?o1_1_4, ⟨?o1_1_5, ⟨?o1_1_6, ⟨?o1_1_7, ⟨?o1_1_8, ⟨?o1_1_9, ⟨?o1_1_10, ⟨?o1_1_11, ⟨?o1_1_12, trivial⟩⟩⟩⟩⟩⟩⟩⟩⟩⟩⟩⟩⟩ ⟨?e1_1_0, ⟨?e1_1_1, trivial⟩⟩ ⟨.new 12 5 _ rfl rfl rfl, trivial⟩ ?n1_1)
 case o1_1_0 => exact fun _ O' _ => ⟨rfl, fun _ _ _ hx hl _ => ZbF Zc3 rfl (hl.env 0 1 _ rfl rfl) hx⟩
 case o1_1_1 => exact fun _ O' _ => ⟨rfl, fun _ _ _ hx hl _ => YX rfl (hl.dep 0 7 _ rfl rfl rfl rfl) hx⟩
 case o1_1_2 => exact fun _ O' _ => ⟨rfl, fun _ _ _ hx hl _ => ZR Qr rfl (hl.dep 1 8 _ rfl rfl rfl rfl) hx⟩
 case o1_1_3 => exact fun _ O' _ => ⟨rfl, fun _ _ _ hx hl _ => Zy Zc2 rfl (hl.dep 2 9 _ rfl rfl rfl rfl) hx⟩
 case o1_1_4 => exact fun _ O' _ => ⟨rfl, fun _ _ _ hx hl _ => ZR Q2 rfl (hl.env 1 2 _ rfl rfl) hx⟩
 case o1_1_5 => exact fun _ O' _ => ⟨rfl, fun _ _ _ hx hl _ => Zy QN rfl (hl.dep 4 11 _ rfl rfl rfl rfl) hx⟩
 case o1_1_6 => exact fun _ O' _ => ⟨rfl, fun _ _ hk hx hl _ => XK (Kd := keyS) (f := (fun z' : Hy => AV.agg (hyC z'))) (L := hm) XN Zaa y.label rfl (Z9 hH hk hx (mo 0 rfl)) (hl.dep 3 10 _ rfl rfl rfl rfl) (hl.dep 5 12 _ rfl rfl rfl rfl) hx⟩
 case o1_1_7 => exact fun _ O' _ => ⟨rfl, fun _ _ _ hx hl _ => Yb rfl (hl.dep 6 13 _ rfl rfl rfl rfl) hx⟩
 case o1_1_8 => exact fun _ O' _ => ⟨rfl, fun _ _ _ hx hl _ => Yr rfl (hl.dep 7 6 _ rfl rfl rfl rfl) rfl hx⟩
 case o1_1_9 => exact fun _ O' _ => ⟨rfl, fun _ _ _ hx hl _ => Yr rfl (hl.dep 7 6 _ rfl rfl rfl rfl) rfl hx⟩
 case o1_1_10 => exact Zk rfl
 case o1_1_11 => exact Zk rfl
 case o1_1_12 => exact fun _ O' _ => ⟨rfl, fun _ _ _ hx hl _ => Xe rfl (hl.dep 9 15 _ rfl rfl rfl rfl) hx⟩
 case e1_1_0 => exact ⟨_, rfl, rfl, rfl, rfl, fun g _ w hk hx _ _ => Zo (Zah Yw hJ rfl hk hx) fun v w' ⟨g', hv, hp⟩ => ⟨g', rfl, fun k' hk' => absurd hk' (Nat.not_lt_zero _), fun _ => hv, hp⟩⟩
 case e1_1_1 => exact ⟨_, rfl, rfl, rfl, rfl, fun g _ w hk hx hl hs => (by obtain ⟨us2, hv2, hr3⟩ := Qn (cs := [.lit (.string (((Zz hm y.label).getD default).label)), .lit (.bool (((Zz hm y.label).getD default).floating)), Zb (((Zz hm y.label).getD default).text)]) (hl.dep 8 14 _ rfl rfl rfl rfl); exact Zo (Y4 (S' := S) (off := 0) (cs := [.lit (.string (⟨#[]⟩ : ByteArray)), .lit (.bool false), Zb ([] : List ByteArray)]) (news := [.lit (.string (((Zz hm y.label).getD default).label)), .lit (.bool (((Zz hm y.label).getD default).floating)), Zb (((Zz hm y.label).getD default).text)]) (es := [.lit (.string (((Zz hm y.label).getD default).label)), .lit (.bool (((Zz hm y.label).getD default).floating)), Zb (((Zz hm y.label).getD default).text)]) (us := us2) hJ hJ0 YM rfl hk hx (ZbD (hs 0 10 _ 4 (by omega) rfl rfl rfl)) (by rw [hv2]; rfl) hr3 (lb rfl) rfl) fun v w' hp => ⟨g, rfl, fun _ _ => rfl, fun e => (by cases e), hp⟩)⟩
 clear a w h
 intro b1
 change ∀ a w, St All (SO S [OB.var b1 [.lit (.string (((Zz hm y.label).getD default).label)), .lit (.bool (((Zz hm y.label).getD default).floating)), Zb (((Zz hm y.label).getD default).text)]]) w0 17 [(5, .bool ((Zz hm y.label).isSome))] (XO J S w0.heap.size [OB.var b1 [.lit (.string (((Zz hm y.label).getD default).label)), .lit (.bool (((Zz hm y.label).getD default).floating)), Zb (((Zz hm y.label).getD default).text)]]) a w → _
 refine kw ZB ?_
 refine nx (qso tb hJ [1001] [_,_] [_] ?_)
 exact Zi (Qg (m := 0) rfl rfl rfl)
end Go.Proofs.YtgifeodnngodiaaGreatDoor
set_option maxHeartbeats 8000000
set_option maxRecDepth 100000
namespace Go.Proofs.YtgifeodnngodiaaGreatDoor
open Go.RowKit

theorem ZqE {J : World → Prop} (hJ : Stab J) (n : Nat) (b : n * 48 ≤ 140737488351232) : FnM (ι := Value) Tryz.prog J 119 [] [.lit (.slice none 0 0), .int (n : Nat)] [] (fun i' => .lit (i')) (fun i' => [OB.row i' 45 3 (([] : List Hy).map hyC)]) := by
 refine Z8 (N := 27) Tryz.func119 rfl rfl (lb rfl) fun S w0 R hS hJ0 hH => ?_
 refine Ya (B := St All (SO S (R)) w0 27 [(0, .lit (.slice none 0 0)), (1, .int (n : Nat))] (XO J S w0.heap.size (R))) ?_ fun a w h => h
 refine qso tb hJ [0,1] [_] [_,_] ?_
 refine Zn (qso tb hJ [0,1,1001] [_,_] [_,_,_] ?_)
 refine cj 2 (fun hb1 => ?_) fun hb1 => ?_
 try simp at hb1
 exact False.elim (by omega)
 try simp at hb1
 refine Zf (nx (Zn (ZO tb hJ [0,1007] [_,_,.int (0 : Nat),_,.int (0 : Nat),.int (((0 : Nat) : Int) - ((0 : Nat) : Int)),.int ((n : Int) - ((0 : Nat) : Int) - ((0 : Nat) : Int)),_] [2,4,5,6] [_,_] rfl ⟨fun _ _ _ hx hl _ => Zh0 ZF rfl (hl.dep 1 9 _ rfl rfl rfl rfl) hx, fun _ _ _ hx hl _ => ZhX ZF rfl (hl.dep 3 11 _ rfl rfl rfl rfl) hx, iSub, iSub, trivial⟩ ?_)))
 refine tw (sa 1 rfl (congrArg AV.int (show (n : Int) - ((0 : Nat) : Int) - ((0 : Nat) : Int) = (n : Int) from by omega))) ?_
 refine qso tb hJ [0,1,1001] [_,_] [_,_,_] ?_
 refine cj 2 (fun hb2 => ?_) fun hb2 => ?_
 try simp at hb2
 refine ZA (snK 2 tb rfl ?_)
 refine sq (.int (0 : Nat)) rfl rfl (lb rfl) (fun _ _ h => Zh0 ZF rfl (h.get 0 rfl) h.x) ?_
 refine sq (.lit (.slice none 0 0)) rfl rfl (lb rfl) (fun _ _ h => Zm1 ZH rfl (h.get 2 rfl) (h.get 0 rfl) h.x) ?_
 refine snK 1 tb rfl ?_
 refine Zp4 (m := n) Zdx XU hJ rfl rfl rfl (lb rfl) (by omega) (by omega) (by omega) (fun a w h => ⟨(h.get 1 rfl), (h.get 0 rfl)⟩) fun v1 => ?_
 refine snK 1 tb rfl ?_
 refine sq (.int (0 : Nat)) rfl rfl (lb rfl) (fun _ _ h => ZhX ZF rfl (h.get 0 rfl) h.x) ?_
 refine sq (.lit (ZaP v1 0)) rfl rfl (lb rfl) (fun _ _ h => ZfC (m := 0) ZH rfl (Ze h.x (mo 0 rfl)) (by first | rfl | (rw [List.length_map]; exact (rfl))) (h.get 2 rfl) (h.get 0 rfl) h.x) ?_
 refine snK 1 tb rfl ?_
 refine seK [0] [_] rfl ?_
 refine nx (qso tb hJ [1001] [_,_] [_] ?_)
 exact Zi (fun a w h => ZS  (m := 0) (ZaP v1 0) rfl h rfl rfl)
 try simp at hb2
 refine Zf (nx (qso tb hJ [1001] [_,_] [_] ?_))
 refine tw (YA 45 3 hJ) ?_
 exact Zi (fun a w h => ZS  (m := 0) (.slice none 0 0) rfl h rfl rfl)
theorem ZfP {J : World → Prop} (hJ : Stab J) (ls : List (List Hy)) (b : ls.flatten.length * 48 ≤ 140737488351232) : Fn Tryz.prog J 96 [.rd (Zq0 ls)] (.rd (Xr ls.flatten)) := by
 refine Zx (N := 36) Tryz.func96 rfl rfl (lb rfl) fun S w0 hS hJ0 => ?_
 refine tw Yn ?_
 refine ln 0 fun hl1 => ?_
 refine qso tb hJ [0] [_] [_] ?_
 refine qso tb hJ [0,1000] [_] [_,_] ?_
 refine Zn (ZO tb hJ [0,1,1000,1001,1002] [_,.int (ls.length : Nat),_] [1] [_,_,_,_,_] rfl ⟨Yz ZcQ, trivial⟩ ?_)
 refine Zh (lpo (ι := Nat × Nat) (fun (k, z) => (k ≤ ls.length) ∧ (z = (ls.take k).flatten.length)) (fun (_, _) => []) (fun (k, z) => [(11, .int (k : Nat)), (3, .int (z : Nat))]) (fun (k, _) => ls.length - k) [0,2,3,4,1] [_,_,_] (0, 0) ⟨Nat.zero_le _, by simp⟩ ?_)
 rintro ⟨k, z⟩ ⟨f1_1, f1_2⟩
 refine qso tb hJ [0,1,2,3,4,1000] [_] [_,_,_,_,_,_] ?_
 refine cjS 5 (fun hb1 => ?_) fun hb1 => ?_
 try simp at hb1
 refine Zf (nx (Zn (Zh (ZO tb hJ [0,1,2,3,4,1001,1002] [.ptr [Xr (ge ls k)],_,_] [0] [_,_,_,_,_,_,_] rfl ⟨iIx Qe, trivial⟩ ?_))))
 refine ln 5 fun hl2 => ?_
 refine ZO tb hJ [0,1,2,3,1004] [_,_,.int ((ge ls k).length : Nat),.int (z + (ge ls k).length : Nat),_] [2,3] [_,_,_,_,_] rfl ⟨Yz ZF, YK (h0 := by have := QH ls (k + 1); rw [ZU (by omega)] at this; simp only [List.flatten_append, List.length_append, List.flatten_cons, List.flatten_nil, List.append_nil] at this; omega), trivial⟩ ?_
 refine qso tb hJ [0,1,2,3,4,1001] [_,_] [_,_,_,_,_,_] ?_
 refine cj 5 (fun hb2 => ?_) fun hb2 => ?_
 try simp at hb2
 exact False.elim (by omega)
 try simp at hb2
 refine Zf (nx (Y6 tb hJ [0,1,2,4,1001] [.int (k + 1 : Nat),_] [0] [_,_,_,_,_] rfl ⟨YK, trivial⟩ ?_))
 exact XR (k + 1, z + (ge ls k).length) [0,1,2,4,3] ⟨by omega, by rw [f1_2, ZU (by omega)]; simp⟩
 try simp at hb1
 refine ZC (nx (tsq ?_))
 refine snK 1 tb rfl ?_
 refine XH (O := []) (R := []) (ZqE hJ (n := z) (by rw [f1_2]; exact Nat.le_trans (Nat.mul_le_mul_right 48 (QH ls k)) b)) Zov rfl rfl rfl (lb rfl) hS hJ0 Zt (fun a w h => (Za (Rel.of_lit (Go.Value.slice none 0 0)) (Za (h.get 0 rfl) Zd))) fun z1 => ?_
 refine snK 1 tb rfl ?_
 refine seK [0,3] [_,_] rfl ?_
 refine nx (Zn (ZO tb hJ [0,1000,1001,1002] [_,.int (ls.length : Nat),_] [1] [_,_,_,_] rfl ⟨Yz ZcQ, trivial⟩ ?_))
 refine Zh (lpo (ι := Nat × Value × (List Hy)) (fun (k, _, out) => (k ≤ ls.length) ∧ (out = (ls.take k).flatten)) (fun (_, vo, out) => [OB.row vo 45 3 (out.map hyC)]) (fun (k, vo, _) => [(27, .int (k : Nat)), (6, .lit vo)]) (fun (k, _, _) => ls.length - k) [1,2,3,0] [_,_] (0, z1, ([] : List Hy)) ⟨Nat.zero_le _, by simp⟩ ?_)
 rintro ⟨k, vo, out⟩ ⟨f2_1, f2_2⟩
 refine qso tb hJ [0,1,2,3,1000] [_] [_,_,_,_,_] ?_
 refine cjS 4 (fun hb3 => ?_) fun hb3 => ?_
 try simp at hb3
 refine Zf (nx (Zn (Zh (ZO tb hJ [0,1,2,3,1001,1002] [.ptr [Xr (ge ls k)],_,_] [0] [_,_,_,_,_,_] rfl ⟨iIx Qe, trivial⟩ ?_))))
 refine ln 4 fun hl3 => ?_
 refine ZA (snK 2 tb rfl ?_)
 refine XB (f := hyC) (m := 1) (s := 31) out (ge ls k) (fun _ => rfl) Zdx hJ hJ0 rfl rfl rfl (lb rfl) rfl rfl (fun a w h => (h.get 0 rfl)) (by have := QH ls (k + 1); rw [ZU (by omega)] at this; simp only [List.flatten_append, List.length_append, List.flatten_cons, List.flatten_nil, List.append_nil] at this; rw [f2_2]; omega) (by have := QH ls (k + 1); rw [ZU (by omega)] at this; simp only [List.flatten_append, List.length_append, List.flatten_cons, List.flatten_nil, List.append_nil] at this; rw [f2_2]; omega) fun v2 => ?_
 refine snK 1 tb rfl ?_
 refine seK [0,4,5,6] [_,_,_,_] rfl ?_
 refine nx (Y6 tb hJ [0,1,2,1001] [.int (k + 1 : Nat),_] [0] [_,_,_,_] rfl ⟨YK, trivial⟩ ?_)
 exact XR (k + 1, v2, out ++ (ge ls k)) [1,2,3,0] ⟨by omega, by rw [f2_2, ZU (by omega)]; simp⟩
 try simp at hb3
 refine ZC (nx (qso tb hJ [1001] [_,_] [_] ?_))
 refine tw (fun h => YC hS h (m := 0) (s := 2) rfl) ?_
 exact Zi (Qg (m := 0) rfl rfl (congrArg (fun z => AV.rd (Xr z)) (show out = ls.flatten from by rw [f2_2, ZL (by omega)])))
theorem Znn {J : World → Prop} (hJ : Stab J) (M5 : Nat) (T1 : Nat) (tm : List (ByteArray × ByteArray)) (ts : List (ByteArray × ByteArray)) (hq : ∀ q' ∈ ts.map (·.1), q'.size ≤ 9223372036854775807) : FnM (ι := { q' : List (ByteArray × ByteArray) // ∀ k', Zz q' k' = if (Zz ts k').isSome then Zz ts k' else Zz tm k' }) Tryz.prog J 105 [] [.lit (.map (some M5)), .lit (.map (some T1))] [OB.mT M5 tm, OB.mT T1 ts] (fun _ => .tup []) (fun i' => [OB.mT M5 (i'.1), OB.mT T1 ts]) := by
 refine Z8 (N := 16) Tryz.func105 rfl rfl (lb rfl) fun S w0 R hS hJ0 hH => ?_
 refine Ya (B := St All (SO S (OB.mT M5 tm :: OB.mT T1 ts :: R)) w0 16 [(0, .lit (.map (some M5))), (1, .lit (.map (some T1)))] (XO J S w0.heap.size (OB.mT M5 tm :: OB.mT T1 ts :: R))) ?_ fun a w h => h
 refine tsq ?_
 refine snK 1 tb rfl ?_
 refine kw pm1 ?_
 refine ZmM (Kd := keyS) (f := (fun z' : ByteArray => AV.str z')) (L := ts) Zfg hJ hJ0 rfl rfl rfl (lb rfl) (fun a w h => (h.get 0 rfl)) fun b1 => ?_
 refine seK [0,2] [_,_] rfl ?_
 refine nx (Zh (lpo (ι := (List ByteArray) × (List (ByteArray × ByteArray))) (fun (vis, tn) => (∀ q', Zz tn q' = if q' ∈ vis then Zz ts q' else Zz tm q') ∧ (vis.Nodup) ∧ (∀ q' ∈ vis, q' ∈ ts.map (·.1))) (fun (vis, tn) => (OB.iter b1 keyS (fun z' : ByteArray => AV.str z') T1 ts vis :: OB.mT M5 tn :: R)) (fun (_, _) => []) (fun (vis, _) => ts.length - vis.length) [0,1] [_,_] (([] : List ByteArray), tm) ⟨fun q' => by simp, by simp, fun q' h => by simp at h⟩ ?_))
 rintro ⟨vis, tn⟩ ⟨f1_1, f1_2, f1_3⟩
 refine tsq ?_
 refine Zp6 (Kd := keyS) (f := (fun z' : ByteArray => AV.str z')) (L := ts) (vis := vis) (fun k' hk' => hq k' hk') hJ hJ0 rfl rfl rfl (lb rfl) (fun a w h => (h.get 0 rfl)) fun z2 h0z2 h1z2 => ?_
 refine sq (.bool z2.1) rfl rfl (lb rfl) (fun _ _ h => Yr rfl (h.get 0 rfl) rfl h.x) ?_
 refine seK [0,2,3] [_,_,_] rfl ?_
 refine nx (cjS 0 (fun hb1 => ?_) fun hb1 => ?_)
 refine tw (ob0 (congrArg (fun z' => OB.iter b1 keyS (fun z' : ByteArray => AV.str z') T1 ts (z')) (show (if z2.1 then vis ++ [z2.2] else vis) = (vis ++ [z2.2]) from by rw [hb1]; rfl))) ?_
 refine Zf (nx (Zh (ZO tb hJ [1,2,1003,1004] [.tup [.str z2.2, .str ((Zz ts z2.2).getD default)],_,_,_,_] [0] [_,_,_,_] rfl ⟨fun _ _ _ hx hl _ => Zqj (Kd := keyS) (f := (fun z' : ByteArray => AV.str z')) (L := ts) (k := z2.2) rfl (Ze hx (mo 0 rfl)) (hq z2.2 (by have := (h1z2 hb1).2; rw [Xx] at this; simpa using this)) (hl.env 1 7 _ rfl rfl) hx, trivial⟩ ?_)))
 refine ZA (snK 3 tb rfl ?_)
 refine kw pm1 ?_
 refine Zkd (f := (fun z' : ByteArray => AV.str z')) QE hJ hJ0 z2.2 ((Zz ts z2.2).getD default) rfl rfl (.inl rfl) (fun a w h => ⟨(h.get 2 rfl), (h.get 1 rfl), (h.get 0 rfl)⟩) ?_
 refine seK [3,4] [_,_] rfl ?_
 refine kw pm1 ?_
 exact XR (vis ++ [z2.2], Qq tn z2.2 ((Zz ts z2.2).getD default)) [0,1] ⟨ZlK f1_1 (h1z2 hb1), by rw [List.nodup_append]; exact ⟨f1_2, by simp, fun x hx y hy e => by rw [List.mem_singleton.1 hy] at e; subst e; exact (h1z2 hb1).1 hx⟩, fun q' hq' => by rcases List.mem_append.1 hq' with h | h; exact f1_3 q' h; rw [List.mem_singleton.1 h]; have := (h1z2 hb1).2; rw [Xx] at this; simpa using this⟩ (hm := (show ts.length - (vis ++ [z2.2]).length < ts.length - vis.length from ZlL f1_2 f1_3 (h1z2 hb1)))
 refine tw (ob0 (congrArg (fun z' => OB.iter b1 keyS (fun z' : ByteArray => AV.str z') T1 ts (z')) (show (if z2.1 then vis ++ [z2.2] else vis) = vis from by rw [hb1]; rfl))) ?_
 refine ZC (kw ZiZ ?_)
 refine kw pm1 ?_
 exact fun a w h => XP  ⟨tn, by intro k'; rw [f1_1]; by_cases hk9 : (Zz ts k').isSome = true; (rw [if_pos hk9, if_pos (h0z2 hb1 k' hk9)]); (rw [if_neg hk9]; by_cases hv9 : k' ∈ vis; (exact absurd (by rw [Xx]; simpa using f1_3 k' hv9) hk9); rw [if_neg hv9])⟩ rfl h rfl
end Go.Proofs.YtgifeodnngodiaaGreatDoor
namespace Go.Proofs.YtgifeodnngodiaaGreatDoor

abbrev alH (f : Fr) : List Hy := f.hyps ++ f.dummies
def lsK (l : List Hy) : List ByteArray := l.foldl (fun s h => Xt s h.label) []
def tsK (l : List Hy) : List (ByteArray × ByteArray) := l.foldl (fun t h => if h.floating then Qq t (ge h.text 1) (ge h.text 0) else t) []
def hmK (hm : List (ByteArray × Hy)) (l : List Hy) : List (ByteArray × Hy) := l.foldl (fun m h => Qq m h.label h) hm
def hyK (cs vs fs : List ByteArray) (hm : List (ByteArray × Hy)) (tm : List (ByteArray × ByteArray)) (f : Fr) (i : Nat) : Int :=
  ZeK cs vs (Xt fs f.label) hm tm (lsK ((alH f).take i)) (tsK ((alH f).take i)) (ge (alH f) i) (decide (((f.hyps.length : Nat) : Int) ≤ ((i : Nat) : Int)))
def ZrX (f : Fr) : Bool := decide ((0 : Int) < ((f.proof.length : Nat) : Int)) && ((!f.thm || decide ((8000 : Int) < ((f.proof.length : Nat) : Int))) || f.proof.any fun s => !XL s)
def Zde (cs vs fs : List ByteArray) (hm : List (ByteArray × Hy)) (tm : List (ByteArray × ByteArray)) (f : Fr) (bf : List Hy) : Int :=
  if !Zcc f.label then 2 else if ((Zz hm f.label).isSome || (decide (f.label ∈ cs) || decide (f.label ∈ vs))) || decide (f.label ∈ fs) then 6
  else if decide ((40 : Int) < ((f.hyps.length : Nat) : Int)) || decide ((40 : Int) < ((f.dummies.length : Nat) : Int)) then 4
  else if !decide (Xi (alH f).length (hyK cs vs fs hm tm f) = 0) then Xi (alH f).length (hyK cs vs fs hm tm f)
  else if !decide (ZiU cs vs f.text = 0) then ZiU cs vs f.text
  else if !decide (ZdJ vs f = 0) then ZdJ vs f
  else if ZrX f then 2
  else if ((X8 f.hyps).drop (ZeS (bf.map Hy.label) ((X8 f.hyps).map Hy.label))).any fun y => (Zz hm y.label).isSome then 7 else 0
theorem Zf6 {cs vs fs : List ByteArray} {hm : List (ByteArray × Hy)} {tm : List (ByteArray × ByteArray)} {ls : List ByteArray} {ts : List (ByteArray × ByteArray)} {y : Hy} {dm : Bool} (h : ZeK cs vs fs hm tm ls ts y dm = 0) : QO y dm = false := by
  cases hf : QO y dm with
  | false => rfl
  | true => simp [ZeK, hf] at h
theorem Zlv {y : Hy} {dm : Bool} (h : QO y dm = false) : y.text.length ≤ 200 := by
  cases hf : y.floating with
  | true => have := Ys h hf; omega
  | false => simp [QO, hf] at h; omega
theorem ZeI (l : List Hy) (y : Hy) : lsK (l ++ [y]) = Xt (lsK l) y.label := by simp [lsK]
theorem Zbv (l : List Hy) (y : Hy) : tsK (l ++ [y]) = if y.floating then Qq (tsK l) (ge y.text 1) (ge y.text 0) else tsK l := by simp [tsK]
theorem ZnM (hm : List (ByteArray × Hy)) (l : List Hy) (y : Hy) : hmK hm (l ++ [y]) = Qq (hmK hm l) y.label y := by simp [hmK]
theorem ZmF : ∀ (l : List Hy), (∀ y ∈ l, y.floating = true → y.text.length = 2) → (∀ y ∈ l, ∀ s ∈ y.text, s.size ≤ 9223372036854775807) → ∀ q ∈ (tsK l).map (·.1), q.size ≤ 9223372036854775807 := by
  intro l
  rw [← List.reverse_reverse l]
  induction l.reverse with
  | nil => simp [tsK]
  | cons y m ih =>
    intro h1 h2 q hq
    rw [List.reverse_cons] at h1 h2 hq
    rw [Zbv] at hq
    have ih' := ih (fun z hz => h1 z (by simp at hz ⊢; exact .inl hz)) (fun z hz => h2 z (by simp at hz ⊢; exact .inl hz))
    by_cases hf : y.floating = true
    · rw [if_pos hf, Zk7] at hq
      split at hq
      · exact ih' q hq
      · rcases List.mem_append.1 hq with h | h
        · exact ih' q h
        · rw [List.mem_singleton.1 h]
          exact h2 y (by simp) _ (Zc (by have := h1 y (by simp) hf; omega))
    · rw [if_neg hf] at hq; exact ih' q hq
def ZnX (tm ts : List (ByteArray × ByteArray)) : List (ByteArray × ByteArray) := ts.foldr (fun p m => Qq m p.1 p.2) tm
theorem Zgk (tm : List (ByteArray × ByteArray)) : ∀ (ts : List (ByteArray × ByteArray)) (k : ByteArray), Zz (ZnX tm ts) k = if (Zz ts k).isSome then Zz ts k else Zz tm k
  | [], k => by simp [ZnX, Qd]
  | p :: ts, k => by
    have ih := Zgk tm ts k
    simp only [ZnX, List.foldr_cons, Za1, Xp] at ih ⊢
    by_cases h : k = p.1
    · simp [h]
    · simp only [if_neg h]; exact ih
end Go.Proofs.YtgifeodnngodiaaGreatDoor
set_option maxHeartbeats 8000000
set_option maxRecDepth 100000
namespace Go.Proofs.YtgifeodnngodiaaGreatDoor
open Go.RowKit

theorem Zqz {J : World → Prop} (hJ : Stab J) (M1 : Nat) (M2 : Nat) (M3 : Nat) (M4 : Nat) (M5 : Nat) (cs : List ByteArray) (vs : List ByteArray) (fs : List ByteArray) (hm : List (ByteArray × Hy)) (tm : List (ByteArray × ByteArray)) (f : Fr) (bf : List Hy) (hw : f.wide.length * 32 ≤ 140737488351232) (hG : QL J) : FnM (ι := { q' : List ByteArray × List (ByteArray × Hy) × List (ByteArray × ByteArray) // Zde cs vs fs hm tm f bf = 0 → q'.1 = Xt fs f.label ∧ q'.2.1 = hmK hm (alH f) ∧ ∀ k', Zz q'.2.2 k' = if (Zz (tsK (alH f)) k').isSome then Zz (tsK (alH f)) k' else Zz tm k' }) Tryz.prog J 69 [] [.ptr (mpC [M1, M2, M3, M4, M5]), .agg (frC f), .rd (Xr bf)] [OB.set keyS M1 cs, OB.set keyS M2 vs, OB.set keyS M3 fs, OB.mH M4 hm, OB.mT M5 tm] (fun _ => .int (Zde cs vs fs hm tm f bf)) (fun i' => [OB.set keyS M1 cs, OB.set keyS M2 vs, OB.set keyS M3 (i'.1.1), OB.mH M4 (i'.1.2.1), OB.mT M5 (i'.1.2.2)]) := by
 refine Z8 (N := 183) Tryz.func69 rfl rfl (lb rfl) fun S w0 R hS hJ0 hH => ?_
 refine Ya (B := St All (SO S (OB.set keyS M1 cs :: OB.set keyS M2 vs :: OB.set keyS M3 fs :: OB.mH M4 hm :: OB.mT M5 tm :: R)) w0 183 [(0, .ptr (mpC [M1, M2, M3, M4, M5])), (1, .agg (frC f)), (2, .rd (Xr bf))] (XO J S w0.heap.size (OB.set keyS M1 cs :: OB.set keyS M2 vs :: OB.set keyS M3 fs :: OB.mH M4 hm :: OB.mT M5 tm :: R))) ?_ fun a w h => h
 refine ln 2 fun hl1 => ?_
 refine ZgM (fun a w h => ZnN (h.get 1 rfl)) fun hsm => ?_
 refine ZO tb hJ [2,1000,1001] [.ptr [.ptr (mpC [M1, M2, M3, M4, M5])],.ptr (frC f),_] [0,1] [_,_,_] rfl ⟨fun _ _ hk hx hl _ => Zkx rfl (hl.env 0 0 _ rfl rfl) (Zr hS _ hk hx _ (Nat.le_refl _)) (jo hJ hx), fun _ _ hk hx hl _ => YU rfl (hl.env 1 1 _ rfl rfl) (Zr hS _ hk hx _ (Nat.le_refl _)) (jo hJ hx), trivial⟩ ?_
 refine Zn (ZO tb hJ [0,1,2,1003] [_,_,.bool (Zcc f.label),_] [2] [_,_,_,_] rfl ⟨iFo hS hJ (ZbI hJ (s := f.label) ) ZeV, trivial⟩ ?_)
 refine cj 3 (fun hb1 => ?_) fun hb1 => ?_
 have e9 : Zde cs vs fs hm tm f bf = 2 := by rw [Zde, if_pos hb1]
 refine qso tb hJ [1000] [_] [_] ?_
 exact Zi (fun a w h => ZS  (m := 0) ⟨(fs, hm, tm), by first | (intro h9; rw [e9] at h9; exact absurd h9 (by first | decide | exact nz)) | (intro _; exact ⟨rfl, by rw [f2_2, ZL (by omega)], fun k' => by rw [NOGHOST.2 k', e3]⟩)⟩ rfl h rfl (eI (e9.symm)))
 refine Zf (nx (Zn (Zn (fun a w h => YE (γ := Nat) (fun ix' => ([.ptr (mpC [M1, M2, M3, M4, M5]), .ptr (mpC [M1, M2, M3, M4, M5]), .ptr (mpC [M4, M5]), .lit (.map (some M4)), .ptr (frC f), .str f.label, .tup [.agg (hyC ((Zz hm f.label).getD default)), .bool ((Zz hm f.label).isSome)], .tup [.agg (hyC ((Zz hm f.label).getD default)), .bool ((Zz hm f.label).isSome)], .agg (hyC ((Zz hm f.label).getD default)), .bool ((Zz hm f.label).isSome), .any, .any, .bool ((Zz hm f.label).isSome)] : List AV).getD ix' .any) (fun ix' => ([true, true, true, true, true, true, true, true, true, true, true, true, true] : List Bool).getD ix' true) [(2, fun (g : Nat) => .rd (Xr bf)), (3, fun (g : Nat) => .ptr [.ptr (mpC [M1, M2, M3, M4, M5])]), (4, fun (g : Nat) => .ptr (frC f)), (8, fun (g : Nat) => .bool ((Zz hm f.label).isSome))] (fun (j' : Nat) (g : Nat) => match j' with | 0 => (OB.set keyS M1 cs :: OB.set keyS M2 vs :: OB.set keyS M3 fs :: OB.mH M4 hm :: OB.mT M5 tm :: R) | 1 => (OB.var g [.lit (.string (⟨#[]⟩ : ByteArray)), .lit (.bool false), Zb ([] : List ByteArray)] :: OB.set keyS M1 cs :: OB.set keyS M2 vs :: OB.set keyS M3 fs :: OB.mH M4 hm :: OB.mT M5 tm :: R) | _ => (OB.var g [.lit (.string (((Zz hm f.label).getD default).label)), .lit (.bool (((Zz hm f.label).getD default).floating)), Zb (((Zz hm f.label).getD default).text)] :: OB.set keyS M1 cs :: OB.set keyS M2 vs :: OB.set keyS M3 fs :: OB.mH M4 hm :: OB.mT M5 tm :: R)) (fun (k' : Nat) (g : Nat) => match k' with | 0 => (.pointer (some ⟨g, 0, none⟩)) | 1 => undef | _ => undef) [10, 11] 2 0 (fun _ => rfl) h hJ Yd rfl rfl rfl rfl rfl rfl (fun j' g hj p hp => by rcases j' with _ | _ | _ | j' <;> first | exact hp | exact List.mem_cons_of_mem _ hp | exact List.mem_cons_of_mem _ (List.mem_cons_of_mem _ hp) | (exfalso; omega)) ⟨?o3_1_0, ⟨?o3_1_1, ⟨?o3_1_2, ⟨?o3_1_3, ⟨?o3_1_4, ⟨?o3_1_5, ⟨?o3_1_6, ⟨?o3_1_7, ⟨?o3_1_8, ⟨?o3_1_9, ⟨?o3_1_10, ⟨?o3_1_11, ⟨?o3_1_12, trivial⟩⟩⟩⟩⟩⟩⟩⟩⟩⟩⟩⟩⟩ ⟨?e3_1_0, ⟨?e3_1_1, trivial⟩⟩ ⟨.old 0 2 _ rfl rfl, ⟨.old 1 3 _ rfl rfl, ⟨.old 2 4 _ rfl rfl, ⟨.new 12 8 _ rfl rfl rfl, trivial⟩⟩⟩⟩ ?n3_1))))
 case o3_1_0 => exact fun _ O' _ => ⟨rfl, fun _ _ _ hx hl _ => ZbF Zc3 rfl (hl.env 1 3 _ rfl rfl) hx⟩
 case o3_1_1 => exact fun _ O' _ => ⟨rfl, fun _ _ _ hx hl _ => YX rfl (hl.dep 0 24 _ rfl rfl rfl rfl) hx⟩
 case o3_1_2 => exact fun _ O' _ => ⟨rfl, fun _ _ _ hx hl _ => ZR Qr rfl (hl.dep 1 25 _ rfl rfl rfl rfl) hx⟩
 case o3_1_3 => exact fun _ O' _ => ⟨rfl, fun _ _ _ hx hl _ => Zy Zc2 rfl (hl.dep 2 26 _ rfl rfl rfl rfl) hx⟩
 case o3_1_4 => exact fun _ O' _ => ⟨rfl, fun _ _ _ hx hl _ => ZR Zcf rfl (hl.env 2 4 _ rfl rfl) hx⟩
 case o3_1_5 => exact fun _ O' _ => ⟨rfl, fun _ _ _ hx hl _ => Zy QN rfl (hl.dep 4 28 _ rfl rfl rfl rfl) hx⟩
 case o3_1_6 => exact fun _ O' hO' => ⟨rfl, fun _ _ _ hx hl _ => XK (Kd := keyS) (f := (fun z' : Hy => AV.agg (hyC z'))) (L := hm) XN Zaa f.label rfl (Ze hx (hO' _ (mo 3 rfl))) (hl.dep 3 27 _ rfl rfl rfl rfl) (hl.dep 5 29 _ rfl rfl rfl rfl) hx⟩
 case o3_1_7 => exact fun _ O' _ => ⟨rfl, fun _ _ _ hx hl _ => Yb rfl (hl.dep 6 30 _ rfl rfl rfl rfl) hx⟩
 case o3_1_8 => exact fun _ O' _ => ⟨rfl, fun _ _ _ hx hl _ => Yr rfl (hl.dep 7 23 _ rfl rfl rfl rfl) rfl hx⟩
 case o3_1_9 => exact fun _ O' _ => ⟨rfl, fun _ _ _ hx hl _ => Yr rfl (hl.dep 7 23 _ rfl rfl rfl rfl) rfl hx⟩
 case o3_1_10 => exact Zk rfl
 case o3_1_11 => exact Zk rfl
 case o3_1_12 => exact fun _ O' _ => ⟨rfl, fun _ _ _ hx hl _ => Xe rfl (hl.dep 9 32 _ rfl rfl rfl rfl) hx⟩
 case e3_1_0 => exact ⟨_, rfl, rfl, rfl, rfl, fun g _ w hk hx _ _ => Zo (Zah Yw hJ rfl hk hx) fun v w' ⟨g', hv, hp⟩ => ⟨g', rfl, fun k' hk' => absurd hk' (Nat.not_lt_zero _), fun _ => hv, hp⟩⟩
 case e3_1_1 => exact ⟨_, rfl, rfl, rfl, rfl, fun g _ w hk hx hl hs => (by obtain ⟨us2, hv2, hr3⟩ := Qn (cs := [.lit (.string (((Zz hm f.label).getD default).label)), .lit (.bool (((Zz hm f.label).getD default).floating)), Zb (((Zz hm f.label).getD default).text)]) (hl.dep 8 31 _ rfl rfl rfl rfl); exact Zo (Y4 (S' := S) (off := 0) (cs := [.lit (.string (⟨#[]⟩ : ByteArray)), .lit (.bool false), Zb ([] : List ByteArray)]) (news := [.lit (.string (((Zz hm f.label).getD default).label)), .lit (.bool (((Zz hm f.label).getD default).floating)), Zb (((Zz hm f.label).getD default).text)]) (es := [.lit (.string (((Zz hm f.label).getD default).label)), .lit (.bool (((Zz hm f.label).getD default).floating)), Zb (((Zz hm f.label).getD default).text)]) (us := us2) hJ hJ0 YM rfl hk hx (ZbD (hs 0 10 _ 7 (by omega) rfl rfl rfl)) (by rw [hv2]; rfl) hr3 (lb rfl) rfl) fun v w' hp => ⟨g, rfl, fun _ _ => rfl, fun e => (by cases e), hp⟩)⟩
 clear a w h
 intro b1
 change ∀ a w, St All (SO S (OB.var b1 [.lit (.string (((Zz hm f.label).getD default).label)), .lit (.bool (((Zz hm f.label).getD default).floating)), Zb (((Zz hm f.label).getD default).text)] :: OB.set keyS M1 cs :: OB.set keyS M2 vs :: OB.set keyS M3 fs :: OB.mH M4 hm :: OB.mT M5 tm :: R)) w0 183 [(2, .rd (Xr bf)), (3, .ptr [.ptr (mpC [M1, M2, M3, M4, M5])]), (4, .ptr (frC f)), (8, .bool ((Zz hm f.label).isSome))] (XO J S w0.heap.size (OB.var b1 [.lit (.string (((Zz hm f.label).getD default).label)), .lit (.bool (((Zz hm f.label).getD default).floating)), Zb (((Zz hm f.label).getD default).text)] :: OB.set keyS M1 cs :: OB.set keyS M2 vs :: OB.set keyS M3 fs :: OB.mH M4 hm :: OB.mT M5 tm :: R)) a w → _
 refine kw ZB ?_
 refine nx (ZO tb hJ [0,1,2,1015] [_,_,_,_,_,.bool (decide (f.label ∈ cs) || decide (f.label ∈ vs)),_,_,_,_,_,_,_,_,.bool (decide (f.label ∈ fs)),_] [5,14] [_,_,_,_] rfl ⟨fun _ _ hk hx hl hc => YS (ZaZ hJ (M1 := M1) (M2 := M2) (M3 := M3) (M4 := M4) (M5 := M5) (cs := cs) (vs := vs) (s := f.label) ) ZeW rfl (Zr hS _ hk hx) (hx.1) (ZG (Ze hx (mo 0 rfl)) (ZG (Ze hx (mo 1 rfl)) Zt)) (Za (hl.dep 2 35 _ rfl rfl rfl hc) (Za (hl.dep 4 37 _ rfl rfl rfl hc) Zd)) (jo hJ hx), fun _ _ _ hx hl hc => Yh (Kd := keyS) (xs := fs) ZJ ZW f.label rfl (Ze hx (mo 2 rfl)) (hl.dep 11 44 _ rfl rfl rfl hc) (hl.dep 13 46 _ rfl rfl rfl hc) hx, trivial⟩ ?_)
 refine cj 3 (fun hb2 => ?_) fun hb2 => ?_
 have e9 : Zde cs vs fs hm tm f bf = 6 := by rw [Zde, if_neg (by rw [hb1]; decide), if_pos hb2]
 refine qso tb hJ [1000] [_] [_] ?_
 exact Zi (fun a w h => ZS  (m := 0) ⟨(fs, hm, tm), by first | (intro h9; rw [e9] at h9; exact absurd h9 (by first | decide | exact nz)) | (intro _; exact ⟨rfl, by rw [f2_2, ZL (by omega)], fun k' => by rw [NOGHOST.2 k', e3]⟩)⟩ rfl h rfl (eI (e9.symm)))
 refine Zf (nx (Zn (ZO tb hJ [0,1,2,1001,1009] [_,_,.int (f.hyps.length : Nat),_,_,_,_,.int (f.dummies.length : Nat),_,_] [2,7] [_,_,_,_,_] rfl ⟨Yz ZF, Yz ZF, trivial⟩ ?_)))
 refine ln 3 fun hl2 => ?_
 refine cj 4 (fun hb3 => ?_) fun hb3 => ?_
 have e9 : Zde cs vs fs hm tm f bf = 4 := by rw [Zde, if_neg (by rw [hb1]; decide), if_neg (by rw [hb2]; decide), if_pos hb3]
 refine qso tb hJ [1000] [_] [_] ?_
 exact Zi (fun a w h => ZS  (m := 0) ⟨(fs, hm, tm), by first | (intro h9; rw [e9] at h9; exact absurd h9 (by first | decide | exact nz)) | (intro _; exact ⟨rfl, by rw [f2_2, ZL (by omega)], fun k' => by rw [NOGHOST.2 k', e3]⟩)⟩ rfl h rfl (eI (e9.symm)))
 have hb3a : f.hyps.length ≤ 40 ∧ f.dummies.length ≤ 40 := by simp at hb3; omega
 refine Zf (nx (tw pm2 ?_))
 refine Zn (fun a w h => YE (γ := Unit) (fun ix' => ([.ptr (mpC [M1, M2, M3, M4, M5]), .ptr (mpC [M1, M2, M3, M4, M5]), .ptr (mpC [M3, M4, M5]), .lit (.map (some M3)), .ptr (frC f), .str f.label, .any] : List AV).getD ix' .any) (fun ix' => ([true, true, true, true, true, true, true] : List Bool).getD ix' true) [(2, fun (g : Unit) => .rd (Xr bf)), (3, fun (g : Unit) => .ptr [.ptr (mpC [M1, M2, M3, M4, M5])]), (4, fun (g : Unit) => .ptr (frC f))] (fun (j' : Nat) (g : Unit) => match j' with | 0 => (OB.set keyS M3 fs :: OB.set keyS M1 cs :: OB.set keyS M2 vs :: OB.mH M4 hm :: OB.mT M5 tm :: R) | _ => (OB.set keyS M3 (Xt fs f.label) :: OB.set keyS M1 cs :: OB.set keyS M2 vs :: OB.mH M4 hm :: OB.mT M5 tm :: R)) (fun (k' : Nat) (g : Unit) => match k' with | 0 => undef | _ => undef) [6] 0 () (fun _ => rfl) h hJ Yd rfl rfl rfl rfl rfl rfl (fun j' g hj p hp => by rcases j' with _ | _ | _ | j' <;> first | exact hp | exact List.mem_cons_of_mem _ hp | exact List.mem_cons_of_mem _ (List.mem_cons_of_mem _ hp) | (exfalso; omega)) ⟨?o8_2_0, ⟨?o8_2_1, ⟨?o8_2_2, ⟨?o8_2_3, ⟨?o8_2_4, ⟨?o8_2_5, ⟨?o8_2_6, trivial⟩⟩⟩⟩⟩⟩⟩ ⟨?e8_2_0, trivial⟩ ⟨.old 0 2 _ rfl rfl, ⟨.old 1 3 _ rfl rfl, ⟨.old 2 4 _ rfl rfl, trivial⟩⟩⟩ ?n8_2)
 case o8_2_0 => exact fun _ O' _ => ⟨rfl, fun _ _ _ hx hl _ => ZbF Zc3 rfl (hl.env 1 3 _ rfl rfl) hx⟩
 case o8_2_1 => exact fun _ O' _ => ⟨rfl, fun _ _ _ hx hl _ => YX rfl (hl.dep 0 59 _ rfl rfl rfl rfl) hx⟩
 case o8_2_2 => exact fun _ O' _ => ⟨rfl, fun _ _ _ hx hl _ => ZR Zhk rfl (hl.dep 1 60 _ rfl rfl rfl rfl) hx⟩
 case o8_2_3 => exact fun _ O' _ => ⟨rfl, fun _ _ _ hx hl _ => Zy Zk0 rfl (hl.dep 2 61 _ rfl rfl rfl rfl) hx⟩
 case o8_2_4 => exact fun _ O' _ => ⟨rfl, fun _ _ _ hx hl _ => ZR Zcf rfl (hl.env 2 4 _ rfl rfl) hx⟩
 case o8_2_5 => exact fun _ O' _ => ⟨rfl, fun _ _ _ hx hl _ => Zy QN rfl (hl.dep 4 63 _ rfl rfl rfl rfl) hx⟩
 case o8_2_6 => exact Zk rfl
 case e8_2_0 => exact ⟨_, rfl, rfl, rfl, rfl, fun g _ w hk hx hl _ => Zo (d_putS ZJ hJ hJ0 f.label (.inl rfl) hk hx (hl.dep 3 62 _ rfl rfl rfl rfl) (hl.dep 5 64 _ rfl rfl rfl rfl) (Rel.of_lit (Go.Value.bool true))) fun v w' ⟨_, hp⟩ => ⟨g, rfl, fun _ _ => rfl, fun e => (by cases e), hp⟩⟩
 clear a w h
 intro _
 change ∀ a w, St All (SO S (OB.set keyS M3 (Xt fs f.label) :: OB.set keyS M1 cs :: OB.set keyS M2 vs :: OB.mH M4 hm :: OB.mT M5 tm :: R)) w0 183 [(2, .rd (Xr bf)), (3, .ptr [.ptr (mpC [M1, M2, M3, M4, M5])]), (4, .ptr (frC f))] (XO J S w0.heap.size (OB.set keyS M3 (Xt fs f.label) :: OB.set keyS M1 cs :: OB.set keyS M2 vs :: OB.mH M4 hm :: OB.mT M5 tm :: R)) a w → _
 refine nx (tsq ?_)
 refine Zaz keyS hJ rfl rfl rfl (lb rfl) fun m2 => ?_
 refine Zfn keyS (fun z' : ByteArray => AV.str z') hJ rfl rfl rfl (lb rfl) fun m3 => ?_
 refine sq (.agg [.lit (.map (some m2)), .lit (.map (some m3))]) rfl rfl (lb rfl) (fun a _ h => XX (us := [a.eval (Go.Operand.tmp 65), a.eval (Go.Operand.tmp 66)]) Zht rfl (by simp) (Zj (h.get 1 rfl) (Zj (h.get 0 rfl) ZI)) rfl h.x) ?_
 refine ZX ZgJ hJ rfl rfl rfl (lb rfl) fun b4 => ?_
 refine ZD (b := b4) (off := 0) (cs := [.lit (.map none), .lit (.map none)]) (es := [.lit (.map (some m2)), .lit (.map (some m3))]) (news := [.lit (.map (some m2)), .lit (.map (some m3))]) hJ hJ0 Zi1 rfl rfl rfl (lb rfl) rfl (fun a w h => ⟨(h.get 0 rfl), (h.get 1 rfl)⟩) ?_
 refine kw (fun h => Yj hS h (m := 0) (s := 9) rfl) ?_
 refine seK [0,4,5,6] [_,_,_,_] rfl ?_
 refine nx (Zn (Zn (Y6 tb hJ [0,1,2,3,1003,1004,1005,1006,1007] [_,_,_,_,.rd (Zq0 ([f.hyps, f.dummies] : List (List Hy))),.rd (Xr (([f.hyps, f.dummies] : List (List Hy)).flatten)),.int ((([f.hyps, f.dummies] : List (List Hy)).flatten).length : Nat),_] [4,5,6] [_,_,_,_,_,_,_,_,_] rfl ⟨fun a _ hk hx hl _ => Y0 (k := 2) (us := [a.eval (Go.Operand.tmp 69), a.eval (Go.Operand.tmp 71)]) Qe ZdX rfl (by simp) (Zj (hl.dep 1 69 _ rfl rfl rfl rfl) (Zj (hl.dep 3 71 _ rfl rfl rfl rfl) ZI)) rfl (by decide) (by decide) (Zr hS _ hk hx _ (Nat.le_refl _)) (jo hJ hx), iFo hS hJ (ZfP hJ (ls := ([f.hyps, f.dummies] : List (List Hy))) (by refine ZgO ?_; simp; omega)) Zl1, Yz ZF, trivial⟩ ?_)))
 refine kw (sa 6 rfl (congrArg (fun z' => AV.rd (Xr z')) (show (([f.hyps, f.dummies] : List (List Hy)).flatten) = (alH f) from by simp))) ?_
 refine kw (sa 7 rfl (congrArg AV.int (show (((([f.hyps, f.dummies] : List (List Hy)).flatten).length : Nat) : Int) = (((alH f).length : Nat) : Int) from by simp))) ?_
 refine nx (ln 4 fun hl3 => ?_)
 refine ln 5 fun hl4 => ?_
 refine ln 6 fun hl5 => ?_
 refine Zh (lpo (ι := Nat × (List ByteArray) × (List (ByteArray × ByteArray))) (fun (k, ls, ts) => (k ≤ (alH f).length) ∧ (ls = lsK ((alH f).take k)) ∧ (ts = tsK ((alH f).take k)) ∧ (∀ j, j < k → hyK cs vs fs hm tm f j = 0)) (fun (_, ls, ts) => (OB.mT m3 ts :: OB.set keyS m2 ls :: OB.set keyS M3 (Xt fs f.label) :: OB.set keyS M1 cs :: OB.set keyS M2 vs :: OB.mH M4 hm :: OB.mT M5 tm :: R)) (fun (k, _, _) => [(75, .int (k : Nat))]) (fun (k, _, _) => (alH f).length - k) [0,1,2,3,6,7,8] [_,_,_,_,_,_] (0, ([] : List ByteArray), ([] : List (ByteArray × ByteArray))) ⟨Nat.zero_le _, rfl, rfl, fun j hj => by omega⟩ ?_)
 rintro ⟨k, ls, ts⟩ ⟨f1_1, f1_2, f1_3, f1_4⟩
 refine qso tb hJ [0,1,2,3,4,5,6,1000] [_] [_,_,_,_,_,_,_,_] ?_
 refine cjS 7 (fun hb4 => ?_) fun hb4 => ?_
 have hk4 : k < (alH f).length := Int.ofNat_lt.1 (of_decide_eq_true hb4)
 refine Zf (nx (Zn (Zh (tsq ?_))))
 refine snK 1 tb rfl ?_
 refine sq (.ptr (hyC (ge (alH f) k))) rfl rfl (lb rfl) (fun _ _ h => Yg (i := (k : Int)) ZH rfl (h.get 5 rfl) (h.get 7 rfl) (Int.natCast_nonneg _) (Yt (xs := alH f) (k := k) (by first | omega | (simp; omega) | grind [Zc])) rfl h.x) ?_
 refine snK 1 tb rfl ?_
 refine ZX Yw hJ rfl rfl rfl (lb rfl) fun b5 => ?_
 refine snK 1 tb rfl ?_
 refine ZD (b := b5) (off := 0) (cs := [.lit (.string (⟨#[]⟩ : ByteArray)), .lit (.bool false), Zb ([] : List ByteArray)]) (es := [.lit (.string ((ge (alH f) k).label)), .lit (.bool ((ge (alH f) k).floating)), Zb ((ge (alH f) k).text)]) (news := [.lit (.string ((ge (alH f) k).label)), .lit (.bool ((ge (alH f) k).floating)), Zb ((ge (alH f) k).text)]) hJ hJ0 YM rfl rfl rfl (lb rfl) rfl (fun a w h => ⟨(h.get 1 rfl), (h.get 2 rfl)⟩) ?_
 refine kw (fun h => Yj hS h (m := 1) (s := 11) rfl) ?_
 refine seK [0,1,5,6,7,8,9,10,11] [_,_,_,_,_,_,_,_,_] rfl ?_
 refine nx (Zn (ZO tb hJ [0,2,3,4,5,6,7,8,1009] [_,_,_,_,_,_,.int (f.hyps.length : Nat),_,.int (ZeK cs vs (Xt fs f.label) hm tm ls ts (ge (alH f) k) (decide ((f.hyps.length : Int) ≤ (k : Int)))),_] [6,8] [_,_,_,_,_,_,_,_,_] rfl ⟨Yz ZF, fun _ _ hk hx hl _ => YS (p_hyp hJ (M1 := M1) (M2 := M2) (M3 := M3) (M4 := M4) (M5 := M5) (L1 := m2) (T1 := m3) (cs := cs) (vs := vs) (fs := (Xt fs f.label)) (hm := hm) (tm := tm) (ls := ls) (ts := ts) (y := (ge (alH f) k)) (dm := (decide ((f.hyps.length : Int) ≤ (k : Int)))) ) Zrp rfl (Zr hS _ hk hx) (hx.1) (ZG (Ze hx (mo 3 rfl)) (ZG (Ze hx (mo 4 rfl)) (ZG (Ze hx (mo 2 rfl)) (ZG (Ze hx (mo 5 rfl)) (ZG (Ze hx (mo 6 rfl)) (ZG (Ze hx (mo 1 rfl)) (ZG (Ze hx (mo 0 rfl)) Zt))))))) (Za (hl.dep 0 80 _ rfl rfl rfl rfl) (Za (hl.dep 1 81 _ rfl rfl rfl rfl) (Za (hl.dep 2 82 _ rfl rfl rfl rfl) (Za (hl.dep 7 87 _ rfl rfl rfl rfl) Zd)))) (jo hJ hx), trivial⟩ ?_))
 refine qso tb hJ [0,1,2,3,4,5,6,7,8,1001] [_,_] [_,_,_,_,_,_,_,_,_,_] ?_
 refine cj 9 (fun hb5 => ?_) fun hb5 => ?_
 have nz := ZqM hb5
 have e0 : hyK cs vs fs hm tm f k = ZeK cs vs (Xt fs f.label) hm tm ls ts (ge (alH f) k) (decide ((f.hyps.length : Int) ≤ (k : Int))) := by rw [hyK, ← f1_2, ← f1_3]
 have e5 : Xi (alH f).length (hyK cs vs fs hm tm f) = hyK cs vs fs hm tm f k := Qm (by omega) f1_4 (by rw [e0]; exact nz)
 have e9 : Zde cs vs fs hm tm f bf = ZeK cs vs (Xt fs f.label) hm tm ls ts (ge (alH f) k) (decide ((f.hyps.length : Int) ≤ (k : Int))) := by rw [Zde, if_neg (by rw [hb1]; decide), if_neg (by rw [hb2]; decide), if_neg (by rw [hb3]; decide), if_pos (by rw [e5, e0]; exact hb5), e5, e0]
 refine qso tb hJ [1001] [_,_] [_] ?_
 refine tw ZB ?_
 refine tw ZB ?_
 refine tw pm4 ?_
 refine tw pm4 ?_
 refine tw pm2 ?_
 refine tw pm4 ?_
 refine tw pm4 ?_
 exact Zi (fun a w h => ZS  (m := 0) ⟨((Xt fs f.label), hm, tm), by first | (intro h9; rw [e9] at h9; exact absurd h9 (by first | decide | exact nz)) | (intro _; exact ⟨rfl, by rw [f2_2, ZL (by omega)], fun k' => by rw [NOGHOST.2 k', e3]⟩)⟩ rfl h rfl (eI (e9.symm)))
 have q5 := ZqN hb5
 have hf5 := Zf6 q5
 refine Zf (nx (tsq ?_))
 refine snK 4 tb rfl ?_
 refine kw pm1 ?_
 refine Zbh ZJ hJ hJ0 ((ge (alH f) k).label) rfl rfl (.inl rfl) (fun a w h => ⟨(h.get 2 rfl), (h.get 0 rfl), (Rel.of_lit (Go.Value.bool true))⟩) ?_
 refine seK [4,5,6,7,8,9,10,11] [_,_,_,_,_,_,_,_] rfl ?_
 refine nx (qso tb hJ [0,1,2,3,4,5,6,7,1001] [_,_] [_,_,_,_,_,_,_,_,_] ?_)
 refine cj 8 (fun hb6 => ?_) fun hb6 => ?_
 try simp at hb6
 refine tw pm1 ?_
 refine fun a w h => YE (γ := Unit) (fun ix' => ([.ptr [.lit (.map (some m3))], .lit (.map (some m3)), .ptr [Zb ((ge (alH f) k).text)], .rd (Zb ((ge (alH f) k).text)), .ptr [.lit (.string (ge ((ge (alH f) k).text) 1))], .str (ge ((ge (alH f) k).text) 1), .ptr [Zb ((ge (alH f) k).text)], .rd (Zb ((ge (alH f) k).text)), .ptr [.lit (.string (ge ((ge (alH f) k).text) 0))], .str (ge ((ge (alH f) k).text) 0), .any] : List AV).getD ix' .any) (fun ix' => ([true, true, true, true, true, true, true, true, true, true, true] : List Bool).getD ix' true) [(9, fun (g : Unit) => .ptr (mpC [m2, m3])), (2, fun (g : Unit) => .rd (Xr bf)), (3, fun (g : Unit) => .ptr [.ptr (mpC [M1, M2, M3, M4, M5])]), (4, fun (g : Unit) => .ptr (frC f)), (73, fun (g : Unit) => .rd (Xr (alH f))), (74, fun (g : Unit) => .int ((alH f).length : Nat)), (75, fun (g : Unit) => .int (k : Nat))] (fun (j' : Nat) (g : Unit) => match j' with | 0 => (OB.mT m3 ts :: OB.set keyS m2 (Xt ls ((ge (alH f) k).label)) :: OB.set keyS M3 (Xt fs f.label) :: OB.set keyS M1 cs :: OB.set keyS M2 vs :: OB.mH M4 hm :: OB.mT M5 tm :: R) | _ => (OB.mT m3 (Qq ts (ge ((ge (alH f) k).text) 1) (ge ((ge (alH f) k).text) 0)) :: OB.set keyS m2 (Xt ls ((ge (alH f) k).label)) :: OB.set keyS M3 (Xt fs f.label) :: OB.set keyS M1 cs :: OB.set keyS M2 vs :: OB.mH M4 hm :: OB.mT M5 tm :: R)) (fun (k' : Nat) (g : Unit) => match k' with | 0 => undef | _ => undef) [10] 0 () (fun _ => rfl) h hJ Yd rfl rfl rfl rfl rfl rfl (fun j' g hj p hp => by rcases j' with _ | _ | _ | j' <;> first | exact hp | exact List.mem_cons_of_mem _ hp | exact List.mem_cons_of_mem _ (List.mem_cons_of_mem _ hp) | (exfalso; omega)) ⟨?o18_3_0, ⟨?o18_3_1, ⟨?o18_3_2, ⟨?o18_3_3, ⟨?o18_3_4, ⟨?o18_3_5, ⟨?o18_3_6, ⟨?o18_3_7, ⟨?o18_3_8, ⟨?o18_3_9, ⟨?o18_3_10, trivial⟩⟩⟩⟩⟩⟩⟩⟩⟩⟩⟩ ⟨?e18_3_0, trivial⟩ ⟨.old 1 9 _ rfl rfl, ⟨.old 2 2 _ rfl rfl, ⟨.old 3 3 _ rfl rfl, ⟨.old 4 4 _ rfl rfl, ⟨.old 5 73 _ rfl rfl, ⟨.old 6 74 _ rfl rfl, ⟨.old 7 75 _ rfl rfl, trivial⟩⟩⟩⟩⟩⟩⟩ ?n18_3
 case o18_3_0 => exact fun _ O' _ => ⟨rfl, fun _ _ _ hx hl _ => ZR Zdi rfl (hl.env 1 9 _ rfl rfl) hx⟩
 case o18_3_1 => exact fun _ O' _ => ⟨rfl, fun _ _ _ hx hl _ => Zy Zg2 rfl (hl.dep 0 98 _ rfl rfl rfl rfl) hx⟩
 case o18_3_2 => exact fun _ O' _ => ⟨rfl, fun _ _ _ hx hl _ => ZR Q1 rfl (hl.env 0 11 _ rfl rfl) hx⟩
 case o18_3_3 => exact fun _ O' _ => ⟨rfl, fun _ _ _ hx hl _ => Zy XT rfl (hl.dep 2 100 _ rfl rfl rfl rfl) hx⟩
 case o18_3_4 => exact fun _ O' _ => ⟨rfl, fun _ _ _ hx hl _ => Yg (i := ((1 : Nat) : Int)) Zm rfl (hl.dep 3 101 _ rfl rfl rfl rfl) (Rel.of_lit (Go.Value.int Go.IntKind.i64 1)) (Int.natCast_nonneg _) (Yt (xs := (ge (alH f) k).text) (k := 1) (by have := Ys hf5 hb6; omega)) rfl hx⟩
 case o18_3_5 => exact fun _ O' _ => ⟨rfl, fun _ _ _ hx hl _ => Zy QN rfl (hl.dep 4 102 _ rfl rfl rfl rfl) hx⟩
 case o18_3_6 => exact fun _ O' _ => ⟨rfl, fun _ _ _ hx hl _ => ZR Q1 rfl (hl.env 0 11 _ rfl rfl) hx⟩
 case o18_3_7 => exact fun _ O' _ => ⟨rfl, fun _ _ _ hx hl _ => Zy XT rfl (hl.dep 6 104 _ rfl rfl rfl rfl) hx⟩
 case o18_3_8 => exact fun _ O' _ => ⟨rfl, fun _ _ _ hx hl _ => Yg (i := ((0 : Nat) : Int)) Zm rfl (hl.dep 7 105 _ rfl rfl rfl rfl) (Rel.of_lit (Go.Value.int Go.IntKind.i64 0)) (Int.natCast_nonneg _) (Yt (xs := (ge (alH f) k).text) (k := 0) (by have := Ys hf5 hb6; omega)) rfl hx⟩
 case o18_3_9 => exact fun _ O' _ => ⟨rfl, fun _ _ _ hx hl _ => Zy QN rfl (hl.dep 8 106 _ rfl rfl rfl rfl) hx⟩
 case o18_3_10 => exact Zk rfl
 case e18_3_0 => exact ⟨_, rfl, rfl, rfl, rfl, fun g _ w hk hx hl _ => Zo (ZlJ (f := (fun z' : ByteArray => AV.str z')) QE hJ hJ0 (ge ((ge (alH f) k).text) 1) (ge ((ge (alH f) k).text) 0) (.inl rfl) hk hx (hl.dep 1 99 _ rfl rfl rfl rfl) (hl.dep 5 103 _ rfl rfl rfl rfl) (hl.dep 9 107 _ rfl rfl rfl rfl)) fun v w' ⟨_, hp⟩ => ⟨g, rfl, fun _ _ => rfl, fun e => (by cases e), hp⟩⟩
 clear a w h
 intro _
 change ∀ a w, St All (SO S (OB.mT m3 (Qq ts (ge ((ge (alH f) k).text) 1) (ge ((ge (alH f) k).text) 0)) :: OB.set keyS m2 (Xt ls ((ge (alH f) k).label)) :: OB.set keyS M3 (Xt fs f.label) :: OB.set keyS M1 cs :: OB.set keyS M2 vs :: OB.mH M4 hm :: OB.mT M5 tm :: R)) w0 183 [(9, .ptr (mpC [m2, m3])), (2, .rd (Xr bf)), (3, .ptr [.ptr (mpC [M1, M2, M3, M4, M5])]), (4, .ptr (frC f)), (73, .rd (Xr (alH f))), (74, .int ((alH f).length : Nat)), (75, .int (k : Nat))] (XO J S w0.heap.size (OB.mT m3 (Qq ts (ge ((ge (alH f) k).text) 1) (ge ((ge (alH f) k).text) 0)) :: OB.set keyS m2 (Xt ls ((ge (alH f) k).label)) :: OB.set keyS M3 (Xt fs f.label) :: OB.set keyS M1 cs :: OB.set keyS M2 vs :: OB.mH M4 hm :: OB.mT M5 tm :: R)) a w → _
 refine nx (Y6 tb hJ [0,1,2,3,4,5,1001] [.int (k + 1 : Nat),_] [0] [_,_,_,_,_,_,_] rfl ⟨YK, trivial⟩ ?_)
 exact XR (k + 1, Xt ls ((ge (alH f) k).label), Qq ts (ge ((ge (alH f) k).text) 1) (ge ((ge (alH f) k).text) 0)) [0,1,2,3,4,5,6] ⟨by omega, by rw [ZU (by omega), ZeI, ← f1_2], by rw [ZU (by omega), Zbv, ← f1_3, if_pos hb6], Z4 f1_4 (by rw [hyK, ← f1_2, ← f1_3]; exact q5)⟩
 try simp at hb6
 refine Zf (nx (Y6 tb hJ [1,2,3,4,5,6,1001] [.int (k + 1 : Nat),_] [0] [_,_,_,_,_,_,_] rfl ⟨YK, trivial⟩ ?_))
 refine kw pm6 ?_
 refine kw pm6 ?_
 refine kw pm6 ?_
 refine kw pm6 ?_
 refine kw pm6 ?_
 refine kw pm5 ?_
 refine kw pm6 ?_
 exact XR (k + 1, Xt ls ((ge (alH f) k).label), ts) [0,1,2,3,4,5,6] ⟨by omega, by rw [ZU (by omega), ZeI, ← f1_2], by rw [ZU (by omega), Zbv, ← f1_3, if_neg (by simp [hb6])], Z4 f1_4 (by rw [hyK, ← f1_2, ← f1_3]; exact q5)⟩
 have hk4 : (alH f).length ≤ k := by have := of_decide_eq_false hb4; omega
 have e4 : Xi (alH f).length (hyK cs vs fs hm tm f) = 0 := Q4 fun j hj => f1_4 j (by omega)
 have e3 : ts = tsK (alH f) := by rw [f1_3, ZL (by omega)]
 have hfm : ∀ y ∈ alH f, ∃ dm, QO y dm = false := fun y hy => by obtain ⟨j, hj, rfl⟩ := XC hy; exact ⟨_, Zf6 (f1_4 j (by omega))⟩
 have h2t : ∀ y ∈ alH f, y.floating = true → y.text.length = 2 := fun y hy hf => by obtain ⟨dm, hd⟩ := hfm y hy; exact Ys hd hf
 refine ZC (nx (Zn (ZO tb hJ [0,1,2,3,1002,1004] [_,_,_,.int (ZiU cs vs f.text),_] [3] [_,_,_,_,_,_] rfl ⟨fun _ _ hk hx hl _ => YS (Zpf hJ (M1 := M1) (M2 := M2) (M3 := M3) (M4 := M4) (M5 := M5) (cs := cs) (vs := vs) (l := f.text) ) Zl0 rfl (Zr hS _ hk hx) (hx.1) (ZG (Ze hx (mo 3 rfl)) (ZG (Ze hx (mo 4 rfl)) Zt)) (Za (hl.dep 0 109 _ rfl rfl rfl rfl) (Za (hl.dep 2 111 _ rfl rfl rfl rfl) Zd)) (jo hJ hx), trivial⟩ ?_)))
 refine ln 4 fun hl6 => ?_
 refine qso tb hJ [0,1,2,3,5,1001] [_,_] [_,_,_,_,_,_] ?_
 refine cj 5 (fun hb7 => ?_) fun hb7 => ?_
 have nz := ZqM hb7
 have e9 : Zde cs vs fs hm tm f bf = ZiU cs vs f.text := by rw [Zde, if_neg (by rw [hb1]; decide), if_neg (by rw [hb2]; decide), if_neg (by rw [hb3]; decide), if_neg (by rw [e4]; decide), if_pos hb7]
 refine qso tb hJ [1001] [_,_] [_] ?_
 refine tw ZB ?_
 refine tw ZB ?_
 refine tw pm4 ?_
 refine tw pm4 ?_
 refine tw pm2 ?_
 refine tw pm4 ?_
 refine tw pm4 ?_
 exact Zi (fun a w h => ZS  (m := 0) ⟨((Xt fs f.label), hm, tm), by first | (intro h9; rw [e9] at h9; exact absurd h9 (by first | decide | exact nz)) | (intro _; exact ⟨rfl, by rw [f2_2, ZL (by omega)], fun k' => by rw [NOGHOST.2 k', e3]⟩)⟩ rfl h rfl (eI (e9.symm)))
 refine Zf (nx (Zn (ZO tb hJ [0,1,2,3,1003] [_,_,.int (ZdJ vs f),_] [2] [_,_,_,_,_] rfl ⟨fun _ _ hk hx hl _ => YS (p_sets hJ (M1 := M1) (M2 := M2) (M3 := M3) (M4 := M4) (M5 := M5) (vs := vs) (f := f) (hb3a.1) (hw) (fun x hx => h2t x (List.mem_append_left _ hx))) Zro rfl (Zr hS _ hk hx) (hx.1) (ZG (Ze hx (mo 4 rfl)) Zt) (Za (hl.dep 0 116 _ rfl rfl rfl rfl) (Za (hl.dep 1 117 _ rfl rfl rfl rfl) Zd)) (jo hJ hx), trivial⟩ ?_)))
 refine qso tb hJ [0,1,2,3,4,1001] [_,_] [_,_,_,_,_,_] ?_
 refine cj 5 (fun hb8 => ?_) fun hb8 => ?_
 have nz := ZqM hb8
 have e9 : Zde cs vs fs hm tm f bf = ZdJ vs f := by rw [Zde, if_neg (by rw [hb1]; decide), if_neg (by rw [hb2]; decide), if_neg (by rw [hb3]; decide), if_neg (by rw [e4]; decide), if_neg (by rw [hb7]; decide), if_pos hb8]
 refine qso tb hJ [1001] [_,_] [_] ?_
 refine tw ZB ?_
 refine tw ZB ?_
 refine tw pm4 ?_
 refine tw pm4 ?_
 refine tw pm2 ?_
 refine tw pm4 ?_
 refine tw pm4 ?_
 exact Zi (fun a w h => ZS  (m := 0) ⟨((Xt fs f.label), hm, tm), by first | (intro h9; rw [e9] at h9; exact absurd h9 (by first | decide | exact nz)) | (intro _; exact ⟨rfl, by rw [f2_2, ZL (by omega)], fun k' => by rw [NOGHOST.2 k', e3]⟩)⟩ rfl h rfl (eI (e9.symm)))
 refine Zf (nx (Zn (ZO tb hJ [0,1,2,3,1001,1019] [_,_,.int (f.proof.length : Nat),_,_,_,_,_,_,_,_,.int (f.proof.length : Nat),_,_,_,_,_,.bool (f.proof.any (fun s => !XL s)),_,_] [2,11,17] [_,_,_,_,_,_] rfl ⟨Yz Zw, Yz Zw, fun _ _ hk hx hl hc => YS (Yl hJ (xs := f.proof) (f := 100) (caps := []) (Os := []) (p := (fun s => !XL s)) (fun q' => (Znf hJ q' hG).r) (ZoL)) ZaR rfl (Zr hS _ hk hx) (hx.1) Zt (Za (hl.dep 16 138 _ rfl rfl rfl hc) (Za (Qc 100) Zd)) (jo hJ hx), trivial⟩ ?_)))
 refine ln 4 fun hl7 => ?_
 refine cj 5 (fun hb9 => ?_) fun hb9 => ?_
 have e9 : Zde cs vs fs hm tm f bf = 2 := by rw [Zde, if_neg (by rw [hb1]; decide), if_neg (by rw [hb2]; decide), if_neg (by rw [hb3]; decide), if_neg (by rw [e4]; decide), if_neg (by rw [hb7]; decide), if_neg (by rw [hb8]; decide), if_pos (show ZrX f = true from hb9)]
 refine qso tb hJ [1000] [_] [_] ?_
 refine tw ZB ?_
 refine tw ZB ?_
 refine tw pm4 ?_
 refine tw pm4 ?_
 refine tw pm2 ?_
 refine tw pm4 ?_
 refine tw pm4 ?_
 exact Zi (fun a w h => ZS  (m := 0) ⟨((Xt fs f.label), hm, tm), by first | (intro h9; rw [e9] at h9; exact absurd h9 (by first | decide | exact nz)) | (intro _; exact ⟨rfl, by rw [f2_2, ZL (by omega)], fun k' => by rw [NOGHOST.2 k', e3]⟩)⟩ rfl h rfl (eI (e9.symm)))
 refine Zf (nx (ZO tb hJ [0,1,2,3,1001,1002] [_,.rd (Xr (X8 f.hyps)),_] [1] [_,_,_,_,_,_] rfl ⟨iFo hS hJ (Zck hJ (f := f) (by refine ZgO ?_; omega)) Zl5, trivial⟩ ?_))
 refine ln 4 fun hl8 => ?_
 refine ZO tb hJ [0,2,3,1008,1009] [_,_,_,.int (ZeS (bf.map Hy.label) ((X8 f.hyps).map Hy.label) : Nat),_,.int ((X8 f.hyps).length : Nat),_,.int ((X8 f.hyps).length : Nat),.rd (Xr ((X8 f.hyps).drop (ZeS (bf.map Hy.label) ((X8 f.hyps).map Hy.label)))),_] [3,5,7,8] [_,_,_,_,_] rfl ⟨iFo hS hJ (Znh hJ (xs := bf) (ys := (X8 f.hyps)) ) ZoJ, Yz ZF, Yz ZF, fun _ _ _ hx hl _ => ZmX (ys := (X8 f.hyps).drop (ZeS (bf.map Hy.label) ((X8 f.hyps).map Hy.label))) (lo := ZeS (bf.map Hy.label) ((X8 f.hyps).map Hy.label)) rfl ZH (fun _ => rfl) rfl (hl.dep 0 144 _ rfl rfl rfl rfl) (hl.dep 3 147 _ rfl rfl rfl rfl) (hl.dep 5 149 _ rfl rfl rfl rfl) (hl.dep 7 151 _ rfl rfl rfl rfl) (by have := ZlN (bf.map Hy.label) ((X8 f.hyps).map Hy.label); simpa using this) hx, trivial⟩ ?_
 refine ln 3 fun hl9 => ?_
 refine Zn (ZO tb hJ [0,1,2,1002] [_,.fn 103 [.ptr [.ptr (mpC [M1, M2, M3, M4, M5])]],.bool (((X8 f.hyps).drop (ZeS (bf.map Hy.label) ((X8 f.hyps).map Hy.label))).any (fun y => (Zz hm y.label).isSome))] [1,2] [_,_,_,_] rfl ⟨fun _ _ _ hx hl _ => Xd (caps := [(Go.Operand.tmp 3)]) rfl (Za (hl.env 1 3 _ rfl rfl) Zd) hx, fun _ _ hk hx hl _ => YS (XM hJ (xs := ((X8 f.hyps).drop (ZeS (bf.map Hy.label) ((X8 f.hyps).map Hy.label)))) (f := 103) (caps := [.ptr [.ptr (mpC [M1, M2, M3, M4, M5])]]) (Os := [OB.mH M4 hm]) (p := (fun y => (Zz hm y.label).isSome)) (fun q' => Zne hJ M1 M2 M3 M4 M5 hm q') (ZoI)) ZeX rfl (Zr hS _ hk hx) (hx.1) (ZG (Ze hx (mo 5 rfl)) Zt) (Za (hl.dep 0 153 _ rfl rfl rfl rfl) (Za (hl.dep 1 154 _ rfl rfl rfl rfl) Zd)) (jo hJ hx), trivial⟩ ?_)
 refine cj 3 (fun hb10 => ?_) fun hb10 => ?_
 have e9 : Zde cs vs fs hm tm f bf = 7 := by rw [Zde, if_neg (by rw [hb1]; decide), if_neg (by rw [hb2]; decide), if_neg (by rw [hb3]; decide), if_neg (by rw [e4]; decide), if_neg (by rw [hb7]; decide), if_neg (by rw [hb8]; decide), if_neg (by rw [show ZrX f = _ from hb9]; decide), if_pos hb10]
 refine qso tb hJ [1000] [_] [_] ?_
 refine tw ZB ?_
 refine tw ZB ?_
 refine tw pm4 ?_
 refine tw pm4 ?_
 refine tw pm2 ?_
 refine tw pm4 ?_
 refine tw pm4 ?_
 exact Zi (fun a w h => ZS  (m := 0) ⟨((Xt fs f.label), hm, tm), by first | (intro h9; rw [e9] at h9; exact absurd h9 (by first | decide | exact nz)) | (intro _; exact ⟨rfl, by rw [f2_2, ZL (by omega)], fun k' => by rw [NOGHOST.2 k', e3]⟩)⟩ rfl h rfl (eI (e9.symm)))
 have e9 : Zde cs vs fs hm tm f bf = 0 := by rw [Zde, if_neg (by rw [hb1]; decide), if_neg (by rw [hb2]; decide), if_neg (by rw [hb3]; decide), if_neg (by rw [e4]; decide), if_neg (by rw [hb7]; decide), if_neg (by rw [hb8]; decide), if_neg (by rw [show ZrX f = _ from hb9]; decide), if_neg (by rw [hb10]; decide)]
 refine Zf (nx (Zn (Zn (Y6 tb hJ [0,1,1005,1006,1007] [_,_,_,_,.rd (Zq0 ([f.hyps, f.dummies] : List (List Hy))),.rd (Xr (([f.hyps, f.dummies] : List (List Hy)).flatten)),.int ((([f.hyps, f.dummies] : List (List Hy)).flatten).length : Nat),_] [4,5,6] [_,_,_,_,_] rfl ⟨fun a _ hk hx hl _ => Y0 (k := 2) (us := [a.eval (Go.Operand.tmp 157), a.eval (Go.Operand.tmp 159)]) Qe ZdX rfl (by simp) (Zj (hl.dep 1 157 _ rfl rfl rfl rfl) (Zj (hl.dep 3 159 _ rfl rfl rfl rfl) ZI)) rfl (by decide) (by decide) (Zr hS _ hk hx _ (Nat.le_refl _)) (jo hJ hx), iFo hS hJ (ZfP hJ (ls := ([f.hyps, f.dummies] : List (List Hy))) (by refine ZgO ?_; simp; omega)) Zl1, Yz ZF, trivial⟩ ?_))))
 refine kw (sa 2 rfl (congrArg (fun z' => AV.rd (Xr z')) (show (([f.hyps, f.dummies] : List (List Hy)).flatten) = (alH f) from by simp))) ?_
 refine kw (sa 3 rfl (congrArg AV.int (show (((([f.hyps, f.dummies] : List (List Hy)).flatten).length : Nat) : Int) = (((alH f).length : Nat) : Int) from by simp))) ?_
 refine nx (Zh (lpo (ι := Nat × (List (ByteArray × Hy))) (fun (k, hn) => (k ≤ (alH f).length) ∧ (hn = hmK hm ((alH f).take k))) (fun (_, hn) => (OB.mT m3 ts :: OB.set keyS m2 ls :: OB.set keyS M3 (Xt fs f.label) :: OB.set keyS M1 cs :: OB.set keyS M2 vs :: OB.mH M4 hn :: OB.mT M5 tm :: R)) (fun (k, _) => [(163, .int (k : Nat))]) (fun (k, _) => (alH f).length - k) [0,1,2,3,4] [_,_,_,_] (0, hm) ⟨Nat.zero_le _, rfl⟩ ?_))
 rintro ⟨k, hn⟩ ⟨f2_1, f2_2⟩
 refine qso tb hJ [0,1,2,3,4,1000] [_] [_,_,_,_,_,_] ?_
 refine cjS 5 (fun hb11 => ?_) fun hb11 => ?_
 have hk4 : k < (alH f).length := Int.ofNat_lt.1 (of_decide_eq_true hb11)
 refine Zf (nx (Zn (Zh (tsq ?_))))
 refine sq (.ptr (hyC (ge (alH f) k))) rfl rfl (lb rfl) (fun _ _ h => Yg (i := (k : Int)) ZH rfl (h.get 2 rfl) (h.get 4 rfl) (Int.natCast_nonneg _) (Yt (xs := alH f) (k := k) (by first | omega | (simp; omega) | grind [Zc])) rfl h.x) ?_
 refine snK 1 tb rfl ?_
 refine Qa (cs := hyC (ge (alH f) k)) ZaT rfl rfl rfl (lb rfl) rfl rfl rfl (by decide) (m := 0) rfl rfl (fun a w h => Zr hS _ h.keep h.x _ (Nat.le_refl _)) (fun a w h w' hk' => Yp hJ _ _ hk' h.x) ?_
 refine seK [0,3,4,5,6,7] [_,_,_,_,_,_] rfl ?_
 refine nx (tw pm5 ?_)
 refine fun a w h => YE (γ := Unit) (fun ix' => ([.ptr (mpC [M1, M2, M3, M4, M5]), .ptr (mpC [M1, M2, M3, M4, M5]), .ptr (mpC [M4, M5]), .lit (.map (some M4)), .ptr (hyC (ge (alH f) k)), .str ((ge (alH f) k).label), .agg (hyC (ge (alH f) k)), .agg (hyC (ge (alH f) k)), .any] : List AV).getD ix' .any) (fun ix' => ([true, true, true, true, true, true, true, true, true] : List Bool).getD ix' true) [(9, fun (g : Unit) => .ptr (mpC [m2, m3])), (3, fun (g : Unit) => .ptr [.ptr (mpC [M1, M2, M3, M4, M5])]), (161, fun (g : Unit) => .rd (Xr (alH f))), (162, fun (g : Unit) => .int ((alH f).length : Nat)), (163, fun (g : Unit) => .int (k : Nat))] (fun (j' : Nat) (g : Unit) => match j' with | 0 => (OB.mH M4 hn :: OB.mT m3 ts :: OB.set keyS m2 ls :: OB.set keyS M3 (Xt fs f.label) :: OB.set keyS M1 cs :: OB.set keyS M2 vs :: OB.mT M5 tm :: R) | _ => (OB.mH M4 (Qq hn ((ge (alH f) k).label) (ge (alH f) k)) :: OB.mT m3 ts :: OB.set keyS m2 ls :: OB.set keyS M3 (Xt fs f.label) :: OB.set keyS M1 cs :: OB.set keyS M2 vs :: OB.mT M5 tm :: R)) (fun (k' : Nat) (g : Unit) => match k' with | 0 => undef | _ => undef) [8] 0 () (fun _ => rfl) h hJ Yd rfl rfl rfl rfl rfl rfl (fun j' g hj p hp => by rcases j' with _ | _ | _ | j' <;> first | exact hp | exact List.mem_cons_of_mem _ hp | exact List.mem_cons_of_mem _ (List.mem_cons_of_mem _ hp) | (exfalso; omega)) ⟨?o35_4_0, ⟨?o35_4_1, ⟨?o35_4_2, ⟨?o35_4_3, ⟨?o35_4_4, ⟨?o35_4_5, ⟨?o35_4_6, ⟨?o35_4_7, ⟨?o35_4_8, trivial⟩⟩⟩⟩⟩⟩⟩⟩⟩ ⟨?e35_4_0, trivial⟩ ⟨.old 1 9 _ rfl rfl, ⟨.old 2 3 _ rfl rfl, ⟨.old 3 161 _ rfl rfl, ⟨.old 4 162 _ rfl rfl, ⟨.old 5 163 _ rfl rfl, trivial⟩⟩⟩⟩⟩ ?n35_4
 case o35_4_0 => exact fun _ O' _ => ⟨rfl, fun _ _ _ hx hl _ => ZbF Zc3 rfl (hl.env 2 3 _ rfl rfl) hx⟩
 case o35_4_1 => exact fun _ O' _ => ⟨rfl, fun _ _ _ hx hl _ => YX rfl (hl.dep 0 167 _ rfl rfl rfl rfl) hx⟩
 case o35_4_2 => exact fun _ O' _ => ⟨rfl, fun _ _ _ hx hl _ => ZR Qr rfl (hl.dep 1 168 _ rfl rfl rfl rfl) hx⟩
 case o35_4_3 => exact fun _ O' _ => ⟨rfl, fun _ _ _ hx hl _ => Zy Zc2 rfl (hl.dep 2 169 _ rfl rfl rfl rfl) hx⟩
 case o35_4_4 => exact fun _ O' _ => ⟨rfl, fun _ _ _ hx hl _ => ZR Q2 rfl (hl.env 0 18 _ rfl rfl) hx⟩
 case o35_4_5 => exact fun _ O' _ => ⟨rfl, fun _ _ _ hx hl _ => Zy QN rfl (hl.dep 4 171 _ rfl rfl rfl rfl) hx⟩
 case o35_4_6 => exact fun _ O' _ => ⟨rfl, fun _ _ _ hx hl _ => Zab X2 rfl (hl.env 0 18 _ rfl rfl) (Nat.le_refl _) hx⟩
 case o35_4_7 => exact fun _ O' _ => ⟨rfl, fun _ _ hk hx hl _ => ZdE (Zh4 hJ (y := (ge (alH f) k)) (by refine Zp7 ?_; obtain ⟨dm, hd⟩ := hfm _ (Zc (by omega : k < (alH f).length)); have := Zlv hd; omega)) ZiG rfl (Zr hS _ hk hx) (hx.1) (Za (hl.dep 6 173 _ rfl rfl rfl rfl) Zd) (jo hJ hx)⟩
 case o35_4_8 => exact Zk rfl
 case e35_4_0 => exact ⟨_, rfl, rfl, rfl, rfl, fun g _ w hk hx hl _ => Zo (ZlJ (f := (fun z' : Hy => AV.agg (hyC z'))) XN hJ hJ0 ((ge (alH f) k).label) (ge (alH f) k) (.inl rfl) hk hx (hl.dep 3 170 _ rfl rfl rfl rfl) (hl.dep 5 172 _ rfl rfl rfl rfl) (hl.dep 7 174 _ rfl rfl rfl rfl)) fun v w' ⟨_, hp⟩ => ⟨g, rfl, fun _ _ => rfl, fun e => (by cases e), hp⟩⟩
 clear a w h
 intro _
 change ∀ a w, St All (SO S (OB.mH M4 (Qq hn ((ge (alH f) k).label) (ge (alH f) k)) :: OB.mT m3 ts :: OB.set keyS m2 ls :: OB.set keyS M3 (Xt fs f.label) :: OB.set keyS M1 cs :: OB.set keyS M2 vs :: OB.mT M5 tm :: R)) w0 183 [(9, .ptr (mpC [m2, m3])), (3, .ptr [.ptr (mpC [M1, M2, M3, M4, M5])]), (161, .rd (Xr (alH f))), (162, .int ((alH f).length : Nat)), (163, .int (k : Nat))] (XO J S w0.heap.size (OB.mH M4 (Qq hn ((ge (alH f) k).label) (ge (alH f) k)) :: OB.mT m3 ts :: OB.set keyS m2 ls :: OB.set keyS M3 (Xt fs f.label) :: OB.set keyS M1 cs :: OB.set keyS M2 vs :: OB.mT M5 tm :: R)) a w → _
 refine nx (Y6 tb hJ [0,1,2,3,1001] [.int (k + 1 : Nat),_] [0] [_,_,_,_,_] rfl ⟨YK, trivial⟩ ?_)
 refine kw pm6 ?_
 refine kw pm1 ?_
 refine kw pm6 ?_
 refine kw pm6 ?_
 refine kw pm6 ?_
 refine kw pm6 ?_
 refine kw pm6 ?_
 exact XR (k + 1, Qq hn ((ge (alH f) k).label) (ge (alH f) k)) [0,1,2,3,4] ⟨by omega, by rw [ZU (by omega), ZnM, ← f2_2]⟩
 have hk4 : (alH f).length ≤ k := by have := of_decide_eq_false hb11; omega
 refine ZC (nx (tw pm6 ?_))
 refine Zn (fun a w h => YE (γ := { q' : List (ByteArray × ByteArray) // ∀ k', Zz q' k' = if (Zz ts k').isSome then Zz ts k' else Zz tm k' }) (fun ix' => ([.ptr (mpC [M1, M2, M3, M4, M5]), .ptr (mpC [M1, M2, M3, M4, M5]), .ptr [.lit (.map (some M5))], .lit (.map (some M5)), .ptr [.lit (.map (some m3))], .lit (.map (some m3)), .any] : List AV).getD ix' .any) (fun ix' => ([true, true, true, true, true, true, true] : List Bool).getD ix' true) [] (fun (j' : Nat) (g : { q' : List (ByteArray × ByteArray) // ∀ k', Zz q' k' = if (Zz ts k').isSome then Zz ts k' else Zz tm k' }) => match j' with | 0 => (OB.mT M5 tm :: OB.mT m3 ts :: OB.set keyS m2 ls :: OB.set keyS M3 (Xt fs f.label) :: OB.set keyS M1 cs :: OB.set keyS M2 vs :: OB.mH M4 hn :: R) | _ => (OB.mT M5 g.1 :: OB.mT m3 ts :: OB.set keyS m2 ls :: OB.set keyS M3 (Xt fs f.label) :: OB.set keyS M1 cs :: OB.set keyS M2 vs :: OB.mH M4 hn :: R)) (fun (k' : Nat) (g : { q' : List (ByteArray × ByteArray) // ∀ k', Zz q' k' = if (Zz ts k').isSome then Zz ts k' else Zz tm k' }) => match k' with | 0 => (.tuple #[]) | _ => undef) [6] 0 ⟨ZnX tm ts, Zgk tm ts⟩ (fun _ => rfl) h hJ Yd rfl rfl rfl rfl rfl rfl (fun j' g hj p hp => by rcases j' with _ | _ | _ | j' <;> first | exact hp | exact List.mem_cons_of_mem _ hp | exact List.mem_cons_of_mem _ (List.mem_cons_of_mem _ hp) | (exfalso; omega)) ⟨?o37_5_0, ⟨?o37_5_1, ⟨?o37_5_2, ⟨?o37_5_3, ⟨?o37_5_4, ⟨?o37_5_5, ⟨?o37_5_6, trivial⟩⟩⟩⟩⟩⟩⟩ ⟨?e37_5_0, trivial⟩ trivial ?n37_5)
 case o37_5_0 => exact fun _ O' _ => ⟨rfl, fun _ _ _ hx hl _ => ZbF Zc3 rfl (hl.env 1 3 _ rfl rfl) hx⟩
 case o37_5_1 => exact fun _ O' _ => ⟨rfl, fun _ _ _ hx hl _ => YX rfl (hl.dep 0 176 _ rfl rfl rfl rfl) hx⟩
 case o37_5_2 => exact fun _ O' _ => ⟨rfl, fun _ _ _ hx hl _ => ZR Zhj rfl (hl.dep 1 177 _ rfl rfl rfl rfl) hx⟩
 case o37_5_3 => exact fun _ O' _ => ⟨rfl, fun _ _ _ hx hl _ => Zy Zg2 rfl (hl.dep 2 178 _ rfl rfl rfl rfl) hx⟩
 case o37_5_4 => exact fun _ O' _ => ⟨rfl, fun _ _ _ hx hl _ => ZR Zdi rfl (hl.env 0 9 _ rfl rfl) hx⟩
 case o37_5_5 => exact fun _ O' _ => ⟨rfl, fun _ _ _ hx hl _ => Zy Zg2 rfl (hl.dep 4 180 _ rfl rfl rfl rfl) hx⟩
 case o37_5_6 => exact Zk rfl
 case e37_5_0 => exact ⟨_, rfl, rfl, rfl, rfl, fun _ _ w hk hx hl _ => Zo (Zrf (O := [OB.mT M5 tm, OB.mT m3 ts]) (R := (OB.set keyS m2 ls :: OB.set keyS M3 (Xt fs f.label) :: OB.set keyS M1 cs :: OB.set keyS M2 vs :: OB.mH M4 hn :: R)) (Znn hJ (M5 := M5) (T1 := m3) (tm := tm) (ts := ts) (by rw [e3]; exact ZmF _ h2t hsm)) ZoH rfl hS hJ0 Zt hk hx (Za (hl.dep 3 179 _ rfl rfl rfl rfl) (Za (hl.dep 5 181 _ rfl rfl rfl rfl) Zd))) fun v w' ⟨i, hp, hv⟩ => ⟨i, rfl, fun k' hk' => absurd hk' (Nat.not_lt_zero _), fun _ => Zey hv, hp⟩⟩
 clear a w h
 intro z6
 change ∀ a w, St All (SO S (OB.mT M5 z6.1 :: OB.mT m3 ts :: OB.set keyS m2 ls :: OB.set keyS M3 (Xt fs f.label) :: OB.set keyS M1 cs :: OB.set keyS M2 vs :: OB.mH M4 hn :: R)) w0 183 [] (XO J S w0.heap.size (OB.mT M5 z6.1 :: OB.mT m3 ts :: OB.set keyS m2 ls :: OB.set keyS M3 (Xt fs f.label) :: OB.set keyS M1 cs :: OB.set keyS M2 vs :: OB.mH M4 hn :: R)) a w → _
 refine nx (qso tb hJ [1000] [_] [_] ?_)
 refine tw pm1 ?_
 refine tw ZB ?_
 refine tw pm1 ?_
 refine tw ZB ?_
 refine tw pm4 ?_
 refine tw pm2 ?_
 refine tw pm4 ?_
 refine tw pm4 ?_
 exact Zi (fun a w h => ZS  (m := 0) ⟨((Xt fs f.label), hn, z6.1), by first | (intro h9; rw [e9] at h9; exact absurd h9 (by first | decide | exact nz)) | (intro _; exact ⟨rfl, by rw [f2_2, ZL (by omega)], fun k' => by rw [z6.2 k', e3]⟩)⟩ rfl h rfl (eI (e9.symm)))
end Go.Proofs.YtgifeodnngodiaaGreatDoor
namespace Go.Proofs.YtgifeodnngodiaaGreatDoor


theorem ZbT : ∀ x : List UInt8, Op.bytesLess x x = false
  | [] => rfl
  | a :: x => by simp [Op.bytesLess, ZbT x]
theorem Ze5 : ∀ x y z : List UInt8, Op.bytesLess x y = true → Op.bytesLess y z = true → Op.bytesLess x z = true
  | _, _, [], _, h => by cases ‹List UInt8› <;> simp [Op.bytesLess] at h
  | x, [], _ :: _, h, _ => by cases x <;> simp [Op.bytesLess] at h
  | [], _ :: _, _ :: _, _, _ => rfl
  | a :: x, b :: y, c :: z, h1, h2 => by
    simp only [Op.bytesLess, Bool.or_eq_true, Bool.and_eq_true, decide_eq_true_eq, beq_iff_eq] at h1 h2 ⊢
    rcases h1 with h1 | ⟨rfl, h1⟩
    · rcases h2 with h2 | ⟨rfl, h2⟩
      · exact Or.inl (UInt8.lt_trans h1 h2)
      · exact Or.inl h1
    · rcases h2 with h2 | ⟨rfl, h2⟩
      · exact Or.inl h2
      · exact Or.inr ⟨rfl, Ze5 x y z h1 h2⟩
theorem Ze6 : ∀ x y : List UInt8, Op.bytesLess x y = false → Op.bytesLess y x = false → x = y
  | [], [], _, _ => rfl
  | [], _ :: _, h, _ => by simp [Op.bytesLess] at h
  | _ :: _, [], _, h => by simp [Op.bytesLess] at h
  | a :: x, b :: y, h1, h2 => by
    simp only [Op.bytesLess, Bool.or_eq_false_iff, Bool.and_eq_false_iff, decide_eq_false_iff_not] at h1 h2
    have hab : a = b := by
      have h3 := h1.1
      have h4 := h2.1
      rw [UInt8.lt_iff_toNat_lt] at h3 h4
      exact UInt8.toNat_inj.1 (by omega)
    subst hab
    have h3 := h1.2
    have h4 := h2.2
    simp at h3 h4
    rw [Ze6 x y h3 h4]
theorem toList_inj {a b : ByteArray} (h : a.toList = b.toList) : a = b := by
  rw [ByteArray.toList_eq, ByteArray.toList_eq] at h
  exact ByteArray.ext (Array.toList_inj.1 h)
theorem QW {x y z : Pr} (h1 : ltP x y = true) (h2 : ltP y z = true) : ltP x z = true := by
  simp only [ltP, Bool.or_eq_true, Bool.and_eq_true, decide_eq_true_eq] at h1 h2 ⊢
  rcases h1 with h1 | ⟨e1, h1⟩
  · rcases h2 with h2 | ⟨e2, h2⟩
    · exact .inl (Ze5 _ _ _ h1 h2)
    · exact .inl (e2 ▸ h1)
  · rcases h2 with h2 | ⟨e2, h2⟩
    · exact .inl (e1 ▸ h2)
    · exact .inr ⟨e1.trans e2, Ze5 _ _ _ h1 h2⟩
theorem ZfX {x y : Pr} (h1 : ltP x y = false) (h2 : Zmo x y = false) : ltP y x = true := by
  simp only [ltP, Bool.or_eq_false_iff, Bool.and_eq_false_iff, decide_eq_false_iff_not] at h1
  simp only [ltP, Bool.or_eq_true, Bool.and_eq_true, decide_eq_true_eq]
  by_cases ha : x.a = y.a
  · right
    refine ⟨ha.symm, ?_⟩
    have h3 := h1.2.resolve_left (fun h => h ha)
    cases hb : Op.bytesLess y.b.toList x.b.toList with
    | true => rfl
    | false => simp [Zmo, ha, toList_inj (Ze6 _ _ h3 hb)] at h2
  · left
    cases hb : Op.bytesLess y.a.toList x.a.toList with
    | true => rfl
    | false => exact absurd (toList_inj (Ze6 _ _ h1.1 hb)) ha
def SrtP (l : List Pr) : Prop := l.Pairwise fun x y => ltP x y = true
theorem Zh2 : ∀ {l : List Pr} {p x : Pr}, x ∈ Zjb l p → x ∈ l ∨ x = p
  | [], p, x, h => by simpa [Zjb] using h
  | y :: l, p, x, h => by
    simp only [Zjb] at h
    split at h
    · rcases List.mem_cons.1 h with rfl | h
      · exact .inl (by simp)
      · rcases Zh2 h with h | h
        · exact .inl (by simp [h])
        · exact .inr h
    · split at h
      · exact .inl h
      · rcases List.mem_cons.1 h with rfl | h
        · exact .inr rfl
        · exact .inl h
theorem Zh1 : ∀ {l : List Pr} {p : Pr}, SrtP l → SrtP (Zjb l p)
  | [], _, _ => by simp [Zjb, SrtP]
  | y :: l, p, h => by
    have h' := List.pairwise_cons.1 h
    simp only [Zjb]
    by_cases h1 : ltP y p = true
    · rw [if_pos h1]
      refine List.pairwise_cons.2 ⟨fun x hx => ?_, Zh1 h'.2⟩
      rcases Zh2 hx with hx | rfl
      · exact h'.1 x hx
      · exact h1
    · rw [if_neg h1]
      by_cases h2 : Zmo y p = true
      · rw [if_pos h2]; exact h
      · rw [if_neg h2]
        have h3 := ZfX (by simpa using h1) (by simpa using h2)
        refine List.pairwise_cons.2 ⟨fun x hx => ?_, h⟩
        rcases List.mem_cons.1 hx with rfl | hx
        · exact h3
        · exact QW h3 (h'.1 x hx)
theorem ZbL : ∀ (w : List Pr) {a : List Pr}, SrtP a → SrtP (w.foldl Zjb a)
  | [], _, h => h
  | _ :: w, _, h => ZbL w (Zh1 h)
theorem Zh3 : ∀ {l : List Pr} {p : Pr}, (∀ x ∈ l, ltP x p = true) → Zjb l p = l ++ [p]
  | [], _, _ => rfl
  | y :: l, p, h => by
    have ih : Zjb l p = l ++ [p] := Zh3 fun x hx => h x (List.mem_cons_of_mem _ hx)
    simp only [Zjb, h y (by simp), if_true, ih, List.cons_append]
theorem Zcn : ∀ (w a : List Pr), SrtP (a ++ w) → w.foldl Zjb a = a ++ w
  | [], a, _ => by simp
  | p :: w, a, h => by
    have h1 : ∀ x ∈ a, ltP x p = true := fun x hx => (List.pairwise_append.1 h).2.2 x hx p (by simp)
    rw [List.foldl_cons, Zh3 h1, Zcn w (a ++ [p]) (by simpa using h)]
    simp
theorem Zll (w : List Pr) : w = ZnI w [] ↔ SrtP w := by
  unfold ZnI
  rw [List.append_nil]
  constructor
  · intro h
    rw [h]
    exact ZbL w .nil
  · intro h
    rw [Zcn w [] (by simpa using h)]
    simp
theorem Zkc {w : List Pr} (h : ∀ i, 0 < i → i < w.length → ltP (ge w (i - 1)) (ge w i) = true) : SrtP w := by
  have key : ∀ d i, i + 1 + d < w.length → ltP (ge w i) (ge w (i + 1 + d)) = true := by
    intro d
    induction d with
    | zero => intro i hi; simpa using h (i + 1) (by omega) (by omega)
    | succ d ih =>
      intro i hi
      refine QW (ih i (by omega)) ?_
      have := h (i + 1 + d + 1) (by omega) (by omega)
      rw [show i + 1 + d + 1 - 1 = i + 1 + d by omega] at this
      exact this
  rw [SrtP, List.pairwise_iff_getElem]
  intro i j hi hj hij
  have := key (j - i - 1) i (by omega)
  rw [show i + 1 + (j - i - 1) = j by omega] at this
  rwa [YZ hi, YZ hj] at this
theorem Zmf {vs : List ByteArray} {d : Db} (hv : vs = d.vars) (w : List Pr) : ((List.range w.length).all fun i => !Zms vs w i) = (!w.any (badW d) && decide (w = ZnI w [])) := by
  subst hv
  have hk : ∀ i, 0 < i → (0 ≤ Zgl (ge w (((i : Nat) : Int) - 1).toNat) (ge w i) ↔ ltP (ge w (i - 1)) (ge w i) = false) := fun i h => by
    rw [show (((i : Nat) : Int) - 1).toNat = i - 1 by omega, ← Zn1, decide_eq_false_iff_not]; omega
  rw [Bool.eq_iff_iff]
  simp only [List.all_eq_true, List.mem_range, Bool.not_eq_true', Bool.and_eq_true, List.any_eq_false, decide_eq_true_eq, Zll]
  constructor
  · intro h
    refine ⟨fun p hp => ?_, Zkc fun i h1 h2 => ?_⟩
    · obtain ⟨i, hi, rfl⟩ := XC hp
      have := h i hi
      simp only [Zms, Bool.or_eq_false_iff] at this
      simp only [badW, Bool.or_eq_true, not_or, Bool.not_eq_true]
      exact this.1
    · have := h i h2
      simp only [Zms, Bool.or_eq_false_iff, Bool.and_eq_false_iff, decide_eq_false_iff_not] at this
      have h3 := this.2.resolve_left (by omega)
      rw [hk i h1] at h3
      simpa using h3
  · rintro ⟨h1, h2⟩ i hi
    have h3 := h1 _ (Zc hi)
    simp only [badW, Bool.or_eq_true, not_or, Bool.not_eq_true] at h3
    simp only [Zms, Bool.or_eq_false_iff, Bool.and_eq_false_iff, decide_eq_false_iff_not]
    refine ⟨h3, ?_⟩
    by_cases h0 : 0 < i
    · right
      rw [hk i h0]
      have := List.pairwise_iff_getElem.1 h2 (i - 1) i (by omega) hi (by omega)
      rw [YZ hi, YZ (by omega), this]; decide
    · left; omega


structure TyI (l : List Hy) (tm : List (ByteArray × ByteArray)) : Prop where
  hit : ∀ x ∈ l, ∀ v, ofB x [v] = true → Zz tm v = some (ge x.text 0)
  got : ∀ v t, Zz tm v = some t → ∃ x ∈ l, ofB x [v] = true ∧ ge x.text 0 = t
structure HyI (l : List Hy) (hm : List (ByteArray × Hy)) : Prop where
  hit : ∀ x ∈ l, Zz hm x.label = some x
  got : ∀ s x, Zz hm s = some x → x ∈ l ∧ x.label = s
structure KInv (d : Db) (k : Nat) (fs : List ByteArray) (hm : List (ByteArray × Hy)) (tm : List (ByteArray × ByteArray)) (bf : List Hy) : Prop where
  fr : ∀ s, s ∈ fs ↔ frL d k s = true
  hy : HyI (oth d k) hm
  ty : TyI (oth d k) tm
  bf : bf.map Hy.label = befL d k
theorem Zlh (d : Db) : KInv d 0 [] [] [] [] := ⟨fun s => by simp [frL], ⟨fun x hx => by simp [Zh6] at hx, fun s x h => by simp [Qd] at h⟩, ⟨fun x hx => by simp [Zh6] at hx, fun s x h => by simp [Qd] at h⟩, by simp [befL]⟩
theorem ofB_one {x : Hy} {v : ByteArray} : ofB x [v] = true ↔ x.floating = true ∧ x.text.length = 2 ∧ ge x.text 1 = v := by
  simp only [ofB, Bool.and_eq_true, decide_eq_true_eq, List.mem_singleton]
  constructor
  · rintro ⟨⟨h1, h2⟩, h3⟩; exact ⟨h1, by omega, h3⟩
  · rintro ⟨h1, h2, h3⟩; exact ⟨⟨h1, by omega⟩, h3⟩
theorem ZaO {l : List ByteArray} (h : l.length = 2) : l.drop 1 = [ge l 1] := by
  match l, h with
  | [a, b], _ => rfl
theorem Zls {d : Db} {k : Nat} {s : ByteArray} : hyL d k s = (oth d k).any fun x => decide (x.label = s) := by
  simp only [hyL, oth, hysF]
  induction d.frames.take k with
  | nil => rfl
  | cons f l ih => rw [List.any_cons, ih, List.flatMap_cons, List.any_append (xs := f.hyps ++ f.dummies)]
section
variable {d : Db} {k : Nat} {fs : List ByteArray} {hm : List (ByteArray × Hy)} {tm : List (ByteArray × ByteArray)} {bf : List Hy}
theorem HyI.some {l : List Hy} (h : HyI l hm) (s : ByteArray) : (Zz hm s).isSome = l.any fun x => decide (x.label = s) := by
  rw [Bool.eq_iff_iff, List.any_eq_true]
  constructor
  · intro e
    obtain ⟨x, hx⟩ := Option.isSome_iff_exists.1 e
    have := h.got s x hx
    exact ⟨x, this.1, by simpa using this.2⟩
  · rintro ⟨x, hx, e⟩
    simp only [decide_eq_true_eq] at e
    rw [← e, h.hit x hx]; rfl
theorem TyI.bad {l : List Hy} (h : TyI l tm) (y : Hy) (h2 : y.text.length = 2) : ((Zz tm (ge y.text 1)).isSome && !decide ((Zz tm (ge y.text 1)).getD default = ge y.text 0)) = l.any (Zq2 y) := by
  rw [Bool.eq_iff_iff, List.any_eq_true]
  unfold Zq2
  rw [ZaO h2]
  constructor
  · intro e
    simp only [Bool.and_eq_true, Bool.not_eq_true', decide_eq_false_iff_not] at e
    obtain ⟨t, ht⟩ := Option.isSome_iff_exists.1 e.1
    obtain ⟨x, hx, h3, h4⟩ := h.got _ _ ht
    refine ⟨x, hx, ?_⟩
    rw [ht] at e
    simp only [Option.getD_some] at e
    simp [h3, h4, e.2]
  · rintro ⟨x, hx, e⟩
    simp only [Bool.and_eq_true, Bool.not_eq_true', decide_eq_false_iff_not] at e
    rw [h.hit x hx _ e.1]
    simp [e.2]
theorem TyI.have {l : List Hy} (h : TyI l tm) (y : Hy) (h2 : y.text.length = 2) : (Zz tm (ge y.text 1)).isSome = l.any (hOf y) := by
  rw [Bool.eq_iff_iff, List.any_eq_true]
  unfold hOf
  rw [ZaO h2]
  constructor
  · intro e
    obtain ⟨t, ht⟩ := Option.isSome_iff_exists.1 e
    obtain ⟨x, hx, h3, _⟩ := h.got _ _ ht
    exact ⟨x, hx, h3⟩
  · rintro ⟨x, hx, e⟩
    rw [h.hit x hx _ e]; rfl
theorem HyI.bad {l : List Hy} (h : HyI l hm) (y : Hy) : ((Zz hm y.label).isSome && !Zpt ((Zz hm y.label).getD default) y) = l.any (Zq3 y) := by
  rw [Bool.eq_iff_iff, List.any_eq_true]
  unfold Zq3
  constructor
  · intro e
    simp only [Bool.and_eq_true, Bool.not_eq_true'] at e
    obtain ⟨x, hx⟩ := Option.isSome_iff_exists.1 e.1
    have := h.got _ _ hx
    rw [hx] at e
    exact ⟨x, this.1, by simpa [this.2] using e.2⟩
  · rintro ⟨x, hx, e⟩
    simp only [Bool.and_eq_true, Bool.not_eq_true', decide_eq_true_eq] at e
    rw [← e.1, h.hit x hx]
    simpa using e.2
theorem ZqQ (l : List Hy) (s : ByteArray) : s ∈ lsK l ↔ ∃ x ∈ l, x.label = s := by
  rw [← List.reverse_reverse l]
  induction l.reverse with
  | nil => simp [lsK]
  | cons y m ih =>
    rw [List.reverse_cons, ZeI, ZeH, ih]
    simp only [List.mem_append, List.mem_singleton]
    constructor
    · rintro (⟨x, h, e⟩ | rfl)
      · exact ⟨x, .inl h, e⟩
      · exact ⟨y, .inr rfl, rfl⟩
    · rintro ⟨x, h | rfl, e⟩
      · exact .inl ⟨x, h, e⟩
      · exact .inr e.symm
theorem ZhG {l : List Hy} {ts : List (ByteArray × ByteArray)} {y : Hy} (h : TyI l ts) (h2 : y.floating = true → y.text.length = 2) (h3 : y.floating = true → l.any (hOf y) = false) : TyI (l ++ [y]) (if y.floating then Qq ts (ge y.text 1) (ge y.text 0) else ts) := by
  by_cases hf : y.floating = true
  · rw [if_pos hf]
    have h2' := h2 hf
    have h3' := h3 hf
    rw [List.any_eq_false] at h3'
    refine ⟨fun x hx v hv => ?_, fun v t hv => ?_⟩
    · rw [Za1]
      rcases List.mem_append.1 hx with hx | hx
      · have : ¬ v = ge y.text 1 := fun e => h3' x hx (by rw [hOf, ZaO h2', ← e]; exact hv)
        rw [if_neg this]
        exact h.hit x hx v hv
      · rw [List.mem_singleton.1 hx] at hv ⊢
        rw [if_pos (ofB_one.1 hv).2.2.symm]
    · rw [Za1] at hv
      split at hv
      · rename_i e
        refine ⟨y, by simp, ofB_one.2 ⟨hf, h2', e.symm⟩, by simpa using hv⟩
      · obtain ⟨x, hx, h4⟩ := h.got v t hv
        exact ⟨x, by simp [hx], h4⟩
  · rw [if_neg hf]
    refine ⟨fun x hx v hv => ?_, fun v t hv => ?_⟩
    · rcases List.mem_append.1 hx with hx | hx
      · exact h.hit x hx v hv
      · rw [List.mem_singleton.1 hx] at hv
        exact absurd (ofB_one.1 hv).1 hf
    · obtain ⟨x, hx, h4⟩ := h.got v t hv
      exact ⟨x, by simp [hx], h4⟩
theorem Zhc : ∀ (l : List Hy) (hm : List (ByteArray × Hy)) (x : Hy), (∀ y ∈ l, y.label = x.label → y = x) → (x ∈ l ∨ Zz hm x.label = some x) → Zz (hmK hm l) x.label = some x
  | [], _, _, _, h => by simpa [hmK] using h
  | y :: l, hm, x, h, h1 => by
    show Zz (hmK (Qq hm y.label y) l) x.label = _
    refine Zhc l _ x (fun z hz => h z (by simp [hz])) ?_
    by_cases hx : x ∈ l
    · exact .inl hx
    · right
      rw [Za1]
      by_cases e : x.label = y.label
      · rw [if_pos e, h y (by simp) e.symm]
      · rw [if_neg e]
        refine h1.resolve_left fun hm' => ?_
        rcases List.mem_cons.1 hm' with rfl | h'
        · exact e rfl
        · exact hx h'
theorem Zlt : ∀ (l : List Hy) (hm : List (ByteArray × Hy)) (s : ByteArray) (x : Hy), Zz (hmK hm l) s = some x → (x ∈ l ∧ x.label = s) ∨ Zz hm s = some x
  | [], _, _, _, h => .inr h
  | y :: l, hm, s, x, h => by
    rcases Zlt l (Qq hm y.label y) s x h with ⟨h1, h2⟩ | h1
    · exact .inl ⟨by simp [h1], h2⟩
    · rw [Za1] at h1
      split at h1
      · rename_i e
        have : y = x := by simpa using h1
        subst this
        exact .inl ⟨by simp, e.symm⟩
      · exact .inr h1
theorem Zpn (g : Nat → Int) : ∀ n, (∀ j, j < n → g j = 0) ∨ ∃ i, (i < n ∧ g i ≠ 0) ∧ ∀ j, j < i → g j = 0
  | 0 => .inl fun _ h => absurd h (Nat.not_lt_zero _)
  | n + 1 => by
    rcases Zpn g n with h | ⟨i, ⟨h1, h2⟩, h3⟩
    · by_cases e : g n = 0
      · exact .inl (Z4 h e)
      · exact .inr ⟨n, ⟨by omega, e⟩, h⟩
    · exact .inr ⟨i, ⟨by omega, h2⟩, h3⟩
theorem Zgd {n : Nat} {g h : Nat → Int} (hh : ∀ i, i < n → (∀ j, j < i → g j = 0) → g i = h i) : Xi n g = Xi n h := by
  by_cases e : ∃ i, i < n ∧ g i ≠ 0
  · obtain ⟨i, hi, hmin⟩ : ∃ i, (i < n ∧ g i ≠ 0) ∧ ∀ j, j < i → g j = 0 := by
      rcases Zpn g n with h0 | h0
      · obtain ⟨i, hi, hn⟩ := e
        exact absurd (h0 i hi) hn
      · exact h0
    have h0 : ∀ j, j < i → h j = 0 := fun j hj => by rw [← hh j (by omega) fun q hq => hmin q (by omega)]; exact hmin j hj
    have h1 := hh i hi.1 hmin
    rw [Qm hi.1 hmin hi.2, Qm hi.1 h0 (by rw [← h1]; exact hi.2), h1]
  · have h0 : ∀ j, j < n → g j = 0 := fun j hj => Classical.byContradiction fun h => e ⟨j, hj, h⟩
    rw [Q4 h0, Q4 fun j hj => by rw [← hh j hj fun q hq => h0 q (by omega)]; exact h0 j hj]
end
end Go.Proofs.YtgifeodnngodiaaGreatDoor
