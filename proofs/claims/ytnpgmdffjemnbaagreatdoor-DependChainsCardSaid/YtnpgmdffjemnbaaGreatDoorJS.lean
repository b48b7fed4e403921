/-
  DERIVED: THE SHELF's CONTRACTS AT THIS DUMP, IN PLAIN WORDS (tools/lay-plain.mjs out of 'TryzShelf.lean', which tools/lay-shelf.mjs wrote): THE SAME DECLARATIONS UNDER THE SAME NAMES: 'import', 'namespace', 'open', 'def', 'theorem' AND NOTHING ELSE: no command of the shelf's: FOR A HAND-IN. Each laying: the table of numbers ('.._ren') and one theorem, a field a fact of the dump's own or the kernel's comparison; each contract: ONE APPLICATION.
  CONTRACTS of the program: frames' small functions.
  CONTRACTS of the program: classes of bytes, labels, symbols.
  CONTRACTS of the program: whether a word can stand in a proof.
  PLAIN SPECIFICATIONS: the sets of a frame, as the program looks at them.
  CONTRACTS of the program: what is known of a database.
  CONTRACTS of the program: the sets of a frame, closures.
  CONTRACTS of the library: room, rows in a row, copies of maps.
  PLAIN SPECIFICATIONS: a frame's error by what the program knows, and what it knows behind it.
-/
import Derived.Shelf.Small.Utf8
import Derived.Shelf.Small.Bits
import Derived.Shelf.Small.Strs
import Derived.Shelf.Strconv.Itoa0
import Derived.Shelf.Strings.Search1
import Derived.Shelf.GgClosure.StringsIndexFunc
import Derived.Ground.GgwProg
import Derived.Shelf.GgClosure.StringsIndexFuncTop
import Derived.Shelf.GgClosure.StringsRunes
import Derived.Shelf.Strings.Prefix
import Derived.Shelf.Strings.Runes
import Derived.Shelf.Strings.FuncGrows
import Derived.Shelf.Slices.Turned
import Derived.Shelf.Slices.Equal
import Derived.Shelf.Slices.Empties2
import Derived.Test.YtnpgmdffjemnbaaGreatDoorProg
import Derived.Test.YtnpgmdffjemnbaaGreatDoorJG
import Derived.Test.YtnpgmdffjemnbaaGreatDoorJR
import Derived.Test.YtnpgmdffjemnbaaGreatDoorJH
import Derived.Test.YtnpgmdffjemnbaaGreatDoorJO
import Derived.Test.YtnpgmdffjemnbaaGreatDoorJI
import Derived.Test.YtnpgmdffjemnbaaGreatDoorJN
namespace Go.Proofs
open Go.Shelf
def Tryz.lays106_ren : Go.Shelf.Ren := ⟨fun | 106 => 155 | 213 => 173 | 265 => 181 | n => n, fun | 9 => 9 | 3 => 3 | n => n, fun | n => n⟩
theorem Tryz.lays106 : Go.Proofs.Lays.n106 Tryz.prog Tryz.lays106_ren := {
  mixed := by kernel_rfl
  f106 := Tryz.func155.trans (congrArg some (by kernel_rfl))
  f213 := Tryz.func173.trans (congrArg some (by kernel_rfl))
  f265 := Tryz.func181.trans (congrArg some (by kernel_rfl))
  t3 := Tryz.underlying3
  a3 := Tryz.isAgg3
  z3 := Tryz.sizeOf3
  v3 := Tryz.zeroValue3
  t9 := Tryz.underlying9
  a9 := Tryz.isAgg9
  z9 := Tryz.sizeOf9
  v9 := Tryz.zeroValue9 }
open Go.RowKit in
theorem Tryz.strings_Compare (a b : ByteArray) (w : World) :
    Calls Tryz.prog 155 #[.string a, .string b] w fun e w' => e = .returned (.int .i64 (Lib.compareBytes a.data.toList b.data.toList)) ∧ w' = w := Any.strings_Compare Tryz.lays106 a b w
end Go.Proofs
set_option maxHeartbeats 8000000
set_option maxRecDepth 100000
namespace Go.Proofs.YtnpgmdffjemnbaaGreatDoor
open Go.RowKit

theorem ZeO {J : World → Prop} (_ : Stab J) (x : ByteArray) (y : ByteArray) : Fn Tryz.prog J 155 [.str x, .str y] (.int (Zhb x y)) := fun S w vs hS hJ0 h => by
  simp only [RelL] at h
  obtain ⟨u, _, rfl, h1, u2, _, rfl, h2, rfl⟩ := h
  rw [h1.lit, h2.lit]
  exact Calls.mono (Tryz.strings_Compare x y w) fun e w' ⟨he, hw⟩ => ⟨_, he, Rel.of_lit _, hw ▸ Keeps.refl _ _, hw ▸ hJ0⟩

theorem ZcX {J : World → Prop} (hJ : Stab J) (x : Pr) (y : Pr)  : Fn Tryz.prog J 126 [.agg (prC x), .agg (prC y)] (.int (ZcI x y)) := by
 refine Zx (N := 19) Tryz.func126 rfl rfl (lb rfl) fun S w0 hS hJ0 => ?_
 clear hJ0
 refine Za (rg tb hJ [1000, 1001] [_, _, _] [0, 1] [(_, .ptr (prC x)), (_, .ptr (prC y))] rfl rfl rfl rfl ⟨fun _ _ hk hx hl _ => Yv rfl (hl.env 0 0 _ rfl rfl) (hS _ hk.size) (js hJ hx), fun _ _ hk hx hl _ => Yv rfl (hl.env 1 1 _ rfl rfl) (hS _ hk.size) (js hJ hx), trivial⟩ (nx (Za (Za (rg tb hJ [0, 1, 1005] [_, _, _, _, .int (Zhb x.a y.a), _] [4] [(_, _), (_, _), (_, .int (Zhb x.a y.a))] rfl rfl rfl rfl ⟨hFn hS hJ (ZeO hJ (x := x.a) (y := y.a) ) Zhf rfl rfl rfl rfl, trivial⟩ (nx (Za (rg tb hJ [0, 1, 2, 1001] [_, _] [] [(_, _), (_, _), (_, _), (_, .bool (!decide (Zhb x.a y.a = (0 : Int))))] rfl rfl rfl rfl trivial (nx (tc 3 rfl rfl (fun hb1 => ?_) (fun hb1 => ?_)))))))))))
 try simp at hb1
 refine Za (rg tb hJ [1001] [_, _] [] [(_, .int (Zhb x.a y.a))] rfl rfl rfl rfl trivial (nx (Zi (fun a w h => Zh (m := 0) rfl h rfl (congrArg AV.int (show (Zhb x.a y.a) = (ZcI x y) from by clear h; grind [ZcI]))))))
 try simp at hb1
 refine Zd (nx (Za (rg tb hJ [1005] [_, _, _, _, .int (Zhb x.b y.b), _] [4] [(_, .int (Zhb x.b y.b))] rfl rfl rfl rfl ⟨hFn hS hJ (ZeO hJ (x := x.b) (y := y.b) ) Zhf rfl rfl rfl rfl, trivial⟩ (nx (Zi (fun a w h => Zh (m := 0) rfl h rfl (congrArg AV.int (show (Zhb x.b y.b) = (ZcI x y) from by clear h; grind [ZcI]))))))))
theorem ZeG {J : World → Prop} (hJ : Stab J) (x : Hy) (y : Hy)  : Fn Tryz.prog J 122 [.agg (hyC x), .agg (hyC y)] (.bool (Zc0 x y)) := by
 refine Zx (N := 24) Tryz.func122 rfl rfl (lb rfl) fun S w0 hS hJ0 => ?_
 clear hJ0
 refine Za (rg tb hJ [1000, 1001] [_, _, _] [0, 1] [(_, .ptr (hyC x)), (_, .ptr (hyC y))] rfl rfl rfl rfl ⟨fun _ _ hk hx hl _ => Yv rfl (hl.env 0 0 _ rfl rfl) (hS _ hk.size) (js hJ hx), fun _ _ hk hx hl _ => Yv rfl (hl.env 1 1 _ rfl rfl) (hS _ hk.size) (js hJ hx), trivial⟩ (nx (Za (rg tb hJ [1019] [_, _, _, _, _, _, _, _, _, _, .bool (x.floating == y.floating), _, _, _, _, _, _, .bool (decide (x.text = y.text)), _, _] [10, 17] [(_, .bool (((decide (x.label = y.label)) && (x.floating == y.floating)) && (decide (x.text = y.text))))] rfl rfl rfl rfl ⟨fun _ _ _ hx hl hc => ZmO ZmE rfl (hl.dep 7 12 _ rfl rfl rfl hc) (hl.dep 9 14 _ rfl rfl rfl hc) hx, fun _ _ hk hx hl hc => Qk (Zk2 hJ (xs := x.text) (ys := y.text) ) ZlX rfl (nm hS hk) (hx) (Zc (hl.dep 14 19 _ rfl rfl rfl hc) (Zc (hl.dep 16 21 _ rfl rfl rfl hc) Zm)) (js hJ hx), trivial⟩ (nx (Zi (fun a w h => Zh (m := 0) rfl h rfl (congrArg AV.bool (show (((decide (x.label = y.label)) && (x.floating == y.floating)) && (decide (x.text = y.text))) = (Zc0 x y) from by first | rfl | grind [Zb])))))))))
theorem ZhM {J : World → Prop} (hJ : Stab J) (hs : List Hy) (t : List ByteArray) (b : hs.length ≤ 40) : Fn Tryz.prog J 125 [.rd (Z4 hs), .rd (Zg t)] (.rd (X3 (t :: (ZZ hs).map Hy.text))) := by
 refine Zx (N := 26) Tryz.func125 rfl rfl (lb rfl) fun S w0 hS hJ0 => ?_
 refine tw Yi ?_
 refine Zf (fun a w h => Zj h 0 rfl) fun hl1 => Zf (fun a w h => Zj h 1 rfl) fun hl2 => Za (rgo tb hJ [0, 1] [_] [] [(_, _), (_, _)] rfl rfl rfl rfl trivial (nx (Za (Zn (sv tb rfl rfl rfl rfl (Zbl YT ZdB hJ rfl rfl rfl (lb rfl) (fun _ _ h => (h.get 0 rfl)) fun v1 => ?_))))))
 refine sv tb rfl rfl rfl rfl (Zy ?_)
 refine kw (lz [0, 3] (env' := [(_, _), (_, _)]) rfl) ?_
 refine nx (Za (Za (rgo tb hJ [0, 1000, 1001, 1002] [_, _, _] [1] [(_, _), (_, .rd (Z4 hs)), (_, .int hs.length), (_, .int (0 : Int))] rfl rfl rfl rfl ⟨Ys ZC rfl rfl rfl rfl, trivial⟩ (nx (Ze (Zw (ι := Nat × Value × (List (List ByteArray))) (fun (ii' : Nat × Value × (List (List ByteArray))) a w => match ii' with | (k, v, out) => ((k ≤ hs.length) ∧ (out = t :: (ZZ (hs.take k)).map Hy.text) ∧ (out.length ≤ k + 1)) ∧ St All (SO S [OB.row v 22 1 (out.map Zb9)]) w0 26 [(10, .rd (Z4 hs)), (11, .int hs.length), (12, .int k), (5, .lit v)] (XO J S w0.heap.size [OB.row v 22 1 (out.map Zb9)]) a w) (fun (ii' : Nat × Value × (List (List ByteArray))) => match ii' with | (k, _, _) => (hs.length - k : Nat)) ?_ ?_))))))
 intro a w h
 exact ⟨(0, v1, [t]), (show (0 ≤ hs.length) ∧ (([t]) = t :: (ZZ (hs.take 0)).map Hy.text) ∧ (([t]).length ≤ 0 + 1) from ⟨Nat.zero_le _, by simp [ZZ], by simp⟩), lz [1, 2, 3, 0] rfl h⟩
 rintro ⟨k, v, out⟩
 refine ZD fun hF => ?_
 obtain ⟨f1_1, f1_2, f1_3⟩ := hF
 refine Za (rgo tb hJ [0, 1, 2, 3, 1000] [_] [] [(_, _), (_, _), (_, _), (_, _), (_, .bool (decide ((k : Int) < (hs.length : Int))))] rfl rfl rfl rfl trivial (nx (Za (tc 4 rfl rfl (fun hb1 => ?_) (fun hb1 => ?_)))))
 try simp at hb1
 refine Zd (nx (Za (Ze (Za (Zn (sq (.ptr (hyC (ge hs k))) rfl rfl (lb rfl) (fun _ _ h => ZI (i := (k : Int)) Zt rfl (h.get 0 rfl) (h.get 2 rfl) (Int.natCast_nonneg _) (ZL (xs := hs) (k := k) (by first | omega | (simp; omega) | grind [Zb])) rfl h.x) (sv (av := .agg (hyC (ge hs k))) tb rfl rfl rfl rfl (QZ (cs := hyC (ge hs k)) ZaL rfl rfl rfl (lb rfl) rfl rfl rfl (by decide) (m := 0) rfl rfl (fun a w h => Zr hS _ h.keep h.x _ (Nat.le_refl _)) (fun a w h w' hk' => YY hJ _ _ hk' h.x) (Zy ?_)))))))))
 refine kw (lz [0, 3, 4, 5, 6] (env' := [(_, _), (_, _), (_, _), (_, _), (_, _)]) rfl) ?_
 refine nx (Za (rgo tb hJ [0, 1, 2, 3, 4, 1002] [_, _, _] [] [(_, _), (_, _), (_, _), (_, _), (_, _), (_, .bool (!((ge hs k).floating)))] rfl rfl rfl rfl trivial (nx (tc 5 rfl rfl (fun hb2 => ?_) (fun hb2 => ?_)))))
 try simp at hb2
 refine Zn (sv tb rfl rfl rfl rfl (sv (av := .ptr [Zg ((ge hs k).text)]) tb rfl rfl rfl rfl (sv (av := .rd (Zg ((ge hs k).text))) tb rfl rfl rfl rfl (sq (.rd (X3 ([(ge hs k).text]))) rfl rfl (lb rfl) (fun _ _ h => ZV YT ZdB rfl (h.get 0 rfl) (Zr hS _ h.keep h.x _ (Nat.le_refl _)) (jo hJ h.x)) (ZR (f := Zb9) (m := 3) (s := 19) out ([(ge hs k).text]) (fun _ => rfl) Zdy hJ hJ0 rfl rfl rfl (lb rfl) rfl rfl (fun a w h => (h.get 0 rfl)) (by first | omega | (simp; omega) | grind [Zb]) (by first | omega | (simp; omega) | grind [Zb]) fun v2 => ?_)))))
 refine sv tb rfl rfl rfl rfl (Zy ?_)
 refine kw (lz [0, 2, 3, 7, 8, 9] (env' := [(_, _), (_, _), (_, _), (_, _), (_, _), (_, _)]) rfl) ?_
 refine nx (Zf (fun a w h => Zj h 1 rfl) fun hl3 => Zf (fun a w h => Zj h 2 rfl) fun hl4 => rgo tb hJ [0, 3, 4, 1001] [.int ((k + 1 : Nat) : Int), _] [0] [(_, _), (_, _), (_, _), (_, .int ((k + 1 : Nat) : Int))] rfl rfl rfl rfl ⟨Yc (by first | omega | (simp; omega) | grind [Zb]) rfl rfl rfl rfl rfl, trivial⟩ ?_)
 intro a w h; change ∃ j, _ ∧ _
 exact ⟨(k + 1, v2, out ++ ([(ge hs k).text])), ⟨⟨(show (k + 1) ≤ hs.length from by omega), (show (out ++ ([(ge hs k).text])) = t :: (ZZ (hs.take (k + 1))).map Hy.text from by rw [ZZ, ZM (by omega), f1_2]; simp [ZZ, hb2]), (show (out ++ ([(ge hs k).text])).length ≤ (k + 1) + 1 from by simp; omega)⟩, lz [1, 2, 3, 0] rfl h⟩, (show hs.length - (k + 1) < hs.length - k from by first | omega | (simp; omega))⟩
 try simp at hb2
 refine Zd (nx (rgo tb hJ [1, 2, 4, 1001] [.int ((k + 1 : Nat) : Int), _] [0] [(_, _), (_, _), (_, _), (_, .int ((k + 1 : Nat) : Int))] rfl rfl rfl rfl ⟨Yc (by first | omega | (simp; omega) | grind [Zb]) rfl rfl rfl rfl rfl, trivial⟩ ?_))
 intro a w h; change ∃ j, _ ∧ _
 exact ⟨(k + 1, v, out), ⟨⟨(show (k + 1) ≤ hs.length from by omega), (show out = t :: (ZZ (hs.take (k + 1))).map Hy.text from by rw [ZZ, ZM (by omega), f1_2]; simp [ZZ, hb2]), (show out.length ≤ (k + 1) + 1 from by omega)⟩, lz [0, 1, 3, 2] rfl h⟩, (show hs.length - (k + 1) < hs.length - k from by first | omega | (simp; omega))⟩
 try simp at hb1
 refine Zv (nx (Za (rgo tb hJ [1001] [_, _] [] [(_, .lit v)] rfl rfl rfl rfl trivial (nx ?_))))
 refine tw (fun h => ZO hS h (m := 0) (s := 4) rfl) ?_
 refine Zi (fun a w h => Zh (m := 0) rfl (Zl h) rfl (congrArg (fun z => AV.rd (X3 z)) (show out = (t :: (ZZ hs).map Hy.text) from by rw [f1_2, Zp (by omega)])))
theorem ZfJ {J : World → Prop} (hJ : Stab J) (M : Nat) (vs : List ByteArray) (l : List (List ByteArray))  : FnM (ι := Nat) Tryz.prog J 124 [OB.set keyS M vs] [.lit (.map (some M)), .rd (X3 l)] [] (fun i' => .lit (.map (some (i')))) (fun i' => [OB.set keyS (i') (YZ vs l.flatten)]) := by
 refine YK (N := 31) Tryz.func124 rfl rfl (lb rfl) fun S w0 R hS hJ0 hH => ?_
 refine XA (B := St All (SO S (R)) w0 31 [(0, .lit (.map (some M))), (1, .rd (X3 l))] (XO J S w0.heap.size (R))) ?_ fun a w h => h
 refine Zf (fun a w h => Zj h 1 rfl) fun hl1 => Za (rgo tb hJ [0, 1] [.rd (.lit (Go.Value.map none))] [0] [(_, _), (_, _)] rfl rfl rfl rfl ⟨fun _ _ _ hx _ _ => QH rfl (Rel.of_lit (Go.Value.map none)) hx, trivial⟩ (nx (Za (Zn (ZaC keyS hJ rfl rfl rfl (lb rfl) fun m1 => ?_)))))
 refine sv tb rfl rfl rfl rfl (Zy ?_)
 refine kw (lz [0, 2, 3] (env' := [(_, _), (_, _), (_, _)]) rfl) ?_
 refine nx (Za (Za (rgo tb hJ [0, 1, 1000, 1001, 1002] [_, _, _] [1] [(_, _), (_, _), (_, .rd (X3 l)), (_, .int l.length), (_, .int (0 : Int))] rfl rfl rfl rfl ⟨Ys Zb6 rfl rfl rfl rfl, trivial⟩ (nx (Ze (Zw (ι := Nat × (List ByteArray)) (fun (ii' : Nat × (List ByteArray)) a w => match ii' with | (k, ys) => ((k ≤ l.length) ∧ (ys = YZ vs (l.take k).flatten)) ∧ St All (SO S (OB.set keyS m1 ys :: R)) w0 31 [(5, .lit (.map (some m1))), (0, .lit (.map (some M))), (11, .rd (X3 l)), (12, .int l.length), (13, .int k)] (XO J S w0.heap.size (OB.set keyS m1 ys :: R)) a w) (fun (ii' : Nat × (List ByteArray)) => match ii' with | (k, _) => (l.length - k : Nat)) ?_ ?_))))))
 intro a w h
 exact ⟨(0, ([] : List ByteArray)), (show (0 ≤ l.length) ∧ (([] : List ByteArray) = YZ vs (l.take 0).flatten) from ⟨Nat.zero_le _, by simp [YZ]⟩), lz [0, 1, 2, 3, 4] rfl h⟩
 rintro ⟨k, ys⟩
 refine ZD fun hF => ?_
 obtain ⟨f1_1, f1_2⟩ := hF
 refine Za (rgo tb hJ [0, 1, 2, 3, 4, 1000] [_] [] [(_, _), (_, _), (_, _), (_, _), (_, _), (_, .bool (decide ((k : Int) < (l.length : Int))))] rfl rfl rfl rfl trivial (nx (Za (tc 5 rfl rfl (fun hb1 => ?_) (fun hb1 => ?_)))))
 try simp at hb1
 refine Zd (nx (Za (Ze (Za (rgo tb hJ [0, 1, 2, 3, 4, 1001, 1002] [.ptr [Zg (ge l k)], _, _] [0] [(_, _), (_, _), (_, _), (_, _), (_, _), (_, .rd (Zg (ge l k))), (_, .rd (Zg (ge l k)))] rfl rfl rfl rfl ⟨hIx YT (by first | omega | (simp; omega) | grind [Zb]) rfl rfl rfl rfl rfl rfl, trivial⟩ (nx (Zf (fun a w h => Zj h 5 rfl) fun hl2 => Za (rgo tb hJ [0, 1, 2, 3, 4, 1000, 1001, 1002] [_, _, _] [1] [(_, _), (_, _), (_, _), (_, _), (_, _), (_, .rd (Zg (ge l k))), (_, .int (((ge l k).length : Nat) : Int)), (_, .int (0 : Int))] rfl rfl rfl rfl ⟨Ys ZB rfl rfl rfl rfl, trivial⟩ (nx (Ze (Zw (ι := Nat × (List ByteArray)) (fun (ii' : Nat × (List ByteArray)) a w => match ii' with | (j, zs) => ((j ≤ (ge l k).length) ∧ (zs = YZ vs ((l.take k).flatten ++ (ge l k).take j))) ∧ St All (SO S (OB.set keyS m1 zs :: R)) w0 31 [(5, .lit (.map (some m1))), (0, .lit (.map (some M))), (11, .rd (X3 l)), (12, .int l.length), (13, .int k), (17, .rd (Zg (ge l k))), (18, .int (((ge l k).length : Nat) : Int)), (19, .int j)] (XO J S w0.heap.size (OB.set keyS m1 zs :: R)) a w) (fun (ii' : Nat × (List ByteArray)) => match ii' with | (j, _) => ((ge l k).length - j : Nat)) ?_ ?_)))))))))))
 intro a w h
 exact ⟨(0, ys), (show (0 ≤ (ge l k).length) ∧ (ys = YZ vs ((l.take k).flatten ++ (ge l k).take 0)) from ⟨Nat.zero_le _, by simp [f1_2]⟩), lz [0, 1, 2, 3, 4, 5, 6, 7] rfl h⟩
 rintro ⟨j, zs⟩
 refine ZD fun hF => ?_
 obtain ⟨f2_1, f2_2⟩ := hF
 refine Za (rgo tb hJ [0, 1, 2, 3, 4, 5, 6, 7, 1000] [_] [] [(_, _), (_, _), (_, _), (_, _), (_, _), (_, _), (_, _), (_, _), (_, .bool (decide ((j : Int) < (((ge l k).length : Nat) : Int))))] rfl rfl rfl rfl trivial (nx (Za (tc 8 rfl rfl (fun hb2 => ?_) (fun hb2 => ?_)))))
 try simp at hb2
 refine Zd (nx (Za (Ze (Za (rgo tb hJ [0, 1, 2, 3, 4, 5, 6, 7, 1002] [.ptr [.lit (.string (ge (ge l k) j))], _, _] [0] [(_, _), (_, _), (_, _), (_, _), (_, _), (_, _), (_, _), (_, _), (_, .str (ge (ge l k) j))] rfl rfl rfl rfl ⟨hIx Zk (by first | omega | (simp; omega) | grind [Zb]) rfl rfl rfl rfl rfl rfl, trivial⟩ (nx (Za (rgo tb hJ [0, 1, 2, 3, 4, 5, 6, 7, 8, 1002] [_, _, _] [2] [(_, _), (_, _), (_, _), (_, _), (_, _), (_, _), (_, _), (_, _), (_, _), (_, .bool (decide ((ge (ge l k) j) ∈ vs)))] rfl rfl rfl rfl ⟨fun _ _ hk hx hl _ => Yo (Kd := keyS) (xs := vs) ZU ZY (ge (ge l k) j) rfl (YF hH hk hx (mo 0 rfl)) (hl.dep 0 23 _ rfl rfl rfl rfl) (hl.dep 1 24 _ rfl rfl rfl rfl) hx, trivial⟩ (nx (tc 9 rfl rfl (fun hb3 => ?_) (fun hb3 => ?_)))))))))))
 try simp at hb3
 refine Zn (sv tb rfl rfl rfl rfl (sv tb rfl rfl rfl rfl (Zbk ZU hJ hJ0 (ge (ge l k) j) rfl rfl (.inl rfl) (fun a w h => ⟨(h.get 1 rfl), (h.get 0 rfl), (Rel.of_lit (Go.Value.bool true))⟩) (Zy ?_))))
 refine kw (lz [2, 3, 4, 5, 6, 7, 8, 9] (env' := [(_, _), (_, _), (_, _), (_, _), (_, _), (_, _), (_, _), (_, _)]) rfl) ?_
 refine nx (rgo tb hJ [0, 1, 2, 3, 4, 5, 6, 1001] [.int ((j + 1 : Nat) : Int), _] [0] [(_, _), (_, _), (_, _), (_, _), (_, _), (_, _), (_, _), (_, .int ((j + 1 : Nat) : Int))] rfl rfl rfl rfl ⟨Yc (by first | omega | (simp; omega) | grind [Zb]) rfl rfl rfl rfl rfl, trivial⟩ ?_)
 intro a w h; change ∃ j, _ ∧ _
 exact ⟨(j + 1, Z5 zs (ge (ge l k) j)), ⟨⟨(show (j + 1) ≤ (ge l k).length from by omega), (show (Z5 zs (ge (ge l k) j)) = YZ vs ((l.take k).flatten ++ (ge l k).take (j + 1)) from by rw [ZS (by omega), ← List.append_assoc, Q4, ← f2_2]; first | (simp [hb3, Z5]; done) | (simp [hb3, Z5]; grind))⟩, lz [0, 1, 2, 3, 4, 5, 6, 7] rfl h⟩, (show (ge l k).length - (j + 1) < (ge l k).length - j from by first | omega | (simp; omega))⟩
 try simp at hb3
 refine Zd (nx (rgo tb hJ [0, 1, 2, 3, 4, 5, 6, 1001] [.int ((j + 1 : Nat) : Int), _] [0] [(_, _), (_, _), (_, _), (_, _), (_, _), (_, _), (_, _), (_, .int ((j + 1 : Nat) : Int))] rfl rfl rfl rfl ⟨Yc (by first | omega | (simp; omega) | grind [Zb]) rfl rfl rfl rfl rfl, trivial⟩ ?_))
 intro a w h; change ∃ j, _ ∧ _
 exact ⟨(j + 1, zs), ⟨⟨(show (j + 1) ≤ (ge l k).length from by omega), (show zs = YZ vs ((l.take k).flatten ++ (ge l k).take (j + 1)) from by rw [ZS (by omega), ← List.append_assoc, Q4, ← f2_2]; first | (simp; done) | (simp [hb3]; done) | (simp; grind))⟩, lz [0, 1, 2, 3, 4, 5, 6, 7] rfl h⟩, (show (ge l k).length - (j + 1) < (ge l k).length - j from by first | omega | (simp; omega))⟩
 try simp at hb2
 refine Zv (nx (rgo tb hJ [0, 1, 2, 3, 1001] [.int ((k + 1 : Nat) : Int), _] [0] [(_, _), (_, _), (_, _), (_, _), (_, .int ((k + 1 : Nat) : Int))] rfl rfl rfl rfl ⟨Yc (by first | omega | (simp; omega) | grind [Zb]) rfl rfl rfl rfl rfl, trivial⟩ ?_))
 intro a w h; change ∃ j, _ ∧ _
 exact ⟨(k + 1, zs), ⟨⟨(show (k + 1) ≤ l.length from by omega), (show zs = YZ vs (l.take (k + 1)).flatten from by rw [f2_2, Zp (xs := ge l k) (by omega), ZS (by omega)]; simp)⟩, lz [0, 1, 2, 3, 4] rfl h⟩, (show l.length - (k + 1) < l.length - k from by first | omega | (simp; omega))⟩
 try simp at hb1
 refine Zv (nx (Za (rgo tb hJ [1001] [_, _] [] [(_, .lit (.map (some m1)))] rfl rfl rfl rfl trivial (nx ?_))))
 refine tw (ob0 (congrArg (fun z' => OB.set keyS m1 (z')) (show ys = (YZ vs l.flatten) from by rw [f1_2, Zp (by omega)]))) ?_
 refine Zi (fun a w h => Yh  (m := 0) m1 rfl h rfl rfl)
theorem ZiY {J : World → Prop} (hJ : Stab J) (M : Nat) (ms : List ByteArray) (p : Pr)  : FnR Tryz.prog J 158 [OB.set keyS M ms] [.agg (prC p), .ptr [.lit (.map (some M))]] (.bool (!decide (p.a ∈ ms) || !decide (p.b ∈ ms))) := by
 refine Yp (N := 16) Tryz.func158 rfl rfl (lb rfl) fun S w0 hS hJ0 hH => ?_
 clear hJ0
 refine Za (rg tb hJ [1, 1000] [_, _] [0] [(_, _), (_, .ptr (prC p))] rfl rfl rfl rfl ⟨fun _ _ hk hx hl _ => Yv rfl (hl.env 0 0 _ rfl rfl) (hS _ hk.size) (js hJ hx), trivial⟩ (nx (Za (rg tb hJ [1012] [_, _, _, .bool (decide (p.a ∈ ms)), _, _, _, _, _, .bool (decide (p.b ∈ ms)), _, _, _] [3, 9] [(_, .bool ((!(decide (p.a ∈ ms))) || (!(decide (p.b ∈ ms)))))] rfl rfl rfl rfl ⟨fun a _ hk hx hl _ => Yo (Kd := keyS) (xs := ms) ZU ZY p.a rfl (YP hH hk (mo 0 rfl)) (hl.dep 0 4 _ rfl rfl rfl rfl) (hl.dep 2 6 _ rfl rfl rfl rfl) hx, fun _ _ hk hx hl hc => Yo (Kd := keyS) (xs := ms) ZU ZY p.b rfl (YP hH hk (mo 0 rfl)) (hl.dep 6 10 _ rfl rfl rfl hc) (hl.dep 8 12 _ rfl rfl rfl hc) hx, trivial⟩ (nx (Zi (fun a w h => Zh (m := 0) rfl h rfl (congrArg AV.bool (show ((!(decide (p.a ∈ ms))) || (!(decide (p.b ∈ ms)))) = (!decide (p.a ∈ ms) || !decide (p.b ∈ ms)) from by first | rfl | grind [Zb])))))))))
theorem ZkQ {J : World → Prop} (hJ : Stab J) (M : Nat) (ms : List ByteArray) (l : List Pr) (b : l.length * 32 ≤ 140737488351232) : FnR Tryz.prog J 128 [OB.set keyS M ms] [.lit (.map (some M)), .rd (YG l)] (.rd (YG (l.filter (inV ms)))) := by
 refine Yp (N := 9) Tryz.func128 rfl rfl (lb rfl) fun S w0 hS hJ0 hH => ?_
 refine tw Yi ?_
 refine Zf (fun a w h => Zj h 1 rfl) fun hl1 => Za (rgo tb hJ [1, 1000] [_, _] [0] [(_, _), (_, .ptr [.lit (.map (some M))])] rfl rfl rfl rfl ⟨fun _ _ hk hx hl _ => ZiR rfl (hl.env 0 0 _ rfl rfl) (Zr hS _ hk hx _ (Nat.le_refl _)) (jo hJ hx), trivial⟩ (nx (Za (Zn (sv tb rfl rfl rfl rfl (Zat (O := []) (R := []) (Zk6 hJ (xs := l) (b)) ZlV rfl rfl rfl (lb rfl) hS hJ0 ZP (fun a w h => (Zc (h.get 0 rfl) Zm)) fun z1 => ?_))))))
 refine sq (.fn 158 [.ptr [.lit (.map (some M))]]) rfl rfl (lb rfl) (fun _ _ h => Zai (caps := [(Go.Operand.tmp 2)]) rfl (Zc (h.get 3 rfl) Zm) h.x) (Zat (O := [OB.row z1 148 2 (l.map prC)]) (R := []) (ZdM hJ (v := z1) (xs := l) (f := 158) (caps := [.ptr [.lit (.map (some M))]]) (Os := []) (Hs := [OB.set keyS M ms]) (p := (fun x' : Pr => !decide (x'.a ∈ ms) || !decide (x'.b ∈ ms))) (fun q' => ZiY hJ M ms q') (ZlU) (by omega)) ZlW rfl rfl rfl (lb rfl) hS hJ0 (Z0 (hH _ (mo 0 rfl)) ZP) (fun a w h => (Zc (h.get 1 rfl) (Zc (h.get 0 rfl) Zm))) fun _ => ?_)
 refine sv tb rfl rfl rfl rfl (Zy ?_)
 refine kw (lz [0, 1] (env' := [(_, _), (_, _)]) rfl) ?_
 refine nx (Zf (fun a w h => Zj h 0 rfl) fun hl2 => Zi (fun a w h => Zh (m := 0) rfl (Zl h) rfl (congrArg (fun z => AV.rd (YG z)) (show (l.filter fun x' => !(fun x' : Pr => !decide (x'.a ∈ ms) || !decide (x'.b ∈ ms)) x') = (l.filter (inV ms)) from by congr 1; funext x'; simp [inV]))))
theorem ZdL {J : World → Prop} (hJ : Stab J) (y : Hy)  : Fn Tryz.prog J 103 [.agg (hyC y)] (.bool y.floating) := by
 refine Zx (N := 5) Tryz.func103 rfl rfl (lb rfl) fun S w0 hS hJ0 => ?_
 clear hJ0
 refine Za (rg tb hJ [1000] [_, _] [0] [(_, .ptr (hyC y))] rfl rfl rfl rfl ⟨fun _ _ hk hx hl _ => Yv rfl (hl.env 0 0 _ rfl rfl) (hS _ hk.size) (js hJ hx), trivial⟩ (nx (Za (rg tb hJ [1002] [_, _, _] [] [(_, .bool y.floating)] rfl rfl rfl rfl trivial (nx (Zi (fun a w h => Zh (m := 0) rfl h rfl rfl)))))))
theorem ZbC {J : World → Prop} (hJ : Stab J) (f : Fr) (b : f.hyps.length * 48 ≤ 140737488351232) : Fn Tryz.prog J 77 [.agg (frC f)] (.rd (Z4 (ZZ f.hyps))) := by
 refine Zx (N := 7) Tryz.func77 rfl rfl (lb rfl) fun S w0 hS hJ0 => ?_
 refine tw Yi ?_
 refine Za (rgo tb hJ [1000] [_, _] [0] [(_, .ptr (frC f))] rfl rfl rfl rfl ⟨fun _ _ hk hx hl _ => Yv rfl (hl.env 0 0 _ rfl rfl) (Zr hS _ hk hx _ (Nat.le_refl _)) (jo hJ hx), trivial⟩ (nx (Za (Zn (sv (av := .ptr [Z4 f.hyps, YG f.apart, Zg f.text, Z4 f.dummies, YG f.wide, Zg f.proof]) tb rfl rfl rfl rfl (sv (av := .rd (Z4 f.hyps)) tb rfl rfl rfl rfl (Zat (O := []) (R := []) (Zk8 hJ (xs := f.hyps) (b)) Zml rfl rfl rfl (lb rfl) hS hJ0 ZP (fun a w h => (Zc (h.get 0 rfl) Zm)) fun z1 => ?_)))))))
 refine Zat (O := [OB.row z1 109 3 (f.hyps.map hyC)]) (R := []) (ZdN hJ (v := z1) (xs := f.hyps) (f := 103) (caps := []) (Os := []) (Hs := []) (p := (fun x' : Hy => x'.floating)) (fun q' => (ZdL hJ q').r) (Zmk) (by omega)) Zmm rfl rfl rfl (lb rfl) hS hJ0 ZP (fun a w h => (Zc (h.get 0 rfl) (Zc (QG 103) Zm))) fun _ => ?_
 refine sv tb rfl rfl rfl rfl (Zy ?_)
 refine kw (lz [0, 1, 3] (env' := [(_, _), (_, _), (_, _)]) rfl) ?_
 refine nx (Zf (fun a w h => Zj h 0 rfl) fun hl1 => Zf (fun a w h => Zj h 2 rfl) fun hl2 => Zi (fun a w h => Zh (m := 0) rfl (Zl h) rfl (congrArg (fun z => AV.rd (Z4 z)) (show (f.hyps.filter fun x' => !(fun x' : Hy => x'.floating) x') = (ZZ f.hyps) from rfl))))
theorem ZkX {J : World → Prop} (hJ : Stab J) (xs : List Hy) (ys : List Hy)  : Fn Tryz.prog J 96 [.rd (Z4 xs), .rd (Z4 ys)] (.int ((Zae (xs.map Hy.label) (ys.map Hy.label) : Nat) : Int)) := by
 refine Zx (N := 32) Tryz.func96 rfl rfl (lb rfl) fun S w0 hS hJ0 => ?_
 clear hJ0
 refine Zf (fun a w h => Zj h 0 rfl) fun hl1 => Zf (fun a w h => Zj h 1 rfl) fun hl2 => Za (rg tb hJ [0, 1] [_] [] [(_, _), (_, _)] rfl rfl rfl rfl trivial (nx (Za (rg tb hJ [0, 1, 1000] [_] [] [(_, _), (_, _), (_, .int (0 : Int))] rfl rfl rfl rfl trivial (nx (Za (Ze (Zw (ι := Nat) (fun (k : Nat) a w => ((k ≤ xs.length) ∧ (k ≤ ys.length) ∧ (∀ j, j < k → (ge xs j).label = (ge ys j).label)) ∧ St All S w0 32 [(0, .rd (Z4 xs)), (1, .rd (Z4 ys)), (5, .int k)] J a w) (fun (k : Nat) => (xs.length - k : Nat)) ?_ ?_))))))))
 intro a w h
 exact ⟨0, (show (0 ≤ xs.length) ∧ (0 ≤ ys.length) ∧ (∀ j, j < 0 → (ge xs j).label = (ge ys j).label) from ⟨Nat.zero_le _, Nat.zero_le _, fun j hj => by omega⟩), lz [0, 1, 2] rfl h⟩
 rintro k
 refine ZD fun hF => ?_
 obtain ⟨f1_1, f1_2, f1_3⟩ := hF
 refine Za (Za (rg tb hJ [0, 1, 2, 1022] [_, _, .int xs.length, _, _, _, _, .int ys.length, _, _, _, _, _, .ptr (hyC (ge xs k)), _, _, _, _, .ptr (hyC (ge ys k)), _, _, _, _] [2, 7, 13, 18] [(_, _), (_, _), (_, _), (_, .bool (((decide ((k : Int) < (xs.length : Int))) && (decide ((k : Int) < (ys.length : Int)))) && (decide (((ge xs k).label) = ((ge ys k).label)))))] rfl rfl rfl rfl ⟨Ys ZC rfl rfl rfl rfl, fun _ _ _ hx hl hc => Yy ZC rfl (hl.dep 6 12 _ rfl rfl rfl hc) hx, fun _ _ _ hx hl hc => ZI (i := (k : Int)) Zt rfl (hl.dep 11 17 _ rfl rfl rfl hc) (hl.dep 12 18 _ rfl rfl rfl hc) (Int.natCast_nonneg _) (ZL (xs := xs) (k := k) (by have hc' : (((decide ((k : Int) < (xs.length : Int))) && (decide ((k : Int) < (ys.length : Int)))) == true) = true := hc; (try simp at hc'); (first | omega | (simp; omega) | grind [Zb]))) rfl hx, fun _ _ _ hx hl hc => ZI (i := (k : Int)) Zt rfl (hl.dep 16 22 _ rfl rfl rfl hc) (hl.dep 17 23 _ rfl rfl rfl hc) (Int.natCast_nonneg _) (ZL (xs := ys) (k := k) (by have hc' : (((decide ((k : Int) < (xs.length : Int))) && (decide ((k : Int) < (ys.length : Int)))) == true) = true := hc; (try simp at hc'); (first | omega | (simp; omega) | grind [Zb]))) rfl hx, trivial⟩ (nx (tc 3 rfl rfl (fun hb1 => ?_) (fun hb1 => ?_)))))
 try simp at hb1
 refine Zd (nx (Ze (rg tb hJ [0, 1, 1002] [_, .int ((k + 1 : Nat) : Int), _] [1] [(_, _), (_, _), (_, .int ((k + 1 : Nat) : Int))] rfl rfl rfl rfl ⟨Yc (by first | omega | (simp; omega) | grind [Zb]) rfl rfl rfl rfl rfl, trivial⟩ ?_)))
 intro a w h; change ∃ j, _ ∧ _
 exact ⟨k + 1, ⟨⟨(show (k + 1) ≤ xs.length from by omega), (show (k + 1) ≤ ys.length from by omega), (show ∀ j, j < (k + 1) → (ge xs j).label = (ge ys j).label from ZW f1_3 (by simp_all))⟩, lz [0, 1, 2] rfl h⟩, (show xs.length - (k + 1) < xs.length - k from by first | omega | (simp; omega))⟩
 try simp at hb1
 refine Zv (nx (Za (rg tb hJ [1001] [_, _] [] [(_, .int k)] rfl rfl rfl rfl trivial (nx (Zi (fun a w h => Zh (m := 0) rfl h rfl (congrArg AV.int (show (k : Int) = ((Zae (xs.map Hy.label) (ys.map Hy.label) : Nat) : Int) from by exact congrArg _ (Zf3 (xs.map Hy.label) (ys.map Hy.label) k (by simpa using f1_1) (by simpa using f1_2) (fun j hj => by rw [Zg1 (by omega), Zg1 (by omega)]; exact f1_3 j hj) (by rw [List.length_map, List.length_map]; rintro ⟨h1, h2, h3⟩; rw [Zg1 h1, Zg1 h2] at h3; simp_all))))))))))
theorem ZkW {J : World → Prop} (hJ : Stab J) (y : Hy) (b : y.text.length * 16 ≤ 140737488351232) : Fn Tryz.prog J 99 [.agg (hyC y)] (.agg (hyC y)) := by
 refine Zx (N := 8) Tryz.func99 rfl rfl (lb rfl) fun S w0 hS hJ0 => ?_
 refine tw Yi ?_
 refine Za (Zn (ZiA (cs := [.lit (.string y.label), .lit (.bool y.floating), Zg y.text]) hJ rfl rfl rfl (lb rfl) (fun a w h => (h.get 0 rfl)) fun b1 => ?_))
 refine Y9 Xv hJ rfl rfl rfl (lb rfl) fun b2 => ?_
 refine Zy ?_
 refine kw (lz [0, 1] (env' := [(_, _), (_, _)]) rfl) ?_
 refine nx (Za (Zn (sq (.at b1 2) rfl rfl (lb rfl) (fun _ _ h => ZaU QN rfl (h.get 1 rfl) h.x) (sq (.rd (Zg y.text)) rfl rfl (lb rfl) (fun _ _ h => XU (cs := [.lit (.string y.label), .lit (.bool y.floating), Zg y.text]) Zdm rfl (ZA h.x (mo 1 rfl)) (h.get 0 rfl) rfl h.x) (Zat (O := []) (R := [OB.var b2 [.lit (.string (⟨#[]⟩ : ByteArray)), .lit (.bool false), Zg ([] : List ByteArray)], OB.var b1 [.lit (.string y.label), .lit (.bool y.floating), Zg y.text]]) (Zk5 hJ (xs := y.text) (by first | omega | (simp; omega) | grind [Zb])) Zl5 rfl rfl rfl (lb rfl) hS hJ0 ZP (fun a w h => (Zc (h.get 0 rfl) Zm)) fun z3 => ?_)))))
 refine sq (.at b1 2) rfl rfl (lb rfl) (fun _ _ h => ZaU QN rfl (h.get 4 rfl) h.x) ?_
 refine kw pm2 ?_
 refine kw pm1 ?_
 refine kw (fun h => ZO hS h (m := 1) (s := 5) rfl) ?_
 refine Qa (b := b1) (off := 2) (cs := [.lit (.string y.label), .lit (.bool y.floating), Zg y.text]) (es := [.lit (.string y.label), .lit (.bool y.floating), Zg y.text]) hJ hJ0 ZiG rfl rfl rfl (lb rfl) rfl (fun a w h => ⟨(h.get 1 rfl), (h.get 0 rfl)⟩) (Zy ?_)
 refine kw (lz [0, 2, 4, 5] (env' := [(_, _), (_, _), (_, _), (_, _)]) rfl) ?_
 refine nx (Zf (fun a w h => Zj h 0 rfl) fun hl1 => Za (Zn (sq (.agg [.lit (.string y.label), .lit (.bool y.floating), Zg y.text]) rfl rfl (lb rfl) (fun _ _ h => ZgD (cs := [.lit (.string y.label), .lit (.bool y.floating), Zg y.text]) (ds := [.lit (.string y.label), .lit (.bool y.floating), Zg y.text]) Zbe rfl (ZA h.x (mo 0 rfl)) (h.get 3 rfl) rfl rfl h.x) ?_)))
 refine kw pm1 ?_
 refine Y2 (b := b2) (off := 0) (cs := [.lit (.string (⟨#[]⟩ : ByteArray)), .lit (.bool false), Zg ([] : List ByteArray)]) (es := [.lit (.string y.label), .lit (.bool y.floating), Zg y.text]) (news := [.lit (.string y.label), .lit (.bool y.floating), Zg y.text]) hJ hJ0 XN rfl rfl rfl (lb rfl) rfl (fun a w h => ⟨(h.get 3 rfl), (h.get 0 rfl)⟩) (Zy ?_)
 refine kw (lz [3] (env' := [(_, _)]) rfl) ?_
 refine nx (Zi (fun a w h => ZgX (cs := [.lit (.string y.label), .lit (.bool y.floating), Zg y.text]) (m := 0) rfl Zbe h rfl rfl rfl))
theorem ZmS {J : World → Prop} (hJ : Stab J) (M1 : Nat) (M2 : Nat) (M3 : Nat) (M4 : Nat) (M5 : Nat) (cs : List ByteArray) (vs : List ByteArray) (l : List ByteArray)  : FnR Tryz.prog J 91 [OB.set keyS M1 cs, OB.set keyS M2 vs] [.ptr [.lit (.map (some M1)), .lit (.map (some M2)), .lit (.map (some M3)), .lit (.map (some M4)), .lit (.map (some M5))], .rd (Zg l)] (.int (ZbP cs vs l)) := by
 refine Yp (N := 30) Tryz.func91 rfl rfl (lb rfl) fun S w0 hS hJ0 hH => ?_
 clear hJ0
 refine Zf (fun a w h => Zj h 1 rfl) fun hl1 => Za (rg tb hJ [1, 1000] [_, _] [0] [(_, _), (_, .ptr [.ptr [.lit (.map (some M1)), .lit (.map (some M2)), .lit (.map (some M3)), .lit (.map (some M4)), .lit (.map (some M5))]])] rfl rfl rfl rfl ⟨fun _ _ hk hx hl _ => ZiQ rfl (hl.env 0 0 _ rfl rfl) (hS _ hk.size) (js hJ hx), trivial⟩ (nx (Za (Ze (Za (rg tb hJ [0, 1, 1008] [_, .int l.length, _, _, _, .int l.length, _, _, _] [1, 5] [(_, _), (_, _), (_, .bool ((decide ((l.length : Int) = (0 : Int))) || (decide ((200 : Int) < (l.length : Int)))))] rfl rfl rfl rfl ⟨Ys ZB rfl rfl rfl rfl, fun _ _ _ hx hl hc => Yy ZB rfl (hl.dep 4 10 _ rfl rfl rfl hc) hx, trivial⟩ (nx (tc 2 rfl rfl (fun hb1 => ?_) (fun hb1 => ?_)))))))))
 refine Za (rg tb hJ [1000] [_] [] [(_, .int (2 : Int))] rfl rfl rfl rfl trivial (nx (Zi (fun a w h => Zh (m := 0) rfl h rfl (congrArg AV.int (show (2 : Int) = (ZbP cs vs l) from by clear h; grind [ZbP]))))))
 refine Za (rg tb hJ [1015] [_, _, _, _, _, .ptr [.lit (.string (ge l 0))], _, .bool (decide ((ge l 0) ∈ cs)), _, _, _, .rd (Zg (l.drop 1)), .fn 123 [.ptr [.ptr [.lit (.map (some M1)), .lit (.map (some M2)), .lit (.map (some M3)), .lit (.map (some M4)), .lit (.map (some M5))]]], .bool ((l.drop 1).any (fun s => !(decide (s ∈ cs) || decide (s ∈ vs)))), _, _] [5, 7, 11, 12, 13] [(_, .bool ((!(decide ((ge l 0) ∈ cs))) || ((l.drop 1).any (fun s => !(decide (s ∈ cs) || decide (s ∈ vs))))))] rfl rfl rfl rfl ⟨hIx (k := 0) Zk (by first | omega | (simp; omega) | grind [Zb]) rfl rfl rfl rfl rfl rfl, fun _ _ hk hx hl _ => Yo (Kd := keyS) (xs := cs) ZU ZY (ge l 0) rfl (YP hH hk (mo 0 rfl)) (hl.dep 3 18 _ rfl rfl rfl rfl) (hl.dep 6 21 _ rfl rfl rfl rfl) hx, fun _ _ _ hx hl hc => Xb (ys := l.drop 1) (lo := 1) (hi := l.length) (by rw [List.take_length]) Zk (fun _ => rfl) rfl (hl.dep 10 25 _ rfl rfl rfl hc) (Rel.of_lit (Go.Value.int Go.IntKind.i64 1)) rfl (by have hc' : ((!(decide ((ge l 0) ∈ cs))) == false) = true := hc; (try simp at hc'); (first | omega | (simp; omega) | grind [Zb])) (by have hc' : ((!(decide ((ge l 0) ∈ cs))) == false) = true := hc; (try simp at hc'); (first | omega | (simp; omega) | grind [Zb])) hx, fun _ _ _ hx hl _ => Zai (caps := [(Go.Operand.tmp 2)]) rfl (Zc (hl.env 1 2 _ rfl rfl) Zm) hx, fun _ _ hk hx hl hc => X1 (XB hJ (xs := (l.drop 1)) (f := 123) (caps := [.ptr [.ptr [.lit (.map (some M1)), .lit (.map (some M2)), .lit (.map (some M3)), .lit (.map (some M4)), .lit (.map (some M5))]]]) (Os := [OB.set keyS M1 cs, OB.set keyS M2 vs]) (p := (fun s => !(decide (s ∈ cs) || decide (s ∈ vs)))) (fun q' => Znu hJ M1 M2 M3 M4 M5 cs vs q') (Zmd)) Zd4 rfl (nm hS hk) (hx) (Z0 (YP hH hk (mo 0 rfl)) (Z0 (YP hH hk (mo 1 rfl)) ZP)) (Zc (hl.dep 11 26 _ rfl rfl rfl hc) (Zc (hl.dep 12 27 _ rfl rfl rfl hc) Zm)) (js hJ hx), trivial⟩ (nx (tc 0 rfl rfl (fun hb2 => ?_) (fun hb2 => ?_))))
 refine Za (rg tb hJ [1000] [_] [] [(_, .int (12 : Int))] rfl rfl rfl rfl trivial (nx (Zi (fun a w h => Zh (m := 0) rfl h rfl (congrArg AV.int (show (12 : Int) = (ZbP cs vs l) from by clear h; grind [ZbP]))))))
 refine Zd (nx (Za (rg tb hJ [1000] [_] [] [(_, .int (0 : Int))] rfl rfl rfl rfl trivial (nx (Zi (fun a w h => Zh (m := 0) rfl h rfl (congrArg AV.int (show (0 : Int) = (ZbP cs vs l) from by clear h; grind [ZbP]))))))))
end Go.Proofs.YtnpgmdffjemnbaaGreatDoor
set_option maxHeartbeats 8000000
set_option maxRecDepth 100000
namespace Go.Proofs.YtnpgmdffjemnbaaGreatDoor
open Go.RowKit

theorem Zi3 {J : World → Prop} (hJ : Stab J)   : Fn Tryz.prog J 152 [] (.agg (clsL.map u8D)) := by
 refine Zx (N := 78) Tryz.func152 rfl rfl (lb rfl) fun S w0 hS hJ0 => ?_
 refine tw Yi ?_
 refine Za (Zn (Y9 ZaN hJ rfl rfl rfl (lb rfl) fun b1 => ?_))
 refine Zy (nx (Za (Za (rgo tb hJ [0, 1000] [_] [] [(_, _), (_, .int (0 : Int))] rfl rfl rfl rfl trivial (nx (Ze (Zw (ι := Nat × (List UInt8)) (fun (ii' : Nat × (List UInt8)) a w => match ii' with | (k, xs) => ((k ≤ 256) ∧ (xs.length = 256) ∧ (∀ j, j < k → ge xs j = ZaH (UInt8.ofNat j)) ∧ (∀ j, k ≤ j → j < 256 → ge xs j = 0)) ∧ St All (SO S [OB.var b1 (xs.map u8D)]) w0 78 [(0, .at b1 0), (3, .int k)] (XO J S w0.heap.size [OB.var b1 (xs.map u8D)]) a w) (fun (ii' : Nat × (List UInt8)) => match ii' with | (k, _) => (256 - k : Nat)) ?_ ?_)))))))
 ·
  intro a w h
  exact ⟨(0, (List.replicate 256 (0 : UInt8))), (show (0 ≤ 256) ∧ ((List.replicate 256 (0 : UInt8)).length = 256) ∧ (∀ j, j < 0 → ge (List.replicate 256 (0 : UInt8)) j = ZaH (UInt8.ofNat j)) ∧ (∀ j, 0 ≤ j → j < 256 → ge (List.replicate 256 (0 : UInt8)) j = 0) from ⟨Nat.zero_le _, by simp, fun j hj => by omega, fun j _ h => by rw [XR (by simpa using h)]; exact List.getElem_replicate _⟩), lz [0, 1] rfl h⟩
 ·
  rintro ⟨k, xs⟩
  refine ZD fun hF => ?_
  obtain ⟨f1_1, f1_2, f1_3, f1_4⟩ := hF
  refine Za (rgo tb hJ [0, 1, 1000] [_] [] [(_, _), (_, _), (_, .bool (decide ((k : Int) < (256 : Int))))] rfl rfl rfl rfl trivial (nx (Za (tc 2 rfl rfl (fun hb1 => ?_) (fun hb1 => ?_)))))
  ·
   try simp at hb1
   refine Zd (nx (Za (Ze (Za (rgo tb hJ [0, 1, 1001] [_, _] [] [(_, _), (_, _), (_, .int k)] rfl rfl rfl rfl trivial (nx (Za (rgo tb hJ [0, 1, 2, 1002] [_, .rd (.lit (.int .u8 ((UInt8.ofNat k).toNat : Int))), _] [1] [(_, _), (_, _), (_, _), (_, .rd (.lit (.int .u8 ((UInt8.ofNat k).toNat : Int))))] rfl rfl rfl rfl ⟨fun _ _ _ hx hl _ => ZkL (k := k) Zc8 Ziu rfl (hl.dep 0 6 _ rfl rfl rfl rfl) (by first | omega | (simp; omega) | grind [Zb]) hx, trivial⟩ (nx (Ze (Za (rgo tb hJ [0, 1, 2, 3, 1014] [_, _, _, _, _, _, _, _, _, _, _, _, _, _, _] [] [(_, _), (_, _), (_, _), (_, _), (_, .bool ((decide (((UInt8.ofNat k).toNat : Int) = (32 : Int))) || (((decide ((9 : Int) ≤ ((UInt8.ofNat k).toNat : Int))) && (decide (((UInt8.ofNat k).toNat : Int) ≤ (13 : Int)))) && (!decide (((UInt8.ofNat k).toNat : Int) = (11 : Int))))))] rfl rfl rfl rfl trivial ?_))))))))))))
   refine nx (tc 4 rfl rfl (fun hb2 => ?_) (fun hb2 => ?_))
   ·
    replace hb2 : c2B (UInt8.ofNat k) = true := hb2
    refine Zn (sv tb rfl rfl rfl rfl (sq (.at b1 k) rfl rfl (lb rfl) (fun _ _ h => Q3 (i := k) Xm rfl (h.get 1 rfl) (h.get 0 rfl) (by first | omega | (simp; omega) | grind [Zb]) h.x) (Qa (b := b1) (off := k) (c := u8D (1 : UInt8)) hJ hJ0 ZbR rfl rfl rfl (by rw [List.length_map]; exact (by first | omega | (simp; omega) | grind [Zb])) (Zeg (by first | omega | (simp; omega) | grind [Zb])) (fun a w h => ⟨(h.get 0 rfl), (Rel.of_lit (Go.Value.int Go.IntKind.u8 1))⟩) (Zy ?_))))
    refine kw (lz [2, 3] (env' := [(_, _), (_, _)]) rfl) ?_
    refine nx (rgo tb hJ [0, 1001] [.int ((k + 1 : Nat) : Int), _] [0] [(_, _), (_, .int ((k + 1 : Nat) : Int))] rfl rfl rfl rfl ⟨Yc (by first | omega | (simp; omega) | grind [Zb]) rfl rfl rfl rfl rfl, trivial⟩ ?_)
    intro a w h; change ∃ j, _ ∧ _
    exact ⟨(k + 1, xs.set k (1 : UInt8)), ⟨⟨(show (k + 1) ≤ 256 from by omega), (show (xs.set k (1 : UInt8)).length = 256 from by rw [List.length_set]; exact f1_2), (show ∀ j, j < (k + 1) → ge (xs.set k (1 : UInt8)) j = ZaH (UInt8.ofNat j) from ZbW f1_2 (by omega) f1_3 (by simp [ZaH, hb2])), (show ∀ j, (k + 1) ≤ j → j < 256 → ge (xs.set k (1 : UInt8)) j = 0 from ZbX f1_2 (by omega) f1_4)⟩, lz [0, 1] rfl h⟩, (show 256 - (k + 1) < 256 - k from by first | omega | (simp; omega))⟩
   ·
    replace hb2 : c2B (UInt8.ofNat k) = false := hb2
    refine Za (rgo tb hJ [0, 1, 2, 3, 1002] [_, _, _] [] [(_, _), (_, _), (_, _), (_, _), (_, .bool (decide (((UInt8.ofNat k).toNat : Int) = (36 : Int))))] rfl rfl rfl rfl trivial (nx (tc 4 rfl rfl (fun hb3 => ?_) (fun hb3 => ?_))))
    ·
     replace hb3 : c3B (UInt8.ofNat k) = true := hb3
     refine Zn (sv tb rfl rfl rfl rfl (sq (.at b1 k) rfl rfl (lb rfl) (fun _ _ h => Q3 (i := k) Xm rfl (h.get 1 rfl) (h.get 0 rfl) (by first | omega | (simp; omega) | grind [Zb]) h.x) (Qa (b := b1) (off := k) (c := u8D (4 : UInt8)) hJ hJ0 ZbR rfl rfl rfl (by rw [List.length_map]; exact (by first | omega | (simp; omega) | grind [Zb])) (Zeg (by first | omega | (simp; omega) | grind [Zb])) (fun a w h => ⟨(h.get 0 rfl), (Rel.of_lit (Go.Value.int Go.IntKind.u8 4))⟩) (Zy ?_))))
     refine kw (lz [2, 3] (env' := [(_, _), (_, _)]) rfl) ?_
     refine nx (rgo tb hJ [0, 1001] [.int ((k + 1 : Nat) : Int), _] [0] [(_, _), (_, .int ((k + 1 : Nat) : Int))] rfl rfl rfl rfl ⟨Yc (by first | omega | (simp; omega) | grind [Zb]) rfl rfl rfl rfl rfl, trivial⟩ ?_)
     intro a w h; change ∃ j, _ ∧ _
     exact ⟨(k + 1, xs.set k (4 : UInt8)), ⟨⟨(show (k + 1) ≤ 256 from by omega), (show (xs.set k (4 : UInt8)).length = 256 from by rw [List.length_set]; exact f1_2), (show ∀ j, j < (k + 1) → ge (xs.set k (4 : UInt8)) j = ZaH (UInt8.ofNat j) from ZbW f1_2 (by omega) f1_3 (by simp [ZaH, hb2, hb3])), (show ∀ j, (k + 1) ≤ j → j < 256 → ge (xs.set k (4 : UInt8)) j = 0 from ZbX f1_2 (by omega) f1_4)⟩, lz [0, 1] rfl h⟩, (show 256 - (k + 1) < 256 - k from by first | omega | (simp; omega))⟩
    ·
     replace hb3 : c3B (UInt8.ofNat k) = false := hb3
     refine Za (rgo tb hJ [0, 1, 2, 3, 1034] [_, _, _, _, _, _, _, _, _, _, _, _, _, _, _, _, _, _, _, _, _, _, _, _, _, _, _, _, _, _, _, _, _, _, _] [] [(_, _), (_, _), (_, _), (_, _), (_, .bool (((((((decide ((48 : Int) ≤ ((UInt8.ofNat k).toNat : Int))) && (decide (((UInt8.ofNat k).toNat : Int) ≤ (57 : Int)))) || ((decide ((65 : Int) ≤ ((UInt8.ofNat k).toNat : Int))) && (decide (((UInt8.ofNat k).toNat : Int) ≤ (90 : Int))))) || ((decide ((97 : Int) ≤ ((UInt8.ofNat k).toNat : Int))) && (decide (((UInt8.ofNat k).toNat : Int) ≤ (122 : Int))))) || (decide (((UInt8.ofNat k).toNat : Int) = (45 : Int)))) || (decide (((UInt8.ofNat k).toNat : Int) = (95 : Int)))) || (decide (((UInt8.ofNat k).toNat : Int) = (46 : Int)))))] rfl rfl rfl rfl trivial (nx (tc 4 rfl rfl (fun hb4 => ?_) (fun hb4 => ?_))))
     ·
      replace hb4 : c4B (UInt8.ofNat k) = true := hb4
      refine Zn (sv tb rfl rfl rfl rfl (sq (.at b1 k) rfl rfl (lb rfl) (fun _ _ h => Q3 (i := k) Xm rfl (h.get 1 rfl) (h.get 0 rfl) (by first | omega | (simp; omega) | grind [Zb]) h.x) (Qa (b := b1) (off := k) (c := u8D (2 : UInt8)) hJ hJ0 ZbR rfl rfl rfl (by rw [List.length_map]; exact (by first | omega | (simp; omega) | grind [Zb])) (Zeg (by first | omega | (simp; omega) | grind [Zb])) (fun a w h => ⟨(h.get 0 rfl), (Rel.of_lit (Go.Value.int Go.IntKind.u8 2))⟩) (Zy ?_))))
      refine kw (lz [2, 3] (env' := [(_, _), (_, _)]) rfl) ?_
      refine nx (rgo tb hJ [0, 1001] [.int ((k + 1 : Nat) : Int), _] [0] [(_, _), (_, .int ((k + 1 : Nat) : Int))] rfl rfl rfl rfl ⟨Yc (by first | omega | (simp; omega) | grind [Zb]) rfl rfl rfl rfl rfl, trivial⟩ ?_)
      intro a w h; change ∃ j, _ ∧ _
      exact ⟨(k + 1, xs.set k (2 : UInt8)), ⟨⟨(show (k + 1) ≤ 256 from by omega), (show (xs.set k (2 : UInt8)).length = 256 from by rw [List.length_set]; exact f1_2), (show ∀ j, j < (k + 1) → ge (xs.set k (2 : UInt8)) j = ZaH (UInt8.ofNat j) from ZbW f1_2 (by omega) f1_3 (by simp [ZaH, hb2, hb3, hb4])), (show ∀ j, (k + 1) ≤ j → j < 256 → ge (xs.set k (2 : UInt8)) j = 0 from ZbX f1_2 (by omega) f1_4)⟩, lz [0, 1] rfl h⟩, (show 256 - (k + 1) < 256 - k from by first | omega | (simp; omega))⟩
     ·
      replace hb4 : c4B (UInt8.ofNat k) = false := hb4
      refine Za (rgo tb hJ [0, 1, 2, 1006] [_, _, _, _, _, _, _] [] [(_, _), (_, _), (_, _), (_, .bool ((decide ((32 : Int) < ((UInt8.ofNat k).toNat : Int))) && (decide (((UInt8.ofNat k).toNat : Int) ≤ (126 : Int)))))] rfl rfl rfl rfl trivial (nx (tc 3 rfl rfl (fun hb5 => ?_) (fun hb5 => ?_))))
      ·
       replace hb5 : c5B (UInt8.ofNat k) = true := hb5
       refine Zn (sv tb rfl rfl rfl rfl (sq (.at b1 k) rfl rfl (lb rfl) (fun _ _ h => Q3 (i := k) Xm rfl (h.get 1 rfl) (h.get 0 rfl) (by first | omega | (simp; omega) | grind [Zb]) h.x) (Qa (b := b1) (off := k) (c := u8D (3 : UInt8)) hJ hJ0 ZbR rfl rfl rfl (by rw [List.length_map]; exact (by first | omega | (simp; omega) | grind [Zb])) (Zeg (by first | omega | (simp; omega) | grind [Zb])) (fun a w h => ⟨(h.get 0 rfl), (Rel.of_lit (Go.Value.int Go.IntKind.u8 3))⟩) (Zy ?_))))
       refine kw (lz [2, 3] (env' := [(_, _), (_, _)]) rfl) ?_
       refine nx (rgo tb hJ [0, 1001] [.int ((k + 1 : Nat) : Int), _] [0] [(_, _), (_, .int ((k + 1 : Nat) : Int))] rfl rfl rfl rfl ⟨Yc (by first | omega | (simp; omega) | grind [Zb]) rfl rfl rfl rfl rfl, trivial⟩ ?_)
       intro a w h; change ∃ j, _ ∧ _
       exact ⟨(k + 1, xs.set k (3 : UInt8)), ⟨⟨(show (k + 1) ≤ 256 from by omega), (show (xs.set k (3 : UInt8)).length = 256 from by rw [List.length_set]; exact f1_2), (show ∀ j, j < (k + 1) → ge (xs.set k (3 : UInt8)) j = ZaH (UInt8.ofNat j) from ZbW f1_2 (by omega) f1_3 (by simp [ZaH, hb2, hb3, hb4, hb5])), (show ∀ j, (k + 1) ≤ j → j < 256 → ge (xs.set k (3 : UInt8)) j = 0 from ZbX f1_2 (by omega) f1_4)⟩, lz [0, 1] rfl h⟩, (show 256 - (k + 1) < 256 - k from by first | omega | (simp; omega))⟩
      ·
       replace hb5 : c5B (UInt8.ofNat k) = false := hb5
       refine Zd (nx (rgo tb hJ [0, 1001] [.int ((k + 1 : Nat) : Int), _] [0] [(_, _), (_, .int ((k + 1 : Nat) : Int))] rfl rfl rfl rfl ⟨Yc (by first | omega | (simp; omega) | grind [Zb]) rfl rfl rfl rfl rfl, trivial⟩ ?_))
       intro a w h; change ∃ j, _ ∧ _
       exact ⟨(k + 1, xs), ⟨⟨(show (k + 1) ≤ 256 from by omega), (show xs.length = 256 from f1_2), (show ∀ j, j < (k + 1) → ge xs j = ZaH (UInt8.ofNat j) from ZW f1_3 (by rw [f1_4 k (Nat.le_refl k) (by omega)]; simp [ZaH, hb2, hb3, hb4, hb5])), (show ∀ j, (k + 1) ≤ j → j < 256 → ge xs j = 0 from fun j h1 h2 => f1_4 j (by omega) h2)⟩, lz [0, 1] rfl h⟩, (show 256 - (k + 1) < 256 - k from by first | omega | (simp; omega))⟩
  ·
   try simp at hb1
   refine Zv (nx (Za (Zn (sq (.agg (xs.map u8D)) rfl rfl (lb rfl) (fun _ _ h => ZgD (cs := xs.map u8D) (ds := xs.map u8D) ZcO rfl (ZA h.x (mo 0 rfl)) (h.get 0 rfl) (by rw [List.drop_zero, List.take_of_length_le (by rw [List.length_map]; omega)]) (by rw [List.length_map]; omega) h.x) (Y2 (b := b1) (off := 0) (news := xs.map u8D) hJ hJ0 (by rw [List.length_map, show xs.length = 256 from (f1_2)]; exact ZbA) rfl rfl rfl (by simp only [List.length_map]; exact (by omega)) (Zj9 (by rw [List.length_map] <;> exact (rfl))) (fun a w h => ⟨(h.get 1 rfl), (h.get 0 rfl)⟩) (Zy ?_))))))
   refine kw (lz [1] (env' := [(_, _)]) rfl) ?_
   refine nx (Zi (fun a w h => ZgX (cs := xs.map u8D) (m := 0) rfl ZcO h rfl (by rw [List.length_map]; exact (f1_2)) (congrArg (fun z' : List UInt8 => z'.map u8D) (show xs = clsL from Zn1 f1_2 fun j hj => f1_3 j (by omega)))))

theorem Zk1 {J : World → Prop} (hJ : Stab J) (xs : List UInt8) (c : UInt8)  : Fn Tryz.prog J 172 [.rd (Znc xs), .rd (.lit (.int .u8 (c.toNat : Int)))] (.int (YD (fun x' : UInt8 => decide (((c).toNat : Int) = ((x').toNat : Int))) xs)) := by
 refine Zx (N := 19) Tryz.func172 rfl rfl (lb rfl) fun S w0 hS hJ0 => ?_
 clear hJ0
 refine Zf (fun a w h => Zj h 0 rfl) fun hl1 => Za (rg tb hJ [0, 1] [_] [] [(_, _), (_, _)] rfl rfl rfl rfl trivial (nx (Za (Za (rg tb hJ [0, 1, 1001, 1002] [_, _, _] [1] [(_, _), (_, _), (_, .int xs.length), (_, .int (0 : Int))] rfl rfl rfl rfl ⟨Ys Zhu rfl rfl rfl rfl, trivial⟩ (nx (Ze (Zw (ι := Nat) (fun (k : Nat) a w => ((k ≤ xs.length) ∧ (∀ j, j < k → (fun x' : UInt8 => decide (((c).toNat : Int) = ((x').toNat : Int))) (ge xs j) = false)) ∧ St All S w0 19 [(0, .rd (Znc xs)), (1, .rd (.lit (.int .u8 (c.toNat : Int)))), (7, .int xs.length), (8, .int k)] J a w) (fun (k : Nat) => (xs.length - k : Nat)) ?_ ?_))))))))
 intro a w h
 exact ⟨0, (show (0 ≤ xs.length) ∧ (∀ j, j < 0 → (fun x' : UInt8 => decide (((c).toNat : Int) = ((x').toNat : Int))) (ge xs j) = false) from ⟨Nat.zero_le _, fun j hj => by omega⟩), lz [0, 1, 2, 3] rfl h⟩
 rintro k
 refine ZD fun hF => ?_
 obtain ⟨f1_1, f1_2⟩ := hF
 refine Za (rg tb hJ [0, 1, 2, 3, 1000] [_] [] [(_, _), (_, _), (_, _), (_, _), (_, .bool (decide ((k : Int) < (xs.length : Int))))] rfl rfl rfl rfl trivial (nx (Za (tc 4 rfl rfl (fun hb1 => ?_) (fun hb1 => ?_)))))
 try simp at hb1
 refine Zd (nx (Za (Ze (Za (rg tb hJ [0, 1, 2, 3, 1001] [_, _] [] [(_, _), (_, _), (_, _), (_, _), (_, .int k)] rfl rfl rfl rfl trivial (nx (Za (rg tb hJ [0, 1, 2, 3, 4, 1005] [_, _, _, .ptr [.lit (.int .u8 ((ge xs k).toNat : Int))], _, _] [3] [(_, _), (_, _), (_, _), (_, _), (_, _), (_, .bool (decide ((c.toNat : Int) = ((ge xs k).toNat : Int))))] rfl rfl rfl rfl ⟨hIx Zac (by first | omega | (simp; omega) | grind [Zb]) rfl rfl rfl rfl rfl rfl, trivial⟩ (nx (tc 5 rfl rfl (fun hb2 => ?_) (fun hb2 => ?_)))))))))))
 try simp at hb2
 refine Za (rg tb hJ [1001] [_, _] [] [(_, .int k)] rfl rfl rfl rfl trivial (nx (Zi (fun a w h => Zh (m := 0) rfl h rfl (congrArg AV.int (show (k : Int) = (YD (fun x' : UInt8 => decide (((c).toNat : Int) = ((x').toNat : Int))) xs) from by first | exact (Y1 (p := fun x' : UInt8 => decide (((c).toNat : Int) = ((x').toNat : Int))) hb1 (by simpa using hb2) f1_2).symm | exact (YJ (p := fun x' : UInt8 => decide (((c).toNat : Int) = ((x').toNat : Int))) fun j hj => f1_2 j (by omega)).symm))))))
 try simp at hb2
 refine Zd (nx (rg tb hJ [0, 1, 2, 1001] [.int ((k + 1 : Nat) : Int), _] [0] [(_, _), (_, _), (_, _), (_, .int ((k + 1 : Nat) : Int))] rfl rfl rfl rfl ⟨Yc (by first | omega | (simp; omega) | grind [Zb]) rfl rfl rfl rfl rfl, trivial⟩ ?_))
 intro a w h; change ∃ j, _ ∧ _
 exact ⟨k + 1, ⟨⟨(show (k + 1) ≤ xs.length from by omega), (show ∀ j, j < (k + 1) → (fun x' : UInt8 => decide (((c).toNat : Int) = ((x').toNat : Int))) (ge xs j) = false from ZW f1_2 (by simpa using hb2))⟩, lz [0, 1, 2, 3] rfl h⟩, (show xs.length - (k + 1) < xs.length - k from by first | omega | (simp; omega))⟩
 try simp at hb1
 refine Zv (nx (Za (rg tb hJ [1000] [_] [] [(_, .int (-1 : Int))] rfl rfl rfl rfl trivial (nx (Zi (fun a w h => Zh (m := 0) rfl h rfl (congrArg AV.int (show (-1 : Int) = (YD (fun x' : UInt8 => decide (((c).toNat : Int) = ((x').toNat : Int))) xs) from by first | exact (Y1 (p := fun x' : UInt8 => decide (((c).toNat : Int) = ((x').toNat : Int))) hb1 (by simpa using hb2) f1_2).symm | exact (YJ (p := fun x' : UInt8 => decide (((c).toNat : Int) = ((x').toNat : Int))) fun j hj => f1_2 j (by omega)).symm))))))))
theorem ZfK {J : World → Prop} (hJ : Stab J) (xs : List UInt8) (c : UInt8)  : Fn Tryz.prog J 153 [.rd (Znc xs), .rd (.lit (.int .u8 (c.toNat : Int)))] (.bool (decide (c ∈ xs))) := by
 refine Zx (N := 9) Tryz.func153 rfl rfl (lb rfl) fun S w0 hS hJ0 => ?_
 clear hJ0
 refine Zf (fun a w h => Zj h 0 rfl) fun hl1 => Za (rg tb hJ [0, 1] [_] [] [(_, _), (_, _)] rfl rfl rfl rfl trivial (nx (Za (rg tb hJ [1004] [_, _, .int (YD (fun x' : UInt8 => decide (((c).toNat : Int) = ((x').toNat : Int))) xs), _, _] [2] [(_, .bool (decide ((0 : Int) ≤ YD (fun x' : UInt8 => decide (((c).toNat : Int) = ((x').toNat : Int))) xs)))] rfl rfl rfl rfl ⟨hFn hS hJ (Zk1 hJ (xs := xs) (c := c) ) ZlN rfl rfl rfl rfl, trivial⟩ (nx (Zi (fun a w h => Zh (m := 0) rfl h rfl (congrArg AV.bool (show (decide ((0 : Int) ≤ YD (fun x' : UInt8 => decide (((c).toNat : Int) = ((x').toNat : Int))) xs)) = (decide (c ∈ xs)) from by rw [ZaZ, Zle])))))))))
theorem ZmT {J : World → Prop} (hJ : Stab J) (s : ByteArray) (bs : List UInt8)  : Fn Tryz.prog J 120 [.str s, .rd (Znc bs)] (.bool (Qd s bs)) := by
 refine Zx (N := 29) Tryz.func120 rfl rfl (lb rfl) fun S w0 hS hJ0 => ?_
 refine tw Yi ?_
 refine Zf (fun a w h => Zes h 0 rfl) fun hl1 => Zf (fun a w h => Zj h 1 rfl) fun hl2 => Za (rgo tb hJ [0, 1] [_] [] [(_, _), (_, _)] rfl rfl rfl rfl trivial (nx (Za (Za (rgo tb hJ [0, 1, 1006] [_, _, _, _, .int s.size, _, _] [4] [(_, _), (_, _), (_, .bool ((decide (s = (⟨#[]⟩ : ByteArray))) || (decide ((60 : Int) < (s.size : Int)))))] rfl rfl rfl rfl ⟨fun _ _ _ hx hl hc => ZbB Z6 rfl (hl.dep 3 10 _ rfl rfl rfl hc) hx, trivial⟩ (nx (tc 2 rfl rfl (fun hb1 => ?_) (fun hb1 => ?_))))))))
 refine Za (rgo tb hJ [1000] [_] [] [(_, .bool false)] rfl rfl rfl rfl trivial (nx (Zi (fun a w h => Zh (m := 0) rfl (Zl h) rfl (congrArg AV.bool (show false = (Qd s bs) from by first | (rw [Qd, if_pos hb1]; done) | (rw [Qd, if_neg (by rw [hb1]; decide)]; symm; exact X9 (p := fun c => decide (ZaH c ∈ bs)) hb2 (by simpa [Zd2] using hb3)) | (rw [Qd, if_neg (by rw [hb1]; decide)]; symm; exact Zdz fun j hj => f1_2 j (by omega))))))))
 refine Zd (nx (Za (Zn (sq (.agg (clsL.map u8D)) rfl rfl (lb rfl) (fun _ _ h => Qk (Zi3 hJ  ) ZlZ rfl (Zr hS _ h.keep h.x) (h.x.1) Zm (jo hJ h.x)) (Y9 ZaN hJ rfl rfl rfl (lb rfl) fun b1 => ?_)))))
 refine Y2 (b := b1) (off := 0) (news := clsL.map u8D) hJ hJ0 (by rw [List.length_map, show clsL.length = 256 from (QS)]; exact ZbA) rfl rfl rfl (by simp only [List.length_map]; exact (by rw [QS, List.length_replicate]; exact Nat.le_of_ble_eq_true rfl)) (Zj9 (by rw [List.length_map] <;> exact (by rw [QS, List.length_replicate]))) (fun a w h => ⟨(h.get 0 rfl), (h.get 1 rfl)⟩) (Zy ?_)
 refine kw (lz [0, 2, 3] (env' := [(_, _), (_, _), (_, _)]) rfl) ?_
 refine nx (Za (Za (rgo tb hJ [0, 1, 2, 1001, 1002] [_, _, _] [1] [(_, _), (_, _), (_, _), (_, .int s.size), (_, .int (0 : Int))] rfl rfl rfl rfl ⟨fun _ _ _ hx hl _ => ZbB Z6 rfl (hl.dep 0 15 _ rfl rfl rfl rfl) hx, trivial⟩ (nx (Ze (Zw (ι := Nat) (fun (k : Nat) a w => ((k ≤ s.size) ∧ (∀ j, j < k → decide (ZaH (bt s j) ∈ bs) = true)) ∧ St All (SO S [OB.var b1 (clsL.map u8D)]) w0 29 [(5, .at b1 0), (0, .str s), (1, .rd (Znc bs)), (16, .int s.size), (17, .int k)] (XO J S w0.heap.size [OB.var b1 (clsL.map u8D)]) a w) (fun (k : Nat) => (s.size - k : Nat)) ?_ ?_))))))
 intro a w h
 exact ⟨0, (show (0 ≤ s.size) ∧ (∀ j, j < 0 → decide (ZaH (bt s j) ∈ bs) = true) from ⟨Nat.zero_le _, fun j hj => by omega⟩), lz [0, 1, 2, 3, 4] rfl h⟩
 rintro k
 refine ZD fun hF => ?_
 obtain ⟨f1_1, f1_2⟩ := hF
 refine Za (rgo tb hJ [0, 1, 2, 3, 4, 1000] [_] [] [(_, _), (_, _), (_, _), (_, _), (_, _), (_, .bool (decide ((k : Int) < (s.size : Int))))] rfl rfl rfl rfl trivial (nx (Za (tc 5 rfl rfl (fun hb2 => ?_) (fun hb2 => ?_)))))
 try simp at hb2
 refine Zd (nx (Za (Ze (Za (rgo tb hJ [0, 1, 2, 3, 4, 1001] [_, _] [] [(_, _), (_, _), (_, _), (_, _), (_, _), (_, .int k)] rfl rfl rfl rfl trivial (nx (Za (rgo tb hJ [0, 1, 2, 3, 4, 1007] [_, _, _, .rd (.lit (.int .u8 ((ge s.data.toList k).toNat : Int))), .at b1 ((ge s.data.toList k).toNat), .rd (.lit (.int .u8 ((ge clsL (ge s.data.toList k).toNat).toNat : Int))), .bool (decide ((ge clsL (ge s.data.toList k).toNat) ∈ bs)), _] [3, 4, 5, 6] [(_, _), (_, _), (_, _), (_, _), (_, _), (_, .bool (!(decide ((ge clsL (ge s.data.toList k).toNat) ∈ bs))))] rfl rfl rfl rfl ⟨fun _ _ _ hx hl _ => ZeE (i := (k : Int)) Z6 rfl (hl.dep 1 21 _ rfl rfl rfl rfl) (hl.dep 2 22 _ rfl rfl rfl rfl) (Int.natCast_nonneg _) (Zbc (s := s) (k := k) (by first | omega | (simp; omega) | grind [Zb])) hx, fun _ _ _ hx hl _ => Q3 (i := (ge s.data.toList k).toNat) Xm rfl (hl.env 0 5 _ rfl rfl) (hl.dep 3 23 _ rfl rfl rfl rfl) (UInt8.toNat_lt _) hx, fun _ _ _ hx hl _ => XU (cs := clsL.map u8D) one_5 rfl (ZA hx (mo 0 rfl)) (hl.dep 4 24 _ rfl rfl rfl rfl) (ZoC (by rw [QS]; exact UInt8.toNat_lt _)) hx, hFo hS hJ (ZfK hJ (xs := bs) (c := (ge clsL (ge s.data.toList k).toNat)) ) ZlY rfl rfl rfl rfl, trivial⟩ (nx (tc 5 rfl rfl (fun hb3 => ?_) (fun hb3 => ?_)))))))))))
 try simp at hb3
 refine Za (rgo tb hJ [1000] [_] [] [(_, .bool false)] rfl rfl rfl rfl trivial (nx (Zi (fun a w h => Zh (m := 0) rfl (Zl h) rfl (congrArg AV.bool (show false = (Qd s bs) from by first | (rw [Qd, if_pos hb1]; done) | (rw [Qd, if_neg (by rw [hb1]; decide)]; symm; exact X9 (p := fun c => decide (ZaH c ∈ bs)) hb2 (by simpa [Zd2] using hb3)) | (rw [Qd, if_neg (by rw [hb1]; decide)]; symm; exact Zdz fun j hj => f1_2 j (by omega))))))))
 try simp at hb3
 refine Zd (nx (rgo tb hJ [0, 1, 2, 3, 1001] [.int ((k + 1 : Nat) : Int), _] [0] [(_, _), (_, _), (_, _), (_, _), (_, .int ((k + 1 : Nat) : Int))] rfl rfl rfl rfl ⟨Yc (by first | omega | (simp; omega) | grind [Zb]) rfl rfl rfl rfl rfl, trivial⟩ ?_))
 intro a w h; change ∃ j, _ ∧ _
 exact ⟨k + 1, ⟨⟨(show (k + 1) ≤ s.size from by omega), (show ∀ j, j < (k + 1) → decide (ZaH (bt s j) ∈ bs) = true from ZW f1_2 (by simpa [Zd2] using hb3))⟩, lz [0, 1, 2, 3, 4] rfl h⟩, (show s.size - (k + 1) < s.size - k from by first | omega | (simp; omega))⟩
 try simp at hb2
 refine Zv (nx (Za (rgo tb hJ [1000] [_] [] [(_, .bool true)] rfl rfl rfl rfl trivial (nx (Zi (fun a w h => Zh (m := 0) rfl (Zl h) rfl (congrArg AV.bool (show true = (Qd s bs) from by first | (rw [Qd, if_pos hb1]; done) | (rw [Qd, if_neg (by rw [hb1]; decide)]; symm; exact X9 (p := fun c => decide (ZaH c ∈ bs)) hb2 (by simpa [Zd2] using hb3)) | (rw [Qd, if_neg (by rw [hb1]; decide)]; symm; exact Zdz fun j hj => f1_2 j (by omega))))))))))
theorem Zci {J : World → Prop} (hJ : Stab J) (s : ByteArray)  : Fn Tryz.prog J 88 [.str s] (.bool (Q8 s)) := by
 refine Zx (N := 6) Tryz.func88 rfl rfl (lb rfl) fun S w0 hS hJ0 => ?_
 clear hJ0
 refine Za (rg tb hJ [0] [_] [] [(_, _)] rfl rfl rfl rfl trivial (nx (Za (rg tb hJ [1001, 1003] [_, _, .bool (Qd s ([(2 : UInt8)])), _] [1, 2] [(_, .rd (Znc ([(2 : UInt8)]))), (_, .bool (Qd s ([(2 : UInt8)])))] rfl rfl rfl rfl ⟨fun _ _ hk hx _ _ => ZV Zac zero_5 rfl (Rel.of_lit (Go.Value.int Go.IntKind.u8 2)) (hS _ hk.size) (js hJ hx), hFn hS hJ (ZmT hJ (s := s) (bs := ([(2 : UInt8)])) ) Zhj rfl rfl rfl rfl, trivial⟩ (nx (Zf (fun a w h => Zj h 0 rfl) fun hl1 => Zi (fun a w h => Zh (m := 1) rfl h rfl (congrArg AV.bool (show (Qd s ([(2 : UInt8)])) = (Q8 s) from Zi5 s)))))))))
theorem Zbs {J : World → Prop} (hJ : Stab J) (s : ByteArray)  : Fn Tryz.prog J 86 [.str s] (.bool (Zbh s)) := by
 refine Zx (N := 6) Tryz.func86 rfl rfl (lb rfl) fun S w0 hS hJ0 => ?_
 clear hJ0
 refine Za (rg tb hJ [0] [_] [] [(_, _)] rfl rfl rfl rfl trivial (nx (Za (rg tb hJ [1001, 1003] [_, _, .bool (Qd s ([2, 3] : List UInt8)), _] [1, 2] [(_, .rd (Znc ([2, 3] : List UInt8))), (_, .bool (Qd s ([2, 3] : List UInt8)))] rfl rfl rfl rfl ⟨fun a _ hk hx _ _ => X6 (k := 2) (us := [a.eval (Go.Operand.const (Go.Value.int Go.IntKind.u8 2)), a.eval (Go.Operand.const (Go.Value.int Go.IntKind.u8 3))]) Zac Zii rfl (by simp) (ZX (Rel.of_lit (Go.Value.int Go.IntKind.u8 2)) (ZX (Rel.of_lit (Go.Value.int Go.IntKind.u8 3)) X0)) rfl (by decide) (by decide) (hS _ hk.size) (js hJ hx), hFn hS hJ (ZmT hJ (s := s) (bs := ([2, 3] : List UInt8)) ) Zhj rfl rfl rfl rfl, trivial⟩ (nx (Zf (fun a w h => Zj h 0 rfl) fun hl1 => Zi (fun a w h => Zh (m := 1) rfl h rfl (congrArg AV.bool (show (Qd s ([2, 3] : List UInt8)) = (Zbh s) from Zi4 s)))))))))
end Go.Proofs.YtnpgmdffjemnbaaGreatDoor
set_option maxHeartbeats 8000000
set_option maxRecDepth 100000
namespace Go.Proofs.YtnpgmdffjemnbaaGreatDoor
open Go.RowKit

theorem ZhL {J : World → Prop} (hJ : Stab J) (s : ByteArray) : Fn Tryz.prog J 178 [.str s] (.bool (Yb s)) := by
  intro S w vs hS hJ0 ha
  simp only [RelL] at ha
  obtain ⟨u, us, rfl, h1, rfl⟩ := ha
  rw [h1.lit]
  exact (ZhT s w).mono fun e w' ⟨he, hb⟩ => by
    have hk : Keeps All w w' := (Keeps.of_below hb).sub fun k hk _ => hk
    exact ⟨_, he, Rel.of_lit _, hk, hJ w w' hk hJ0⟩
def fm7 (s : Sm) : Bool := ((Q8 s.label && (decide ((1 : Int) ≤ (s.text.length : Int)) && decide ((s.text.length : Int) ≤ 200))) && s.text.all Zbh) && s.proof.all Yb
def wd7 (s : Sm) : List ByteArray := ((([s.label] ++ [⟨#[36, 112]⟩] ++ s.text) ++ [⟨#[36, 61]⟩]) ++ s.proof) ++ [⟨#[36, 46]⟩]

theorem ZeH {J : World → Prop} (hJ : Stab J) (g : FuncId)  : Fn Tryz.prog J 176 [.lit (.func (.func g) #[] #[])] (.fn 177 [.ptr [.lit (.func (.func g) #[] #[])]]) := by
 refine Zx (N := 4) Tryz.func176 rfl rfl (lb rfl) fun S w0 hS hJ0 => ?_
 clear hJ0
 refine Za (rg tb hJ [1000] [_, _] [0] [(_, .ptr [.lit (.func (.func g) #[] #[])])] rfl rfl rfl rfl ⟨fun _ _ hk hx hl _ => ZiR rfl (hl.env 0 0 _ rfl rfl) (hS _ hk.size) (js hJ hx), trivial⟩ (nx (Za (rg tb hJ [1001] [.fn 177 [.ptr [.lit (.func (.func g) #[] #[])]], _] [0] [(_, .fn 177 [.ptr [.lit (.func (.func g) #[] #[])]])] rfl rfl rfl rfl ⟨fun _ _ _ hx hl _ => Zai (caps := [(Go.Operand.tmp 1)]) rfl (Zc (hl.env 0 1 _ rfl rfl) Zm) hx, trivial⟩ (nx (Zi (fun a w h => Zh (m := 0) rfl h rfl rfl)))))))
theorem Zdk {J : World → Prop} (hJ : Stab J) (g : FuncId) (p : ByteArray → Bool) (q : ByteArray) (hk0 : Zu Tryz.prog g) (hf : ∀ q', Fn Tryz.prog J g [.str q'] (.bool (p q'))) : Fn Tryz.prog J 177 [.str q, .ptr [.lit (.func (.func g) #[] #[])]] (.bool (!p q)) := by
 refine Zx (N := 8) Tryz.func177 rfl rfl (lb rfl) fun S w0 hS hJ0 => ?_
 clear hJ0
 refine Za (rg tb hJ [0, 1] [_] [] [(_, _), (_, _)] rfl rfl rfl rfl trivial (nx (Za (rg tb hJ [1004] [_, _, .bool (p q), _, _] [2] [(_, .bool (!(p q)))] rfl rfl rfl rfl ⟨fun _ _ hk hx hl _ => ZaF ((hf q).r) hk0 rfl (ZjD (hl.dep 0 4 _ rfl rfl rfl rfl)) (nm hS hk) (hx) ZP (Zc (hl.dep 1 5 _ rfl rfl rfl rfl) Zm) (js hJ hx), trivial⟩ (nx (Zi (fun a w h => Zh (m := 0) rfl h rfl (congrArg AV.bool (show (!(p q)) = (!p q) from by first | rfl | grind [Zb])))))))))
theorem ZkU {J : World → Prop} (hJ : Stab J) (s : Sm) (hG : X5 J) (h7 : s.kind = 7) : Fn Tryz.prog J 161 [.agg (stC s)] (.bool (fm7 s)) := by
 refine Zx (N := 76) Tryz.func161 rfl rfl (lb rfl) fun S w0 hS hJ0 => ?_
 refine tw Yi ?_
 refine Za (rgo tb hJ [1000] [_, _] [0] [(_, .ptr (stC s))] rfl rfl rfl rfl ⟨fun _ _ hk hx hl _ => Yv rfl (hl.env 0 0 _ rfl rfl) (Zr hS _ hk hx _ (Nat.le_refl _)) (jo hJ hx), trivial⟩ (nx (Za (Za (rgo tb hJ [0, 1007] [_, _, _, _, _, _, _, _] [] [(_, _), (_, .bool ((decide (s.kind < (1 : Int))) || (decide ((9 : Int) < s.kind))))] rfl rfl rfl rfl trivial (nx (tc 1 rfl rfl (fun hb1 => ?_) (fun hb1 => ?_))))))))
 try simp at hb1
 refine Za (rgo tb hJ [1000] [_] [] [(_, .bool false)] rfl rfl rfl rfl trivial (nx (Zi (fun a w h => Zh (m := 0) rfl (Zl h) rfl (congrArg AV.bool (show false = (fm7 s) from by first | (exfalso; omega) | (clear h; unfold fm7; grind) | (clear h; simp only [fm7, List.all_eq_not_any_not]; grind)))))))
 try simp at hb1
 refine Zd (nx (Za (Zn (sv (av := .ptr (stC s)) tb rfl rfl rfl rfl (sv (av := .int s.kind) tb rfl rfl rfl rfl (sq (.at 0 28) rfl rfl (lb rfl) (fun _ _ h => Zdi (k := 7) QX Zah rfl (h.get 0 rfl) (h7) (by decide) h.x) (sq (.agg [.lit (.string (⟨#[36, 112]⟩ : ByteArray)), .lit (.bool true), .lit (.int .i64 (1 : Int)), .lit (.int .i64 (200 : Int))]) rfl rfl (lb rfl) (fun _ _ h => Zdh Zfn rfl (hG _ (h.x.1)) (h.get 0 rfl) h.x) (Y9 ZaM hJ rfl rfl rfl (lb rfl) fun b1 => ?_))))))))
 refine Y2 (b := b1) (off := 0) (cs := [.lit (.string (⟨#[]⟩ : ByteArray)), .lit (.bool false), .lit (.int .i64 0), .lit (.int .i64 0)]) (es := [.lit (.string (⟨#[36, 112]⟩ : ByteArray)), .lit (.bool true), .lit (.int .i64 (1 : Int)), .lit (.int .i64 (200 : Int))]) (news := [.lit (.string (⟨#[36, 112]⟩ : ByteArray)), .lit (.bool true), .lit (.int .i64 (1 : Int)), .lit (.int .i64 (200 : Int))]) hJ hJ0 Zah rfl rfl rfl (lb rfl) rfl (fun a w h => ⟨(h.get 0 rfl), (h.get 1 rfl)⟩) ?_
 refine kw (fun h => Xy hS h (m := 0) (s := 3) rfl) ?_
 refine Zy ?_
 refine kw (lz [0, 5] (env' := [(_, _), (_, _)]) rfl) ?_
 refine nx (Za (Za (rgo tb hJ [1, 1033] [_, _, _, _, _, .bool (Q8 s.label), _, _, _, _, _, _, _, _, _, _, _, _, _, _, _, .int s.text.length, _, _, _, _, _, _, _, .int s.text.length, _, _, _, _] [5, 21, 29] [(_, _), (_, .bool ((((true && (!(Q8 s.label))) || ((!true) && (!decide (s.label = (⟨#[]⟩ : ByteArray))))) || (decide ((s.text.length : Int) < (1 : Int)))) || (decide ((200 : Int) < (s.text.length : Int)))))] rfl rfl rfl rfl ⟨fun _ _ hk hx hl hc => Qk (Zci hJ (s := s.label) ) Zf4 rfl (Zr hS _ hk hx) (hx.1) (Zc (hl.dep 4 21 _ rfl rfl rfl hc) Zm) (jo hJ hx), fun _ _ _ hx hl hc => Yy ZB rfl (hl.dep 20 37 _ rfl rfl rfl hc) hx, fun _ _ _ hx hl hc => Yy ZB rfl (hl.dep 28 45 _ rfl rfl rfl hc) hx, trivial⟩ (nx (tc 1 rfl rfl (fun hb2 => ?_) (fun hb2 => ?_))))))
 try simp at hb2
 refine Za (rgo tb hJ [1000] [_] [] [(_, .bool false)] rfl rfl rfl rfl trivial (nx (Zi (fun a w h => Zh (m := 0) rfl (Zl h) rfl (congrArg AV.bool (show false = (fm7 s) from by first | (exfalso; omega) | (clear h; unfold fm7; grind) | (clear h; simp only [fm7, List.all_eq_not_any_not]; grind)))))))
 try simp at hb2
 refine Zd (nx (Za (rgo tb hJ [0, 1000] [_] [] [(_, _), (_, .fn 176 [])] rfl rfl rfl rfl trivial (nx (Za (rgo tb hJ [1001, 1025] [_, _, _, .fn 177 [.ptr [.lit (.func (.func 86) #[] #[])]], .bool (s.text.any (fun w' => !Zbh w')), _, _, _, _, _, .fn 177 [.ptr [.lit (.func (.func 178) #[] #[])]], .bool (s.proof.any (fun w' => !Yb w')), _, _, _, _, _, _, _, _, _, .int s.proof.length, _, _, _, _] [3, 4, 10, 11, 21] [(_, .rd (Zg s.text)), (_, .bool (((!(s.text.any (fun w' => !Zbh w'))) && (!(s.proof.any (fun w' => !Yb w')))) && ((decide (s.kind = (7 : Int))) || (decide ((s.proof.length : Int) = (0 : Int))))))] rfl rfl rfl rfl ⟨fun _ _ hk hx hl _ => ZaF ((ZeH hJ 86).r) Zhd rfl (hl.dep 2 53 _ rfl rfl rfl rfl) (Zr hS _ hk hx) (hx.1) ZP (Zc (Zez 86) Zm) (jo hJ hx), fun _ w hk hx hl _ => X1 (XB hJ (xs := s.text) (f := 177) (caps := [.ptr [.lit (.func (.func 86) #[] #[])]]) (Os := []) (p := (fun w' => !Zbh w')) (fun q' => (Zdk hJ 86 Zbh q' Zf5 fun z' => Zbs hJ z').r) (Zhc)) Zd4 rfl (Zr hS _ hk hx) (hx.1) ZP (Zc (hl.dep 1 52 _ rfl rfl rfl rfl) (Zc (hl.dep 3 54 _ rfl rfl rfl rfl) Zm)) (jo hJ hx), fun _ _ hk hx hl hc => ZaF ((ZeH hJ 178).r) Zhd rfl (hl.dep 9 60 _ rfl rfl rfl hc) (Zr hS _ hk hx) (hx.1) ZP (Zc (Zez 178) Zm) (jo hJ hx), fun _ w hk hx hl hc => X1 (XB hJ (xs := s.proof) (f := 177) (caps := [.ptr [.lit (.func (.func 178) #[] #[])]]) (Os := []) (p := (fun w' => !Yb w')) (fun q' => (Zdk hJ 178 Yb q' ZlK fun z' => ZhL hJ z').r) (Zhc)) Zd4 rfl (Zr hS _ hk hx) (hx.1) ZP (Zc (hl.dep 8 59 _ rfl rfl rfl hc) (Zc (hl.dep 10 61 _ rfl rfl rfl hc) Zm)) (jo hJ hx), fun _ _ _ hx hl hc => Yy ZB rfl (hl.dep 20 71 _ rfl rfl rfl hc) hx, trivial⟩ (nx (Zf (fun a w h => Zj h 0 rfl) fun hl1 => Zi (fun a w h => Zh (m := 1) rfl (Zl h) rfl (congrArg AV.bool (show (((!(s.text.any (fun w' => !Zbh w'))) && (!(s.proof.any (fun w' => !Yb w')))) && ((decide (s.kind = (7 : Int))) || (decide ((s.proof.length : Int) = (0 : Int))))) = (fm7 s) from by first | (exfalso; omega) | (clear h; unfold fm7; grind) | (clear h; simp only [fm7, List.all_eq_not_any_not]; grind))))))))))))
theorem ZkY {J : World → Prop} (hJ : Stab J) (s : Sm) (hG : X5 J) (h7 : s.kind = 7) : Fn Tryz.prog J 160 [.agg (stC s)] (.bool (!fm7 s)) := by
 refine Zx (N := 6) Tryz.func160 rfl rfl (lb rfl) fun S w0 hS hJ0 => ?_
 refine tw Yi ?_
 refine Za (rgo tb hJ [1000] [_, _] [0] [(_, .ptr (stC s))] rfl rfl rfl rfl ⟨fun _ _ hk hx hl _ => Yv rfl (hl.env 0 0 _ rfl rfl) (Zr hS _ hk hx _ (Nat.le_refl _)) (jo hJ hx), trivial⟩ (nx (Za (rgo tb hJ [1003] [_, .bool (fm7 s), _, _] [1] [(_, .bool (!(fm7 s)))] rfl rfl rfl rfl ⟨hFo hS hJ (ZkU hJ (s := s) (hG) (h7)) ZlR rfl rfl rfl rfl, trivial⟩ (nx (Zi (fun a w h => Zh (m := 0) rfl (Zl h) rfl (congrArg AV.bool (show (!(fm7 s)) = (!fm7 s) from by first | rfl | grind [Zb])))))))))
theorem ZeI {J : World → Prop} (hJ : Stab J) (xs : List Sm) (f : FuncId) (caps : List AV) (Os : List OB) (p : Sm → Bool) (hf : ∀ q' ∈ xs, FnR Tryz.prog J f Os ([.agg (stC (q'))] ++ caps) (.bool (p q'))) (hk0 : Zu Tryz.prog f) : FnR Tryz.prog J 175 Os [.rd (Znh xs), .fn f caps] (.int (YD p xs)) := by
 refine Yp (N := 19) Tryz.func175 rfl rfl (lb rfl) fun S w0 hS hJ0 hH => ?_
 clear hJ0
 refine Zf (fun a w h => Zj h 0 rfl) fun hl1 => Za (rg tb hJ [0, 1] [_] [] [(_, _), (_, _)] rfl rfl rfl rfl trivial (nx (Za (Za (rg tb hJ [0, 1, 1001, 1002] [_, _, _] [1] [(_, _), (_, _), (_, .int xs.length), (_, .int (0 : Int))] rfl rfl rfl rfl ⟨Ys QW rfl rfl rfl rfl, trivial⟩ (nx (Ze (Zw (ι := Nat) (fun (k : Nat) a w => ((k ≤ xs.length) ∧ (∀ j, j < k → p (ge xs j) = false)) ∧ St All S w0 19 [(0, .rd (Znh xs)), (1, .fn f caps), (7, .int xs.length), (8, .int k)] J a w) (fun (k : Nat) => (xs.length - k : Nat)) ?_ ?_))))))))
 intro a w h
 exact ⟨0, (show (0 ≤ xs.length) ∧ (∀ j, j < 0 → p (ge xs j) = false) from ⟨Nat.zero_le _, fun j hj => by omega⟩), lz [0, 1, 2, 3] rfl h⟩
 rintro k
 refine ZD fun hF => ?_
 obtain ⟨f1_1, f1_2⟩ := hF
 refine Za (rg tb hJ [0, 1, 2, 3, 1000] [_] [] [(_, _), (_, _), (_, _), (_, _), (_, .bool (decide ((k : Int) < (xs.length : Int))))] rfl rfl rfl rfl trivial (nx (Za (tc 4 rfl rfl (fun hb1 => ?_) (fun hb1 => ?_)))))
 try simp at hb1
 refine Zd (nx (Za (Ze (Za (rg tb hJ [0, 1, 2, 3, 1001] [_, _] [] [(_, _), (_, _), (_, _), (_, _), (_, .int k)] rfl rfl rfl rfl trivial (nx (Za (rg tb hJ [0, 1, 2, 3, 4, 1005] [_, _, _, .ptr (stC (ge xs k)), _, _] [3, 5] [(_, _), (_, _), (_, _), (_, _), (_, _), (_, .bool (p (ge xs k)))] rfl rfl rfl rfl ⟨hIx Qx (by first | omega | (simp; omega) | grind [Zb]) rfl rfl rfl rfl rfl rfl, fun _ _ hk hx hl _ => ZaF (hf (ge xs k) (Zb (by omega))) hk0 rfl (hl.dep 0 11 _ rfl rfl rfl rfl) (nm hS hk) (hx) (fun _ ho => YP hH hk ho) (Zc (hl.dep 4 15 _ rfl rfl rfl rfl) Zm) (js hJ hx), trivial⟩ (nx (tc 5 rfl rfl (fun hb2 => ?_) (fun hb2 => ?_)))))))))))
 try simp at hb2
 refine Za (rg tb hJ [1001] [_, _] [] [(_, .int k)] rfl rfl rfl rfl trivial (nx (Zi (fun a w h => Zh (m := 0) rfl h rfl (congrArg AV.int (show (k : Int) = (YD p xs) from by first | exact (Y1 hb1 hb2 f1_2).symm | exact (YJ fun j hj => f1_2 j (by omega)).symm))))))
 try simp at hb2
 refine Zd (nx (rg tb hJ [0, 1, 2, 1001] [.int ((k + 1 : Nat) : Int), _] [0] [(_, _), (_, _), (_, _), (_, .int ((k + 1 : Nat) : Int))] rfl rfl rfl rfl ⟨Yc (by first | omega | (simp; omega) | grind [Zb]) rfl rfl rfl rfl rfl, trivial⟩ ?_))
 intro a w h; change ∃ j, _ ∧ _
 exact ⟨k + 1, ⟨⟨(show (k + 1) ≤ xs.length from by omega), (show ∀ j, j < (k + 1) → p (ge xs j) = false from ZW f1_2 hb2)⟩, lz [0, 1, 2, 3] rfl h⟩, (show xs.length - (k + 1) < xs.length - k from by first | omega | (simp; omega))⟩
 try simp at hb1
 refine Zv (nx (Za (rg tb hJ [1000] [_] [] [(_, .int (-1 : Int))] rfl rfl rfl rfl trivial (nx (Zi (fun a w h => Zh (m := 0) rfl h rfl (congrArg AV.int (show (-1 : Int) = (YD p xs) from by first | exact (Y1 hb1 hb2 f1_2).symm | exact (YJ fun j hj => f1_2 j (by omega)).symm))))))))
theorem Zcj {J : World → Prop} (hJ : Stab J) (xs : List Sm) (f : FuncId) (caps : List AV) (Os : List OB) (p : Sm → Bool) (hf : ∀ q' ∈ xs, FnR Tryz.prog J f Os ([.agg (stC (q'))] ++ caps) (.bool (p q'))) (hk0 : Zu Tryz.prog f) : FnR Tryz.prog J 159 Os [.rd (Znh xs), .fn f caps] (.bool (xs.any p)) := by
 refine Yp (N := 9) Tryz.func159 rfl rfl (lb rfl) fun S w0 hS hJ0 hH => ?_
 clear hJ0
 refine Zf (fun a w h => Zj h 0 rfl) fun hl1 => Za (rg tb hJ [0, 1] [_] [] [(_, _), (_, _)] rfl rfl rfl rfl trivial (nx (Za (rg tb hJ [1004] [_, _, .int (YD p xs), _, _] [2] [(_, .bool (decide ((0 : Int) ≤ YD p xs)))] rfl rfl rfl rfl ⟨fun _ _ hk hx hl _ => X1 (ZeI hJ (xs := xs) (f := f) (caps := caps) (Os := Os) (p := p) (hf) (hk0)) ZlL rfl (nm hS hk) (hx) (fun _ ho => YP hH hk ho) (Zc (hl.dep 0 5 _ rfl rfl rfl rfl) (Zc (hl.dep 1 6 _ rfl rfl rfl rfl) Zm)) (js hJ hx), trivial⟩ (nx (Zi (fun a w h => Zh (m := 0) rfl h rfl (congrArg AV.bool (show (decide ((0 : Int) ≤ YD p xs)) = (xs.any p) from by rw [← ZaZ])))))))))
theorem ZiX {J : World → Prop} (hJ : Stab J) (s : Sm) (hG : X5 J) (h7 : s.kind = 7) (hl : s.text.length + s.proof.length ≤ 100) : Fn Tryz.prog J 162 [.agg (stC s)] (.rd (Zg (wd7 s))) := by
 refine Zx (N := 40) Tryz.func162 rfl rfl (lb rfl) fun S w0 hS hJ0 => ?_
 refine tw Yi ?_
 refine Za (rgo tb hJ [1000] [_, _] [0] [(_, .ptr (stC s))] rfl rfl rfl rfl ⟨fun _ _ hk hx hl _ => Yv rfl (hl.env 0 0 _ rfl rfl) (Zr hS _ hk hx _ (Nat.le_refl _)) (jo hJ hx), trivial⟩ (nx (Za (Zn (sv (av := .ptr (stC s)) tb rfl rfl rfl rfl (sv (av := .int s.kind) tb rfl rfl rfl rfl (sq (.at 0 28) rfl rfl (lb rfl) (fun _ _ h => Zdi (k := 7) QX Zah rfl (h.get 0 rfl) (h7) (by decide) h.x) (sq (.agg [.lit (.string (⟨#[36, 112]⟩ : ByteArray)), .lit (.bool true), .lit (.int .i64 (1 : Int)), .lit (.int .i64 (200 : Int))]) rfl rfl (lb rfl) (fun _ _ h => Zdh Zfn rfl (hG _ (h.x.1)) (h.get 0 rfl) h.x) (Y9 ZaM hJ rfl rfl rfl (lb rfl) fun b1 => ?_)))))))))
 refine Y2 (b := b1) (off := 0) (cs := [.lit (.string (⟨#[]⟩ : ByteArray)), .lit (.bool false), .lit (.int .i64 0), .lit (.int .i64 0)]) (es := [.lit (.string (⟨#[36, 112]⟩ : ByteArray)), .lit (.bool true), .lit (.int .i64 (1 : Int)), .lit (.int .i64 (200 : Int))]) (news := [.lit (.string (⟨#[36, 112]⟩ : ByteArray)), .lit (.bool true), .lit (.int .i64 (1 : Int)), .lit (.int .i64 (200 : Int))]) hJ hJ0 Zah rfl rfl rfl (lb rfl) rfl (fun a w h => ⟨(h.get 0 rfl), (h.get 1 rfl)⟩) ?_
 refine kw (fun h => Xy hS h (m := 0) (s := 3) rfl) ?_
 refine Zy ?_
 refine kw (lz [0, 5] (env' := [(_, _), (_, _)]) rfl) ?_
 refine nx (Za (rgo tb hJ [0, 1, 1000] [_] [] [(_, _), (_, _), (_, .lit (.slice none 0 0))] rfl rfl rfl rfl trivial (nx (Za (Za (rgo tb hJ [0, 1, 2, 1001] [_, _] [] [(_, _), (_, _), (_, _), (_, .bool true)] rfl rfl rfl rfl trivial (nx (tc 3 rfl rfl (fun hb1 => ?_) (fun hb1 => ?_)))))))))
 refine tw (YI 9 1 hJ) ?_
 refine Zn (sv tb rfl rfl rfl rfl (sv (av := .ptr [.lit (.string s.label), Zg s.text, Zg s.proof]) tb rfl rfl rfl rfl (sv (av := .str s.label) tb rfl rfl rfl rfl (sq (.rd (Zg ([s.label]))) rfl rfl (lb rfl) (fun _ _ h => ZV Zk Zay rfl (h.get 0 rfl) (Zr hS _ h.keep h.x _ (Nat.le_refl _)) (jo hJ h.x)) (ZR (f := Qz) (m := 3) (s := 11) ([] : List ByteArray) ([s.label]) (fun _ => rfl) XE hJ hJ0 rfl rfl rfl (lb rfl) rfl rfl (fun a w h => (h.get 0 rfl)) (by first | omega | (simp; done) | (simp; omega)) (by first | omega | (simp; done) | (simp; omega)) fun v2 => ?_)))))
 refine sv tb rfl rfl rfl rfl (Zy ?_)
 refine kw (lz [0, 2, 6, 7] (env' := [(_, _), (_, _), (_, _), (_, _)]) rfl) ?_
 refine nx (Zf (fun a w h => Zj h 1 rfl) fun hl1 => Za ?_)
 refine fun a w h => Zcg [] (γ := Value × Value) (fun ix' => ([.lit v2, .ptr [.lit (.string (⟨#[36, 112]⟩ : ByteArray)), .lit (.bool true), .lit (.int .i64 (1 : Int)), .lit (.int .i64 (200 : Int))], .str (⟨#[36, 112]⟩ : ByteArray), .rd (Zg ([(⟨#[36, 112]⟩ : ByteArray)])), .any, .ptr [Zg s.text, Zg s.proof], .rd (Zg s.text), .any, .any] : List AV).getD ix' .any) (fun ix' => ([true, true, true, true, true, true, true, true, true] : List Bool).getD ix' true) [(3, fun (g : Value × Value) => .ptr [.lit (.string (⟨#[36, 112]⟩ : ByteArray)), .lit (.bool true), .lit (.int .i64 (1 : Int)), .lit (.int .i64 (200 : Int))]), (1, fun (g : Value × Value) => .ptr (stC s)), (4, fun (g : Value × Value) => .lit g.2)] (fun (j' : Nat) (g : Value × Value) => match j' with | 0 => [OB.row v2 9 1 ((([] : List ByteArray) ++ ([s.label])).map Qz)] | 1 => [OB.row g.1 9 1 (((([] : List ByteArray) ++ ([s.label])) ++ ([(⟨#[36, 112]⟩ : ByteArray)])).map Qz)] | 2 => [OB.row g.2 9 1 ((((([] : List ByteArray) ++ ([s.label])) ++ ([(⟨#[36, 112]⟩ : ByteArray)])) ++ s.text).map Qz)] | _ => [OB.row g.2 9 1 ((((([] : List ByteArray) ++ ([s.label])) ++ ([(⟨#[36, 112]⟩ : ByteArray)])) ++ s.text).map Qz)]) (fun (k' : Nat) (g : Value × Value) => match k' with | 0 => g.1 | 1 => g.2 | 2 => g.2 | _ => undef) [4, 7, 8] 3 ((.slice none 0 0), (.slice none 0 0)) (fun _ => rfl) h hJ Y0 rfl rfl rfl rfl rfl rfl (fun j' g hj p hp => by rcases j' with _ | _ | _ | _ | j' <;> first | exact hp | exact List.mem_cons_of_mem _ hp | exact List.mem_cons_of_mem _ (List.mem_cons_of_mem _ hp) | (exfalso; omega)) ⟨?o5_1_0, ⟨?o5_1_1, ⟨?o5_1_2, ⟨?o5_1_3, ⟨?o5_1_4, ⟨?o5_1_5, ⟨?o5_1_6, ⟨?o5_1_7, ⟨?o5_1_8, trivial⟩⟩⟩⟩⟩⟩⟩⟩⟩ ⟨?e5_1_0, ⟨?e5_1_1, ⟨?e5_1_2, trivial⟩⟩⟩ ⟨.old 2 3 _ rfl rfl, ⟨.old 3 1 _ rfl rfl, ⟨.eff 2 8 4 (fun (g : Value × Value) => g.2) rfl rfl (fun _ => rfl) (fun _ _ hx => Zbn (hx.2.1 _ (mo 0 rfl))), trivial⟩⟩⟩ ?n5_1
 case o5_1_0 => exact fun _ O' _ => ⟨rfl, fun _ _ _ hx hl _ => Yj rfl (hl.env 0 4 _ rfl rfl) hx⟩
 case o5_1_1 => exact fun _ O' _ => ⟨rfl, fun _ _ _ hx hl _ => Ym ZfV rfl (hl.env 2 3 _ rfl rfl) hx⟩
 case o5_1_2 => exact fun _ O' _ => ⟨rfl, fun _ _ _ hx hl _ => Ya ZdO rfl (hl.dep 1 17 _ rfl rfl rfl rfl) hx⟩
 case o5_1_3 => exact fun _ O' _ => ⟨rfl, fun _ _ hk hx hl _ => ZV Zk Zay rfl (hl.dep 2 18 _ rfl rfl rfl rfl) (Zr hS _ hk hx _ (Nat.le_refl _)) (jo hJ hx)⟩
 case o5_1_4 => exact Zs rfl
 case o5_1_5 => exact fun _ O' _ => ⟨rfl, fun _ _ _ hx hl _ => Ym ZfX rfl (hl.env 3 1 _ rfl rfl) hx⟩
 case o5_1_6 => exact fun _ O' _ => ⟨rfl, fun _ _ _ hx hl _ => Ya Zdm rfl (hl.dep 5 21 _ rfl rfl rfl rfl) hx⟩
 case o5_1_7 => exact Zs rfl
 case o5_1_8 => exact Zs rfl
 case e5_1_0 => exact ⟨_, rfl, rfl, rfl, rfl, fun g _ w hk hx hl _ => ZJ (QR (f := Qz) (([] : List ByteArray) ++ ([s.label])) ([(⟨#[36, 112]⟩ : ByteArray)]) (fun _ => rfl) XE hJ hJ0 rfl hk hx (hl.dep 0 16 _ rfl rfl rfl rfl).lit (hl.dep 3 19 _ rfl rfl rfl rfl) (by first | omega | (simp; done) | (simp; omega)) (by first | omega | (simp; done) | (simp; omega))) fun v w' hp => ⟨(v, g.2), rfl, fun k' hk' => absurd hk' (Nat.not_lt_zero _), fun _ => rfl, hp⟩⟩
 case e5_1_1 => exact ⟨_, rfl, rfl, rfl, rfl, fun g _ w hk hx hl hs => ZJ (QR (f := Qz) ((([] : List ByteArray) ++ ([s.label])) ++ ([(⟨#[36, 112]⟩ : ByteArray)])) s.text (fun _ => rfl) XE hJ hJ0 rfl hk hx (hs 0 4 _ 20 (by omega) rfl rfl rfl) (hl.dep 6 22 _ rfl rfl rfl rfl) (by first | omega | (simp; done) | (simp; omega)) (by first | omega | (simp; done) | (simp; omega))) fun v w' hp => ⟨(g.1, v), rfl, fun k' hk' => by rcases k' with _ | _ | _ | k' <;> first | rfl | omega, fun _ => rfl, hp⟩⟩
 case e5_1_2 => exact ⟨_, rfl, rfl, rfl, rfl, fun g _ w hk hx _ hs => ZJ (ZbV (.inl rfl) (hs 1 7 _ 23 (by omega) rfl rfl rfl) hk hx) fun v w' hp => ⟨g, rfl, fun _ _ => rfl, fun _ => hp.1, hp.2⟩⟩
 clear a w h
 rintro ⟨v3, v4⟩
 change ∀ a w, St All (SO S [OB.row v4 9 1 ((((([] : List ByteArray) ++ ([s.label])) ++ ([(⟨#[36, 112]⟩ : ByteArray)])) ++ s.text).map Qz)]) w0 40 [(3, .ptr [.lit (.string (⟨#[36, 112]⟩ : ByteArray)), .lit (.bool true), .lit (.int .i64 (1 : Int)), .lit (.int .i64 (200 : Int))]), (1, .ptr (stC s)), (4, .lit v4)] (XO J S w0.heap.size [OB.row v4 9 1 ((((([] : List ByteArray) ++ ([s.label])) ++ ([(⟨#[36, 112]⟩ : ByteArray)])) ++ s.text).map Qz)]) a w → _
 refine nx (Za (Za (rgo tb hJ [0, 1, 2, 1002] [_, _, _] [] [(_, _), (_, _), (_, _), (_, .bool (decide (s.kind = (7 : Int))))] rfl rfl rfl rfl trivial (nx (tc 3 rfl rfl (fun hb2 => ?_) (fun hb2 => ?_))))))
 refine fun a w h => Zcg [] (γ := Value × Value) (fun ix' => ([.lit v4, .rd (Zg ([(⟨#[36, 61]⟩ : ByteArray)])), .any, .ptr [Zg s.proof], .rd (Zg s.proof), .any, .any] : List AV).getD ix' .any) (fun ix' => ([true, true, true, true, true, true, true] : List Bool).getD ix' true) [(3, fun (g : Value × Value) => .ptr [.lit (.string (⟨#[36, 112]⟩ : ByteArray)), .lit (.bool true), .lit (.int .i64 (1 : Int)), .lit (.int .i64 (200 : Int))]), (4, fun (g : Value × Value) => .lit g.2)] (fun (j' : Nat) (g : Value × Value) => match j' with | 0 => [OB.row v4 9 1 ((((([] : List ByteArray) ++ ([s.label])) ++ ([(⟨#[36, 112]⟩ : ByteArray)])) ++ s.text).map Qz)] | 1 => [OB.row g.1 9 1 (((((([] : List ByteArray) ++ ([s.label])) ++ ([(⟨#[36, 112]⟩ : ByteArray)])) ++ s.text) ++ ([(⟨#[36, 61]⟩ : ByteArray)])).map Qz)] | 2 => [OB.row g.2 9 1 ((((((([] : List ByteArray) ++ ([s.label])) ++ ([(⟨#[36, 112]⟩ : ByteArray)])) ++ s.text) ++ ([(⟨#[36, 61]⟩ : ByteArray)])) ++ s.proof).map Qz)] | _ => [OB.row g.2 9 1 ((((((([] : List ByteArray) ++ ([s.label])) ++ ([(⟨#[36, 112]⟩ : ByteArray)])) ++ s.text) ++ ([(⟨#[36, 61]⟩ : ByteArray)])) ++ s.proof).map Qz)]) (fun (k' : Nat) (g : Value × Value) => match k' with | 0 => g.1 | 1 => g.2 | 2 => g.2 | _ => undef) [2, 5, 6] 3 ((.slice none 0 0), (.slice none 0 0)) (fun _ => rfl) h hJ Y0 rfl rfl rfl rfl rfl rfl (fun j' g hj p hp => by rcases j' with _ | _ | _ | _ | j' <;> first | exact hp | exact List.mem_cons_of_mem _ hp | exact List.mem_cons_of_mem _ (List.mem_cons_of_mem _ hp) | (exfalso; omega)) ⟨?o7_2_0, ⟨?o7_2_1, ⟨?o7_2_2, ⟨?o7_2_3, ⟨?o7_2_4, ⟨?o7_2_5, ⟨?o7_2_6, trivial⟩⟩⟩⟩⟩⟩⟩ ⟨?e7_2_0, ⟨?e7_2_1, ⟨?e7_2_2, trivial⟩⟩⟩ ⟨.old 0 3 _ rfl rfl, ⟨.eff 2 6 4 (fun (g : Value × Value) => g.2) rfl rfl (fun _ => rfl) (fun _ _ hx => Zbn (hx.2.1 _ (mo 0 rfl))), trivial⟩⟩ ?n7_2
 case o7_2_0 => exact fun _ O' _ => ⟨rfl, fun _ _ _ hx hl _ => Yj rfl (hl.env 2 4 _ rfl rfl) hx⟩
 case o7_2_1 => exact fun _ O' _ => ⟨rfl, fun _ _ hk hx _ _ => ZV Zk Zay rfl (Rel.of_lit (Go.Value.string { data := #[36, 61] }) (lb rfl)) (Zr hS _ hk hx _ (Nat.le_refl _)) (jo hJ hx)⟩
 case o7_2_2 => exact Zs rfl
 case o7_2_3 => exact fun _ O' _ => ⟨rfl, fun _ _ _ hx hl _ => Ym ZfW rfl (hl.env 1 1 _ rfl rfl) hx⟩
 case o7_2_4 => exact fun _ O' _ => ⟨rfl, fun _ _ _ hx hl _ => Ya Zdm rfl (hl.dep 3 30 _ rfl rfl rfl rfl) hx⟩
 case o7_2_5 => exact Zs rfl
 case o7_2_6 => exact Zs rfl
 case e7_2_0 => exact ⟨_, rfl, rfl, rfl, rfl, fun g _ w hk hx hl _ => ZJ (QR (f := Qz) (((([] : List ByteArray) ++ ([s.label])) ++ ([(⟨#[36, 112]⟩ : ByteArray)])) ++ s.text) ([(⟨#[36, 61]⟩ : ByteArray)]) (fun _ => rfl) XE hJ hJ0 rfl hk hx (hl.dep 0 27 _ rfl rfl rfl rfl).lit (hl.dep 1 28 _ rfl rfl rfl rfl) (by first | omega | (simp; done) | (simp; omega)) (by first | omega | (simp; done) | (simp; omega))) fun v w' hp => ⟨(v, g.2), rfl, fun k' hk' => absurd hk' (Nat.not_lt_zero _), fun _ => rfl, hp⟩⟩
 case e7_2_1 => exact ⟨_, rfl, rfl, rfl, rfl, fun g _ w hk hx hl hs => ZJ (QR (f := Qz) ((((([] : List ByteArray) ++ ([s.label])) ++ ([(⟨#[36, 112]⟩ : ByteArray)])) ++ s.text) ++ ([(⟨#[36, 61]⟩ : ByteArray)])) s.proof (fun _ => rfl) XE hJ hJ0 rfl hk hx (hs 0 2 _ 29 (by omega) rfl rfl rfl) (hl.dep 4 31 _ rfl rfl rfl rfl) (by first | omega | (simp; done) | (simp; omega)) (by first | omega | (simp; done) | (simp; omega))) fun v w' hp => ⟨(g.1, v), rfl, fun k' hk' => by rcases k' with _ | _ | _ | k' <;> first | rfl | omega, fun _ => rfl, hp⟩⟩
 case e7_2_2 => exact ⟨_, rfl, rfl, rfl, rfl, fun g _ w hk hx _ hs => ZJ (ZbV (.inl rfl) (hs 1 5 _ 32 (by omega) rfl rfl rfl) hk hx) fun v w' hp => ⟨g, rfl, fun _ _ => rfl, fun _ => hp.1, hp.2⟩⟩
 clear a w h
 rintro ⟨v5, v6⟩
 change ∀ a w, St All (SO S [OB.row v6 9 1 ((((((([] : List ByteArray) ++ ([s.label])) ++ ([(⟨#[36, 112]⟩ : ByteArray)])) ++ s.text) ++ ([(⟨#[36, 61]⟩ : ByteArray)])) ++ s.proof).map Qz)]) w0 40 [(3, .ptr [.lit (.string (⟨#[36, 112]⟩ : ByteArray)), .lit (.bool true), .lit (.int .i64 (1 : Int)), .lit (.int .i64 (200 : Int))]), (4, .lit v6)] (XO J S w0.heap.size [OB.row v6 9 1 ((((((([] : List ByteArray) ++ ([s.label])) ++ ([(⟨#[36, 112]⟩ : ByteArray)])) ++ s.text) ++ ([(⟨#[36, 61]⟩ : ByteArray)])) ++ s.proof).map Qz)]) a w → _
 refine nx (Za (Za (rgo tb hJ [1, 1002] [_, _, _] [] [(_, _), (_, .bool (decide ((0 : Int) < (200 : Int))))] rfl rfl rfl rfl trivial (nx (tc 1 rfl rfl (fun hb3 => ?_) (fun hb3 => ?_))))))
 refine Zn (sv tb rfl rfl rfl rfl (sq (.rd (Zg ([(⟨#[36, 46]⟩ : ByteArray)]))) rfl rfl (lb rfl) (fun _ _ h => ZV Zk Zay rfl (Rel.of_lit (Go.Value.string { data := #[36, 46] }) (lb rfl)) (Zr hS _ h.keep h.x _ (Nat.le_refl _)) (jo hJ h.x)) (ZR (f := Qz) (m := 1) (s := 36) (((((([] : List ByteArray) ++ ([s.label])) ++ ([(⟨#[36, 112]⟩ : ByteArray)])) ++ s.text) ++ ([(⟨#[36, 61]⟩ : ByteArray)])) ++ s.proof) ([(⟨#[36, 46]⟩ : ByteArray)]) (fun _ => rfl) XE hJ hJ0 rfl rfl rfl (lb rfl) rfl rfl (fun a w h => (h.get 0 rfl)) (by first | omega | (simp; done) | (simp; omega)) (by first | omega | (simp; done) | (simp; omega)) fun v7 => ?_)))
 refine sv tb rfl rfl rfl rfl (Zy ?_)
 refine kw (lz [0, 2] (env' := [(_, _), (_, _)]) rfl) ?_
 refine nx (Zf (fun a w h => Zj h 1 rfl) fun hl2 => Za (rgo tb hJ [1001] [_, _] [] [(_, .lit v7)] rfl rfl rfl rfl trivial (nx ?_)))
 refine tw (fun h => ZO hS h (m := 0) (s := 2) rfl) ?_
 refine Zi (fun a w h => Zh (m := 0) rfl (Zl h) rfl (congrArg (fun z => AV.rd (Zg z)) (show ((((((([] : List ByteArray) ++ ([s.label])) ++ ([(⟨#[36, 112]⟩ : ByteArray)])) ++ s.text) ++ ([(⟨#[36, 61]⟩ : ByteArray)])) ++ s.proof) ++ ([(⟨#[36, 46]⟩ : ByteArray)])) = (wd7 s) from by simp [wd7])))
 exact False.elim (by simp at hb3)
 exact False.elim (by simp [h7] at hb2)
 exact False.elim (by cases hb1)
theorem Zin (s : Sm) : (wd7 s).length = s.text.length + s.proof.length + 4 := by simp [wd7]; omega
theorem Znx {J : World → Prop} (hJ : Stab J) (l : List Sm) (hG : X5 J) (h1 : l.length = 1) (h7 : (ge l 0).kind = 7) (hl : (ge l 0).text.length + (ge l 0).proof.length ≤ 100) : Fn Tryz.prog J 130 [.rd (Znh l)] (.tup [.rd (Zg (if fm7 (ge l 0) then wd7 (ge l 0) else [])), .int (if fm7 (ge l 0) then 0 else 2 : Int)]) := by
 refine Zx (N := 27) Tryz.func130 rfl rfl (lb rfl) fun S w0 hS hJ0 => ?_
 refine tw Yi ?_
 refine Zf (fun a w h => Zj h 0 rfl) fun hl1 => Za (rgo tb hJ [0] [_, _] [] [(_, _)] rfl rfl rfl rfl trivial (nx (Za (Za (rgo tb hJ [0, 1002] [_, .int l.length, _] [1] [(_, _), (_, .bool (decide ((2000 : Int) < (l.length : Int))))] rfl rfl rfl rfl ⟨Ys QW rfl rfl rfl rfl, trivial⟩ (nx (tc 1 rfl rfl (fun hb1 => ?_) (fun hb1 => ?_))))))))
 exact False.elim (by rw [h1] at hb1; exact absurd hb1 (by decide))
 refine Zd (nx (Za (Za (rgo tb hJ [0, 1001] [_, _] [1] [(_, _), (_, .bool (l.any (fun s' => !fm7 s')))] rfl rfl rfl rfl ⟨fun _ _ hk hx hl _ => X1 (Zcj hJ (xs := l) (f := 160) (caps := []) (Os := []) (p := (fun s' => !fm7 s')) (fun q' hq' => (ZkY hJ q' hG (by obtain ⟨j, hj, rfl⟩ := Xj hq'; obtain rfl : j = 0 := (by omega); exact h7)).r) (ZlS)) ZlT rfl (Zr hS _ hk hx) (hx.1) ZP (Zc (hl.dep 0 10 _ rfl rfl rfl rfl) (Zc (QG 160) Zm)) (jo hJ hx), trivial⟩ (nx (tc 1 rfl rfl (fun hb2 => ?_) (fun hb2 => ?_)))))))
 have e2 : fm7 (ge l 0) = false := by obtain ⟨x, hx, hn⟩ := List.any_eq_true.1 hb2; obtain ⟨q, hq, rfl⟩ := Xj hx; obtain rfl : q = 0 := (by omega); simpa using hn
 refine Za (rgo tb hJ [1000, 1001] [_, _] [] [(_, .lit (.slice none 0 0)), (_, .int (2 : Int))] rfl rfl rfl rfl trivial (nx ?_))
 refine tw (fun h => Y8 h (m := 0) (s := 2) rfl) ?_
 refine Zi (fun a w h => YC (m := 0) (k := 1) rfl (Zl h) rfl rfl (congrArg (fun z => AV.rd (Zg z)) (show ([] : List ByteArray) = (if fm7 (ge l 0) then wd7 (ge l 0) else []) from by first | (rw [e2]; rfl) | (rw [f1_2, if_neg (by omega), e2]; rfl))) (congrArg AV.int (show (2 : Int) = (if fm7 (ge l 0) then 0 else 2 : Int) from by first | (rw [e2]; rfl) | (rw [f1_2, if_neg (by omega), e2]; rfl))))
 have e2 : fm7 (ge l 0) = true := by have := List.any_eq_false.1 hb2 (ge l 0) (Zb (by omega)); simpa using this
 refine Zd (nx (Za (rgo tb hJ [0, 1000] [_] [] [(_, _), (_, .lit (.slice none 0 0))] rfl rfl rfl rfl trivial (nx (Za (Za (rgo tb hJ [1, 1000, 1001, 1002] [_, _, _] [1] [(_, _), (_, .rd (Znh l)), (_, .int l.length), (_, .int (0 : Int))] rfl rfl rfl rfl ⟨Ys QW rfl rfl rfl rfl, trivial⟩ (nx (Ze ?_)))))))))
 refine tw (YI 9 1 hJ) ?_
 refine Zw (ι := Nat × Value × (List ByteArray)) (fun (ii' : Nat × Value × (List ByteArray)) a w => match ii' with | (k, vo, out) => ((k ≤ l.length) ∧ (out = if k = 0 then [] else wd7 (ge l 0))) ∧ St All (SO S [OB.row vo 9 1 (out.map Qz)]) w0 27 [(12, .rd (Znh l)), (13, .int l.length), (14, .int k), (4, .lit vo)] (XO J S w0.heap.size [OB.row vo 9 1 (out.map Qz)]) a w) (fun (ii' : Nat × Value × (List ByteArray)) => match ii' with | (k, _, _) => (l.length - k : Nat)) ?_ ?_
 intro a w h
 exact ⟨(0, (.slice none 0 0), ([] : List ByteArray)), (show (0 ≤ l.length) ∧ (([] : List ByteArray) = if 0 = 0 then [] else wd7 (ge l 0)) from ⟨Nat.zero_le _, rfl⟩), lz [1, 2, 3, 0] rfl h⟩
 rintro ⟨k, vo, out⟩
 refine ZD fun hF => ?_
 obtain ⟨f1_1, f1_2⟩ := hF
 refine Za (rgo tb hJ [0, 1, 2, 3, 1000] [_] [] [(_, _), (_, _), (_, _), (_, _), (_, .bool (decide ((k : Int) < (l.length : Int))))] rfl rfl rfl rfl trivial (nx (Za (tc 4 rfl rfl (fun hb3 => ?_) (fun hb3 => ?_)))))
 try simp at hb3
 have e0 : k = 0 := by omega
 have e1 : k = 0 → out = [] := fun e => by rw [f1_2, if_pos e]
 have e5 := Zin (ge l k)
 refine Zd (nx (Za (Ze (Za (Zn (sq (.ptr (stC (ge l k))) rfl rfl (lb rfl) (fun _ _ h => ZI (i := (k : Int)) Qx rfl (h.get 0 rfl) (h.get 2 rfl) (Int.natCast_nonneg _) (ZL (xs := l) (k := k) (by first | omega | (simp; omega) | grind [Zb])) rfl h.x) (sv (av := .agg (stC (ge l k))) tb rfl rfl rfl rfl (QZ (cs := stC (ge l k)) Zip rfl rfl rfl (lb rfl) rfl rfl rfl (by decide) (m := 0) rfl rfl (fun a w h => Zr hS _ h.keep h.x _ (Nat.le_refl _)) (fun a w h w' hk' => YY hJ _ _ hk' h.x) (Zy ?_)))))))))
 refine kw (lz [0, 3, 4, 5, 6] (env' := [(_, _), (_, _), (_, _), (_, _), (_, _)]) rfl) ?_
 refine nx (Za (Zn (sv tb rfl rfl rfl rfl (sv (av := .agg (stC (ge l k))) tb rfl rfl rfl rfl (sq (.rd (Zg (wd7 (ge l k)))) rfl rfl (lb rfl) (fun _ _ h => Qk (ZiX hJ (s := (ge l k)) (hG) (by rw [e0]; exact h7) (by rw [e0]; exact hl)) ZlQ rfl (Zr hS _ h.keep h.x) (h.x.1) (Zc (h.get 0 rfl) Zm) (jo hJ h.x)) (ZR (f := Qz) (m := 2) (s := 18) out (wd7 (ge l k)) (fun _ => rfl) XE hJ hJ0 rfl rfl rfl (lb rfl) rfl rfl (fun a w h => (h.get 0 rfl)) (by rw [e1 e0, e5, e0]; simp only [List.length_nil]; omega) (by rw [e1 e0, e5, e0]; simp only [List.length_nil]; omega) fun v1 => ?_))))))
 refine sv tb rfl rfl rfl rfl (Zy ?_)
 refine kw (lz [0, 2, 6, 7, 8] (env' := [(_, _), (_, _), (_, _), (_, _), (_, _)]) rfl) ?_
 refine nx (Zf (fun a w h => Zj h 1 rfl) fun hl2 => Za (rgr tb hJ [0, 2, 3, 4, 1002] [_, .int (((out ++ (wd7 (ge l k))).length : Nat) : Int), _] [1] [(_, _), (_, _), (_, _), (_, _), (_, .bool (decide ((8000 : Int) < (((out ++ (wd7 (ge l k))).length : Nat) : Int))))] rfl rfl rfl rfl ⟨fun _ _ _ hx hl _ => Yy ZB rfl (YM hS hx (mo 0 rfl) (hl.dep 0 22 _ rfl rfl rfl rfl)) hx, trivial⟩ (nx (tc 4 rfl rfl (fun hb4 => ?_) (fun hb4 => ?_)))))
 exact False.elim (by have := Zin (ge l k); rw [e0] at this; simp only [List.length_append, e1 e0, e0, decide_eq_true_eq] at hb4; simp at hb4; omega)
 refine Zd (nx (rgo tb hJ [0, 1, 2, 1001] [.int ((k + 1 : Nat) : Int), _] [0] [(_, _), (_, _), (_, _), (_, .int ((k + 1 : Nat) : Int))] rfl rfl rfl rfl ⟨Yc (by first | omega | (simp; omega) | grind [Zb]) rfl rfl rfl rfl rfl, trivial⟩ ?_))
 intro a w h; change ∃ j, _ ∧ _
 exact ⟨(k + 1, v1, out ++ (wd7 (ge l k))), ⟨⟨(show (k + 1) ≤ l.length from by omega), (show (out ++ (wd7 (ge l k))) = if (k + 1) = 0 then [] else wd7 (ge l 0) from by rw [e1 e0, e0]; simp)⟩, lz [1, 2, 3, 0] rfl h⟩, (show l.length - (k + 1) < l.length - k from by first | omega | (simp; omega))⟩
 try simp at hb3
 refine Zv (nx (Za (rgo tb hJ [1001, 1002] [_, _, _] [] [(_, .lit vo), (_, .int (0 : Int))] rfl rfl rfl rfl trivial (nx ?_))))
 refine tw (fun h => ZO hS h (m := 0) (s := 2) rfl) ?_
 refine Zi (fun a w h => YC (m := 0) (k := 1) rfl (Zl h) rfl rfl (congrArg (fun z => AV.rd (Zg z)) (show out = (if fm7 (ge l 0) then wd7 (ge l 0) else []) from by first | (rw [e2]; rfl) | (rw [f1_2, if_neg (by omega), e2]; rfl))) (congrArg AV.int (show (0 : Int) = (if fm7 (ge l 0) then 0 else 2 : Int) from by first | (rw [e2]; rfl) | (rw [f1_2, if_neg (by omega), e2]; rfl))))
theorem fm7_x (s : ByteArray) : fm7 ⟨7, ⟨#[120]⟩, [⟨#[120]⟩], [s]⟩ = Yb s := by
  have h1 : Q8 ⟨#[120]⟩ = true := by decide +kernel
  have h2 : Zbh ⟨#[120]⟩ = true := by decide +kernel
  simp [fm7, h1, h2]

theorem Zi2 {J : World → Prop} (hJ : Stab J) (s : ByteArray) (hG : X5 J) : Fn Tryz.prog J 95 [.str s] (.bool (Yb s)) := by
 refine Zx (N := 16) Tryz.func95 rfl rfl (lb rfl) fun S w0 hS hJ0 => ?_
 refine tw Yi ?_
 refine Za (rgo tb hJ [0] [_] [] [(_, _)] rfl rfl rfl rfl trivial (nx (Za (rgo tb hJ [1000, 1002, 1004, 1007, 1009, 1010] [_, _, _, .agg (stC (⟨(7 : Int), (⟨#[120]⟩ : ByteArray), [(⟨#[120]⟩ : ByteArray)], [s]⟩ : Sm)), _, .tup [.rd (Zg (if fm7 (ge ([(⟨(7 : Int), (⟨#[120]⟩ : ByteArray), [(⟨#[120]⟩ : ByteArray)], [s]⟩ : Sm)]) 0) then wd7 (ge ([(⟨(7 : Int), (⟨#[120]⟩ : ByteArray), [(⟨#[120]⟩ : ByteArray)], [s]⟩ : Sm)]) 0) else [])), .int (if fm7 (ge ([(⟨(7 : Int), (⟨#[120]⟩ : ByteArray), [(⟨#[120]⟩ : ByteArray)], [s]⟩ : Sm)]) 0) then 0 else 2 : Int)], _, _, _, _, _] [0, 2, 3, 4, 5] [(_, .rd (Zg ([(⟨#[120]⟩ : ByteArray)]))), (_, .rd (Zg ([s]))), (_, .rd (Znh ([(⟨(7 : Int), (⟨#[120]⟩ : ByteArray), [(⟨#[120]⟩ : ByteArray)], [s]⟩ : Sm)]))), (_, .rd (Zg (if fm7 (ge ([(⟨(7 : Int), (⟨#[120]⟩ : ByteArray), [(⟨#[120]⟩ : ByteArray)], [s]⟩ : Sm)]) 0) then wd7 (ge ([(⟨(7 : Int), (⟨#[120]⟩ : ByteArray), [(⟨#[120]⟩ : ByteArray)], [s]⟩ : Sm)]) 0) else []))), (_, .rd (Zg (if fm7 (ge ([(⟨(7 : Int), (⟨#[120]⟩ : ByteArray), [(⟨#[120]⟩ : ByteArray)], [s]⟩ : Sm)]) 0) then wd7 (ge ([(⟨(7 : Int), (⟨#[120]⟩ : ByteArray), [(⟨#[120]⟩ : ByteArray)], [s]⟩ : Sm)]) 0) else []))), (_, .int (if fm7 (ge ([(⟨(7 : Int), (⟨#[120]⟩ : ByteArray), [(⟨#[120]⟩ : ByteArray)], [s]⟩ : Sm)]) 0) then 0 else 2 : Int))] rfl rfl rfl rfl ⟨fun _ _ hk hx _ _ => ZV Zk Zay rfl (Rel.of_lit (Go.Value.string { data := #[120] }) (lb rfl)) (Zr hS _ hk hx _ (Nat.le_refl _)) (jo hJ hx), fun _ _ hk hx hl _ => ZV Zk Zay rfl (hl.dep 1 7 _ rfl rfl rfl rfl) (Zr hS _ hk hx _ (Nat.le_refl _)) (jo hJ hx), fun a _ _ hx hl _ => ZfH (us := [a.eval (Go.Operand.const (Go.Value.int Go.IntKind.i64 7)), a.eval (Go.Operand.const (Go.Value.string { data := #[120] })), a.eval (Go.Operand.tmp 6), a.eval (Go.Operand.tmp 8)]) Zgd rfl (by simp) (ZX (Rel.of_lit (Go.Value.int Go.IntKind.i64 7)) (ZX (Rel.of_lit (Go.Value.string { data := #[120] }) (lb rfl)) (ZX (hl.dep 0 6 _ rfl rfl rfl rfl) (ZX (hl.dep 2 8 _ rfl rfl rfl rfl) X0)))) rfl hx, fun _ _ hk hx hl _ => ZiP Qx Zkg rfl rfl (hl.dep 3 9 _ rfl rfl rfl rfl) (Zr hS _ hk hx _ (Nat.le_refl _)) (jo hJ hx), hFo hS hJ (Znx hJ (l := ([(⟨(7 : Int), (⟨#[120]⟩ : ByteArray), [(⟨#[120]⟩ : ByteArray)], [s]⟩ : Sm)])) (hG) (rfl) (rfl) (lb rfl)) Zl6 rfl rfl rfl rfl, trivial⟩ (nx (Zf (fun a w h => Zj h 0 rfl) fun hl1 => Zf (fun a w h => Zj h 1 rfl) fun hl2 => Zf (fun a w h => Zj h 2 rfl) fun hl3 => Zf (fun a w h => Zj h 3 rfl) fun hl4 => Za (rgo tb hJ [1002] [_, _, _] [] [(_, .bool (decide ((if fm7 (ge ([(⟨(7 : Int), (⟨#[120]⟩ : ByteArray), [(⟨#[120]⟩ : ByteArray)], [s]⟩ : Sm)]) 0) then 0 else 2 : Int) = (0 : Int))))] rfl rfl rfl rfl trivial (nx ?_))))))))
 refine Zi (fun a w h => Zh (m := 0) rfl (Zl h) rfl (congrArg AV.bool (show (decide ((if fm7 (ge ([(⟨(7 : Int), (⟨#[120]⟩ : ByteArray), [(⟨#[120]⟩ : ByteArray)], [s]⟩ : Sm)]) 0) then 0 else 2 : Int) = (0 : Int))) = (Yb s) from by rw [← fm7_x s]; simp only [ge, List.getD_cons_zero]; cases fm7 ⟨7, ⟨#[120]⟩, [⟨#[120]⟩], [s]⟩ <;> simp)))
end Go.Proofs.YtnpgmdffjemnbaaGreatDoor
namespace Go.Proofs.YtnpgmdffjemnbaaGreatDoor

theorem ZmH {d : Db} {k : Nat} {e : Int} (hk : k < d.consts.length) (h : ∀ j, j < k → ZbK d j = 0) (h0 : ZbK d k ≠ 0) (he : ZbK d k = e) : Xf d = e := by
  have := Z9 hk h h0
  rw [Xf, this, he]
  rw [he] at h0
  simp [h0]
theorem ZmG {d : Db} {k : Nat} {e : Int} (h1 : YV d.consts.length (ZbK d) = 0) (hk : k < d.vars.length) (h : ∀ j, j < k → ZcT d j = 0) (h0 : ZcT d k ≠ 0) (he : ZcT d k = e) : Xf d = e := by
  rw [Xf, h1, Z9 hk h h0, he]; rfl
theorem Znf {d : Db} (h1 : YV d.consts.length (ZbK d) = 0) (h2 : YV d.vars.length (ZcT d) = 0) : Xf d = 0 := by
  rw [Xf, h1, h2]; rfl
theorem Qr {α : Type} (ls : List (List α)) (k : Nat) : (ls.take k).flatten.length ≤ ls.flatten.length := by
  have h : ls.flatten = (ls.take k).flatten ++ (ls.drop k).flatten := by rw [← List.flatten_append, List.take_append_drop]
  rw [h, List.length_append]; omega
theorem ZjM {ts : List (ByteArray × ByteArray)} {vis : List ByteArray} {k : ByteArray} (h1 : vis.Nodup) (h2 : ∀ q ∈ vis, q ∈ ts.map (·.1)) (h3 : k ∉ vis ∧ (Zq ts k).isSome = true) : ts.length - (vis ++ [k]).length < ts.length - vis.length := by
  have hk : k ∈ ts.map (·.1) := by have := h3.2; rw [YS] at this; simpa using this
  have hn : (vis ++ [k]).Nodup := by
    rw [List.nodup_append]
    exact ⟨h1, by simp, fun x hx y hy e => by rw [List.mem_singleton.1 hy] at e; subst e; exact h3.1 hx⟩
  have := Zal (ys := ts.map (·.1)) hn fun x hx => by
    rcases List.mem_append.1 hx with h | h
    · exact h2 x h
    · rw [List.mem_singleton.1 h]; exact hk
  simp at this ⊢
  omega
theorem ZjL {ts tm tn : List (ByteArray × ByteArray)} {vis : List ByteArray} {k : ByteArray} (h1 : ∀ q, Zq tn q = if q ∈ vis then Zq ts q else Zq tm q) (h3 : k ∉ vis ∧ (Zq ts k).isSome = true) : ∀ q, Zq (Ql tn k ((Zq ts k).getD default)) q = if q ∈ vis ++ [k] then Zq ts q else Zq tm q := fun q => by
  obtain ⟨v, hv⟩ := Option.isSome_iff_exists.1 h3.2
  rw [XC]
  by_cases e : q = k
  · subst e; simp [hv]
  · rw [if_neg e, h1 q]
    simp [e]
def ZeV (vs : List ByteArray) (f : Fr) : List ByteArray := YZ vs (f.text :: (ZZ f.hyps).map Hy.text).flatten
def Zfq (m : List ByteArray) (h : Hy) : Bool := !h.floating || decide (ge h.text 1 ∈ m)
def Zif (vs : List ByteArray) (wide : List Pr) (i : Nat) : Bool := ((!Op.bytesLess (ge wide i).a.toList (ge wide i).b.toList || !decide ((ge wide i).a ∈ vs)) || !decide ((ge wide i).b ∈ vs)) || (decide ((0 : Int) < ((i : Nat) : Int)) && decide ((0 : Int) ≤ ZcI (ge wide (((i : Nat) : Int) - 1).toNat) (ge wide i)))
def ZmK (vs : List ByteArray) (f : Fr) : Bool :=
  ((f.hyps.all (Zfq (ZeV vs f)) && decide ((Zaf f.hyps).length = (ZeV vs f).length)) && (List.range f.wide.length).all fun i => !Zif vs f.wide i) && decide (f.apart = f.wide.filter (inV (ZeV vs f)))
def ZaJ (vs : List ByteArray) (f : Fr) : Int := if ZmK vs f then 0 else 70
theorem setE_h {vs : List ByteArray} {f : Fr} (h : f.hyps.all (Zfq (ZeV vs f)) = false) : ZaJ vs f = 70 := by simp [ZaJ, ZmK, h]
theorem setE_n {vs : List ByteArray} {f : Fr} (h : ¬ (Zaf f.hyps).length = (ZeV vs f).length) : ZaJ vs f = 70 := by simp [ZaJ, ZmK, h]
theorem setE_w {vs : List ByteArray} {f : Fr} {k : Nat} (hk : k < f.wide.length) (h : Zif vs f.wide k = true) : ZaJ vs f = 70 := by
  have : ((List.range f.wide.length).all fun i => !Zif vs f.wide i) = false := by
    rw [List.all_eq_false]
    exact ⟨k, by simpa using hk, by simp [h]⟩
  simp [ZaJ, ZmK, this]
theorem setE_a {vs : List ByteArray} {f : Fr} (h : ¬ f.apart = f.wide.filter (inV (ZeV vs f))) : ZaJ vs f = 70 := by simp [ZaJ, ZmK, h]
theorem Znp {vs : List ByteArray} {f : Fr} (h1 : f.hyps.all (Zfq (ZeV vs f)) = true) (h2 : (Zaf f.hyps).length = (ZeV vs f).length) (h3 : ∀ j, j < f.wide.length → Zif vs f.wide j = false) (h4 : f.apart = f.wide.filter (inV (ZeV vs f))) : ZaJ vs f = 0 := by
  have : ((List.range f.wide.length).all fun i => !Zif vs f.wide i) = true := by
    rw [List.all_eq_true]
    intro i hi
    simp [h3 i (by simpa using hi)]
  rw [ZaJ, ZmK, h1, this, decide_eq_true h2, decide_eq_true h4]
  rfl
end Go.Proofs.YtnpgmdffjemnbaaGreatDoor
set_option maxHeartbeats 8000000
set_option maxRecDepth 100000
namespace Go.Proofs.YtnpgmdffjemnbaaGreatDoor
open Go.RowKit

theorem ZiZ {J : World → Prop} (hJ : Stab J) (M1 : Nat) (M2 : Nat) (M3 : Nat) (M4 : Nat) (M5 : Nat) (d : Db)  : FnM (ι := { p' : List ByteArray × List ByteArray // Xf d = 0 → p' = (d.consts, d.vars) }) Tryz.prog J 75 [] [.ptr [.lit (.map (some M1)), .lit (.map (some M2)), .lit (.map (some M3)), .lit (.map (some M4)), .lit (.map (some M5))], .agg (dbC d)] [OB.set keyS M1 ([] : List ByteArray), OB.set keyS M2 ([] : List ByteArray)] (fun _ => .int (Xf d)) (fun i' => [OB.set keyS M1 (i'.1.1), OB.set keyS M2 (i'.1.2)]) := by
 refine YK (N := 50) Tryz.func75 rfl rfl (lb rfl) fun S w0 R hS hJ0 hH => ?_
 refine XA (B := St All (SO S (OB.set keyS M1 ([] : List ByteArray) :: OB.set keyS M2 ([] : List ByteArray) :: R)) w0 50 [(0, .ptr [.lit (.map (some M1)), .lit (.map (some M2)), .lit (.map (some M3)), .lit (.map (some M4)), .lit (.map (some M5))]), (1, .agg (dbC d))] (XO J S w0.heap.size (OB.set keyS M1 ([] : List ByteArray) :: OB.set keyS M2 ([] : List ByteArray) :: R))) ?_ fun a w h => h
 refine Za (rgo tb hJ [0, 1000] [_, _] [0] [(_, _), (_, .ptr (dbC d))] rfl rfl rfl rfl ⟨fun _ _ hk hx hl _ => Yv rfl (hl.env 1 1 _ rfl rfl) (Zr hS _ hk hx _ (Nat.le_refl _)) (jo hJ hx), trivial⟩ (nx (Za (Za (rgo tb hJ [0, 1, 1001, 1002, 1003] [_, _, _, _] [2] [(_, _), (_, _), (_, .rd (Zg d.consts)), (_, .int d.consts.length), (_, .int (0 : Int))] rfl rfl rfl rfl ⟨Ys ZB rfl rfl rfl rfl, trivial⟩ (nx (Zf (fun a w h => Zj h 2 rfl) fun hl1 => Ze (Zw (ι := Nat × (List ByteArray)) (fun (ii' : Nat × (List ByteArray)) a w => match ii' with | (k, cs) => ((k ≤ d.consts.length) ∧ (cs = d.consts.take k) ∧ (∀ j, j < k → ZbK d j = 0)) ∧ St All (SO S (OB.set keyS M1 cs :: OB.set keyS M2 ([] : List ByteArray) :: R)) w0 50 [(0, .ptr [.lit (.map (some M1)), .lit (.map (some M2)), .lit (.map (some M3)), .lit (.map (some M4)), .lit (.map (some M5))]), (3, .ptr (dbC d)), (10, .rd (Zg d.consts)), (11, .int d.consts.length), (12, .int k)] (XO J S w0.heap.size (OB.set keyS M1 cs :: OB.set keyS M2 ([] : List ByteArray) :: R)) a w) (fun (ii' : Nat × (List ByteArray)) => match ii' with | (k, _) => (d.consts.length - k : Nat)) ?_ ?_))))))))
 intro a w h
 exact ⟨(0, ([] : List ByteArray)), (show (0 ≤ d.consts.length) ∧ (([] : List ByteArray) = d.consts.take 0) ∧ (∀ j, j < 0 → ZbK d j = 0) from ⟨Nat.zero_le _, rfl, fun j hj => by omega⟩), lz [0, 1, 2, 3, 4] rfl h⟩
 rintro ⟨k, cs⟩
 refine ZD fun hF => ?_
 obtain ⟨f1_1, f1_2, f1_3⟩ := hF
 refine Za (rgo tb hJ [0, 1, 2, 3, 4, 1000] [_] [] [(_, _), (_, _), (_, _), (_, _), (_, _), (_, .bool (decide ((k : Int) < (d.consts.length : Int))))] rfl rfl rfl rfl trivial (nx (Za (tc 5 rfl rfl (fun hb1 => ?_) (fun hb1 => ?_)))))
 try simp at hb1
 refine Zd (nx (Za (Ze (Za (rgo tb hJ [0, 1, 2, 3, 4, 1002] [.ptr [.lit (.string (ge d.consts k))], _, _] [0] [(_, _), (_, _), (_, _), (_, _), (_, _), (_, .str (ge d.consts k))] rfl rfl rfl rfl ⟨hIx Zk (by first | omega | (simp; omega) | grind [Zb]) rfl rfl rfl rfl rfl rfl, trivial⟩ (nx (Za (Za (rgo tb hJ [0, 1, 2, 3, 4, 5, 1002] [_, .bool (Zbh (ge d.consts k)), _] [1] [(_, _), (_, _), (_, _), (_, _), (_, _), (_, _), (_, .bool (!(Zbh (ge d.consts k))))] rfl rfl rfl rfl ⟨hFo hS hJ (Zbs hJ (s := (ge d.consts k)) ) Zf5 rfl rfl rfl rfl, trivial⟩ (nx (tc 6 rfl rfl (fun hb2 => ?_) (fun hb2 => ?_))))))))))))
 try simp at hb2
 have q2 : ZbK d k = 2 := by simp [ZbK, hb2]
 have e9 : Xf d = 2 := ZmH (by omega) f1_3 (by rw [q2]; decide) q2
 refine Za (rgo tb hJ [1000] [_] [] [(_, .int (2 : Int))] rfl rfl rfl rfl trivial (nx ?_))
 refine tw (ob0 (congrArg (fun z' => OB.set keyS M1 (z')) (show cs = ((⟨(cs, ([] : List ByteArray)), by first | (intro h9; rw [e9] at h9; exact absurd h9 (by decide)) | (intro _; rw [e1c, f2_2, Zp (by omega)])⟩ : { p' : List ByteArray × List ByteArray // Xf d = 0 → p' = (d.consts, d.vars) }).1.1) from rfl))) ?_
 refine tw (ob1 (congrArg (fun z' => OB.set keyS M2 (z')) (show ([] : List ByteArray) = ((⟨(cs, ([] : List ByteArray)), by first | (intro h9; rw [e9] at h9; exact absurd h9 (by decide)) | (intro _; rw [e1c, f2_2, Zp (by omega)])⟩ : { p' : List ByteArray × List ByteArray // Xf d = 0 → p' = (d.consts, d.vars) }).1.2) from rfl))) ?_
 refine Zi (fun a w h => Yh  (m := 0) (⟨(cs, ([] : List ByteArray)), by first | (intro h9; rw [e9] at h9; exact absurd h9 (by decide)) | (intro _; rw [e1c, f2_2, Zp (by omega)])⟩ : { p' : List ByteArray × List ByteArray // Xf d = 0 → p' = (d.consts, d.vars) }) rfl h rfl (congrArg AV.int (show (2 : Int) = (Xf d) from e9.symm)))
 try simp at hb2
 refine Zd (nx (Za (Za (rgo tb hJ [0, 1, 2, 3, 4, 5, 1005] [_, _, _, _, _, _] [5] [(_, _), (_, _), (_, _), (_, _), (_, _), (_, _), (_, .bool (decide ((ge d.consts k) ∈ cs)))] rfl rfl rfl rfl ⟨fun _ _ _ hx hl _ => Yo (Kd := keyS) (xs := cs) ZU ZY (ge d.consts k) rfl (ZA hx (mo 0 rfl)) (hl.dep 3 22 _ rfl rfl rfl rfl) (hl.dep 4 23 _ rfl rfl rfl rfl) hx, trivial⟩ (nx (tc 6 rfl rfl (fun hb3 => ?_) (fun hb3 => ?_)))))))
 try simp at hb3
 have q2 : ZbK d k = 6 := by simp [ZbK, hb2, ← f1_2, hb3]
 have e9 : Xf d = 6 := ZmH (by omega) f1_3 (by rw [q2]; decide) q2
 refine Za (rgo tb hJ [1000] [_] [] [(_, .int (6 : Int))] rfl rfl rfl rfl trivial (nx ?_))
 refine tw (ob0 (congrArg (fun z' => OB.set keyS M1 (z')) (show cs = ((⟨(cs, ([] : List ByteArray)), by first | (intro h9; rw [e9] at h9; exact absurd h9 (by decide)) | (intro _; rw [e1c, f2_2, Zp (by omega)])⟩ : { p' : List ByteArray × List ByteArray // Xf d = 0 → p' = (d.consts, d.vars) }).1.1) from rfl))) ?_
 refine tw (ob1 (congrArg (fun z' => OB.set keyS M2 (z')) (show ([] : List ByteArray) = ((⟨(cs, ([] : List ByteArray)), by first | (intro h9; rw [e9] at h9; exact absurd h9 (by decide)) | (intro _; rw [e1c, f2_2, Zp (by omega)])⟩ : { p' : List ByteArray × List ByteArray // Xf d = 0 → p' = (d.consts, d.vars) }).1.2) from rfl))) ?_
 refine Zi (fun a w h => Yh  (m := 0) (⟨(cs, ([] : List ByteArray)), by first | (intro h9; rw [e9] at h9; exact absurd h9 (by decide)) | (intro _; rw [e1c, f2_2, Zp (by omega)])⟩ : { p' : List ByteArray × List ByteArray // Xf d = 0 → p' = (d.consts, d.vars) }) rfl h rfl (congrArg AV.int (show (6 : Int) = (Xf d) from e9.symm)))
 try simp at hb3
 refine Zd (nx (Zn (sv tb rfl rfl rfl rfl (sv (av := .ptr [.lit (.map (some M1)), .lit (.map (some M2)), .lit (.map (some M3)), .lit (.map (some M4)), .lit (.map (some M5))]) tb rfl rfl rfl rfl (sv (av := .ptr [.lit (.map (some M1)), .lit (.map (some M2)), .lit (.map (some M3)), .lit (.map (some M4)), .lit (.map (some M5))]) tb rfl rfl rfl rfl (sv (av := .lit (.map (some M1))) tb rfl rfl rfl rfl (sv tb rfl rfl rfl rfl (Zbk ZU hJ hJ0 (ge d.consts k) rfl rfl (.inl rfl) (fun a w h => ⟨(h.get 1 rfl), (h.get 0 rfl), (Rel.of_lit (Go.Value.bool true))⟩) (Zy ?_)))))))))
 refine kw (lz [5, 6, 7, 8, 9] (env' := [(_, _), (_, _), (_, _), (_, _), (_, _)]) rfl) ?_
 refine nx (rgo tb hJ [0, 1, 2, 3, 1001] [.int ((k + 1 : Nat) : Int), _] [0] [(_, _), (_, _), (_, _), (_, _), (_, .int ((k + 1 : Nat) : Int))] rfl rfl rfl rfl ⟨Yc (by first | omega | (simp; omega) | grind [Zb]) rfl rfl rfl rfl rfl, trivial⟩ ?_)
 intro a w h; change ∃ j, _ ∧ _
 exact ⟨(k + 1, Z5 cs (ge d.consts k)), ⟨⟨(show (k + 1) ≤ d.consts.length from by omega), (show (Z5 cs (ge d.consts k)) = d.consts.take (k + 1) from by rw [ZS (by omega), ← f1_2]; simp [Z5, hb3]), (show ∀ j, j < (k + 1) → ZbK d j = 0 from ZW f1_3 (by simp [ZbK, hb2, ← f1_2, hb3]))⟩, lz [0, 1, 2, 3, 4] rfl h⟩, (show d.consts.length - (k + 1) < d.consts.length - k from by first | omega | (simp; omega))⟩
 try simp at hb1
 have e1c : cs = d.consts := by rw [f1_2, Zp (by omega)]
 have e1 : YV d.consts.length (ZbK d) = 0 := Xl fun j hj => f1_3 j (by omega)
 refine Zv (nx (Za (Za (rgo tb hJ [0, 1001, 1002, 1003] [_, _, _, _] [2] [(_, _), (_, .rd (Zg d.vars)), (_, .int d.vars.length), (_, .int (0 : Int))] rfl rfl rfl rfl ⟨Ys ZB rfl rfl rfl rfl, trivial⟩ (nx (Zf (fun a w h => Zj h 1 rfl) fun hl2 => Ze (Zw (ι := Nat × (List ByteArray)) (fun (ii' : Nat × (List ByteArray)) a w => match ii' with | (k, vs) => ((k ≤ d.vars.length) ∧ (vs = d.vars.take k) ∧ (∀ j, j < k → ZcT d j = 0)) ∧ St All (SO S (OB.set keyS M1 cs :: OB.set keyS M2 vs :: R)) w0 50 [(0, .ptr [.lit (.map (some M1)), .lit (.map (some M2)), .lit (.map (some M3)), .lit (.map (some M4)), .lit (.map (some M5))]), (32, .rd (Zg d.vars)), (33, .int d.vars.length), (34, .int k)] (XO J S w0.heap.size (OB.set keyS M1 cs :: OB.set keyS M2 vs :: R)) a w) (fun (ii' : Nat × (List ByteArray)) => match ii' with | (k, _) => (d.vars.length - k : Nat)) ?_ ?_)))))))
 intro a w h
 exact ⟨(0, ([] : List ByteArray)), (show (0 ≤ d.vars.length) ∧ (([] : List ByteArray) = d.vars.take 0) ∧ (∀ j, j < 0 → ZcT d j = 0) from ⟨Nat.zero_le _, rfl, fun j hj => by omega⟩), lz [0, 1, 2, 3] rfl h⟩
 rintro ⟨k, vs⟩
 refine ZD fun hF => ?_
 obtain ⟨f2_1, f2_2, f2_3⟩ := hF
 refine Za (rgo tb hJ [0, 1, 2, 3, 1000] [_] [] [(_, _), (_, _), (_, _), (_, _), (_, .bool (decide ((k : Int) < (d.vars.length : Int))))] rfl rfl rfl rfl trivial (nx (Za (tc 4 rfl rfl (fun hb4 => ?_) (fun hb4 => ?_)))))
 try simp at hb4
 refine Zd (nx (Za (Ze (Za (rgo tb hJ [0, 1, 2, 3, 1002] [.ptr [.lit (.string (ge d.vars k))], _, _] [0] [(_, _), (_, _), (_, _), (_, _), (_, .str (ge d.vars k))] rfl rfl rfl rfl ⟨hIx Zk (by first | omega | (simp; omega) | grind [Zb]) rfl rfl rfl rfl rfl rfl, trivial⟩ (nx (Za (Za (rgo tb hJ [0, 1, 2, 3, 4, 1002] [_, .bool (Zbh (ge d.vars k)), _] [1] [(_, _), (_, _), (_, _), (_, _), (_, _), (_, .bool (!(Zbh (ge d.vars k))))] rfl rfl rfl rfl ⟨hFo hS hJ (Zbs hJ (s := (ge d.vars k)) ) Zf5 rfl rfl rfl rfl, trivial⟩ (nx (tc 5 rfl rfl (fun hb5 => ?_) (fun hb5 => ?_))))))))))))
 try simp at hb5
 have q5 : ZcT d k = 2 := by simp [ZcT, hb5]
 have e9 : Xf d = 2 := ZmG e1 (by omega) f2_3 (by rw [q5]; decide) q5
 refine Za (rgo tb hJ [1000] [_] [] [(_, .int (2 : Int))] rfl rfl rfl rfl trivial (nx ?_))
 refine tw (ob0 (congrArg (fun z' => OB.set keyS M1 (z')) (show cs = ((⟨(cs, vs), by first | (intro h9; rw [e9] at h9; exact absurd h9 (by decide)) | (intro _; rw [e1c, f2_2, Zp (by omega)])⟩ : { p' : List ByteArray × List ByteArray // Xf d = 0 → p' = (d.consts, d.vars) }).1.1) from rfl))) ?_
 refine tw (ob1 (congrArg (fun z' => OB.set keyS M2 (z')) (show vs = ((⟨(cs, vs), by first | (intro h9; rw [e9] at h9; exact absurd h9 (by decide)) | (intro _; rw [e1c, f2_2, Zp (by omega)])⟩ : { p' : List ByteArray × List ByteArray // Xf d = 0 → p' = (d.consts, d.vars) }).1.2) from rfl))) ?_
 refine Zi (fun a w h => Yh  (m := 0) (⟨(cs, vs), by first | (intro h9; rw [e9] at h9; exact absurd h9 (by decide)) | (intro _; rw [e1c, f2_2, Zp (by omega)])⟩ : { p' : List ByteArray × List ByteArray // Xf d = 0 → p' = (d.consts, d.vars) }) rfl h rfl (congrArg AV.int (show (2 : Int) = (Xf d) from e9.symm)))
 try simp at hb5
 refine Zd (nx (Za (Za (rgo tb hJ [0, 1, 2, 3, 4, 1002] [_, _, _] [2] [(_, _), (_, _), (_, _), (_, _), (_, _), (_, .bool (decide ((ge d.vars k) ∈ cs) || decide ((ge d.vars k) ∈ vs)))] rfl rfl rfl rfl ⟨fun _ _ hk hx hl _ => X1 (Zaj hJ (M1 := M1) (M2 := M2) (M3 := M3) (M4 := M4) (M5 := M5) (cs := cs) (vs := vs) (s := (ge d.vars k)) ) Zd5 rfl (Zr hS _ hk hx) (hx.1) (Z0 (ZA hx (mo 0 rfl)) (Z0 (ZA hx (mo 1 rfl)) ZP)) (Zc (hl.dep 0 41 _ rfl rfl rfl rfl) (Zc (hl.dep 1 42 _ rfl rfl rfl rfl) Zm)) (jo hJ hx), trivial⟩ (nx (tc 5 rfl rfl (fun hb6 => ?_) (fun hb6 => ?_)))))))
 try simp at hb6
 have q5 : ZcT d k = 6 := by rw [ZcT, if_neg (by simp [hb5]), if_pos (by rw [← f2_2, ← e1c]; simpa using hb6)]
 have e9 : Xf d = 6 := ZmG e1 (by omega) f2_3 (by rw [q5]; decide) q5
 refine Za (rgo tb hJ [1000] [_] [] [(_, .int (6 : Int))] rfl rfl rfl rfl trivial (nx ?_))
 refine tw (ob0 (congrArg (fun z' => OB.set keyS M1 (z')) (show cs = ((⟨(cs, vs), by first | (intro h9; rw [e9] at h9; exact absurd h9 (by decide)) | (intro _; rw [e1c, f2_2, Zp (by omega)])⟩ : { p' : List ByteArray × List ByteArray // Xf d = 0 → p' = (d.consts, d.vars) }).1.1) from rfl))) ?_
 refine tw (ob1 (congrArg (fun z' => OB.set keyS M2 (z')) (show vs = ((⟨(cs, vs), by first | (intro h9; rw [e9] at h9; exact absurd h9 (by decide)) | (intro _; rw [e1c, f2_2, Zp (by omega)])⟩ : { p' : List ByteArray × List ByteArray // Xf d = 0 → p' = (d.consts, d.vars) }).1.2) from rfl))) ?_
 refine Zi (fun a w h => Yh  (m := 0) (⟨(cs, vs), by first | (intro h9; rw [e9] at h9; exact absurd h9 (by decide)) | (intro _; rw [e1c, f2_2, Zp (by omega)])⟩ : { p' : List ByteArray × List ByteArray // Xf d = 0 → p' = (d.consts, d.vars) }) rfl h rfl (congrArg AV.int (show (6 : Int) = (Xf d) from e9.symm)))
 try simp at hb6
 refine Zd (nx (Zn (sv tb rfl rfl rfl rfl (sv (av := .ptr [.lit (.map (some M1)), .lit (.map (some M2)), .lit (.map (some M3)), .lit (.map (some M4)), .lit (.map (some M5))]) tb rfl rfl rfl rfl (sv (av := .ptr [.lit (.map (some M2)), .lit (.map (some M3)), .lit (.map (some M4)), .lit (.map (some M5))]) tb rfl rfl rfl rfl (sv (av := .lit (.map (some M2))) tb rfl rfl rfl rfl (sv tb rfl rfl rfl rfl ?_)))))))
 refine kw pm1 ?_
 refine Zbk ZU hJ hJ0 (ge d.vars k) rfl rfl (.inl rfl) (fun a w h => ⟨(h.get 1 rfl), (h.get 0 rfl), (Rel.of_lit (Go.Value.bool true))⟩) (Zy ?_)
 refine kw (lz [5, 6, 7, 8] (env' := [(_, _), (_, _), (_, _), (_, _)]) rfl) ?_
 refine nx (rgo tb hJ [0, 1, 2, 1001] [.int ((k + 1 : Nat) : Int), _] [0] [(_, _), (_, _), (_, _), (_, .int ((k + 1 : Nat) : Int))] rfl rfl rfl rfl ⟨Yc (by first | omega | (simp; omega) | grind [Zb]) rfl rfl rfl rfl rfl, trivial⟩ ?_)
 refine kw pm1 ?_
 intro a w h; change ∃ j, _ ∧ _
 exact ⟨(k + 1, Z5 vs (ge d.vars k)), ⟨⟨(show (k + 1) ≤ d.vars.length from by omega), (show (Z5 vs (ge d.vars k)) = d.vars.take (k + 1) from by rw [ZS (by omega), ← f2_2]; simp only [Z5]; rw [if_neg hb6.2]), (show ∀ j, j < (k + 1) → ZcT d j = 0 from ZW f2_3 (by rw [ZcT, if_neg (by simp [hb5]), if_neg (by rw [← f2_2, ← e1c]; simpa using hb6)]))⟩, lz [0, 1, 2, 3] rfl h⟩, (show d.vars.length - (k + 1) < d.vars.length - k from by first | omega | (simp; omega))⟩
 try simp at hb4
 have e9 : Xf d = 0 := Znf e1 (Xl fun j hj => f2_3 j (by omega))
 refine Zv (nx (Za (rgo tb hJ [1000] [_] [] [(_, .int (0 : Int))] rfl rfl rfl rfl trivial (nx ?_))))
 refine tw (ob0 (congrArg (fun z' => OB.set keyS M1 (z')) (show cs = ((⟨(cs, vs), by first | (intro h9; rw [e9] at h9; exact absurd h9 (by decide)) | (intro _; rw [e1c, f2_2, Zp (by omega)])⟩ : { p' : List ByteArray × List ByteArray // Xf d = 0 → p' = (d.consts, d.vars) }).1.1) from rfl))) ?_
 refine tw (ob1 (congrArg (fun z' => OB.set keyS M2 (z')) (show vs = ((⟨(cs, vs), by first | (intro h9; rw [e9] at h9; exact absurd h9 (by decide)) | (intro _; rw [e1c, f2_2, Zp (by omega)])⟩ : { p' : List ByteArray × List ByteArray // Xf d = 0 → p' = (d.consts, d.vars) }).1.2) from rfl))) ?_
 refine Zi (fun a w h => Yh  (m := 0) (⟨(cs, vs), by first | (intro h9; rw [e9] at h9; exact absurd h9 (by decide)) | (intro _; rw [e1c, f2_2, Zp (by omega)])⟩ : { p' : List ByteArray × List ByteArray // Xf d = 0 → p' = (d.consts, d.vars) }) rfl h rfl (congrArg AV.int (show (0 : Int) = (Xf d) from e9.symm)))
theorem p_hyp {J : World → Prop} (hJ : Stab J) (M1 : Nat) (M2 : Nat) (M3 : Nat) (M4 : Nat) (M5 : Nat) (L1 : Nat) (T1 : Nat) (cs : List ByteArray) (vs : List ByteArray) (fs : List ByteArray) (hm : List (ByteArray × Hy)) (tm : List (ByteArray × ByteArray)) (ls : List ByteArray) (ts : List (ByteArray × ByteArray)) (y : Hy) (dm : Bool)  : FnR Tryz.prog J 90 [OB.set keyS M1 cs, OB.set keyS M2 vs, OB.set keyS M3 fs, OB.map keyS (fun z' : Hy => AV.agg (hyC z')) M4 hm, OB.map keyS (fun z' : ByteArray => AV.str z') M5 tm, OB.set keyS L1 ls, OB.map keyS (fun z' : ByteArray => AV.str z') T1 ts] [.ptr [.lit (.map (some M1)), .lit (.map (some M2)), .lit (.map (some M3)), .lit (.map (some M4)), .lit (.map (some M5))], .agg [.lit (.map (some L1)), .lit (.map (some T1))], .agg (hyC y), .bool dm] (.int (Zav cs vs fs hm tm ls ts y dm)) := by
 refine Yp (N := 166) Tryz.func90 rfl rfl (lb rfl) fun S w0 hS hJ0 hH => ?_
 refine tw Yi ?_
 refine Za (rgo tb hJ [0, 3, 1000, 1001] [_, _, _] [0, 1] [(_, _), (_, _), (_, .ptr [.lit (.map (some L1)), .lit (.map (some T1))]), (_, .ptr (hyC y))] rfl rfl rfl rfl ⟨fun _ _ hk hx hl _ => Yv rfl (hl.env 1 1 _ rfl rfl) (Zr hS _ hk hx _ (Nat.le_refl _)) (jo hJ hx), fun _ _ hk hx hl _ => Yv rfl (hl.env 2 2 _ rfl rfl) (Zr hS _ hk hx _ (Nat.le_refl _)) (jo hJ hx), trivial⟩ (nx (Za (Za (rgo tb hJ [0, 2, 3, 1038] [_, _, .bool (Q8 y.label), _, _, _, _, _, _, _, _, _, _, _, _, _, _, _, .int y.text.length, _, _, _, _, _, _, _, _, _, _, .int y.text.length, _, _, _, _, .int y.text.length, _, _, _, _] [2, 18, 29, 34] [(_, _), (_, _), (_, _), (_, .bool ((((!(Q8 y.label)) || (dm && (!y.floating))) || (y.floating && (!decide ((y.text.length : Int) = (2 : Int))))) || ((!y.floating) && ((decide ((y.text.length : Int) = (0 : Int))) || (decide ((200 : Int) < (y.text.length : Int)))))))] rfl rfl rfl rfl ⟨hFo hS hJ (Zci hJ (s := y.label) ) Zf4 rfl rfl rfl rfl, fun _ _ _ hx hl hc => Yy ZB rfl (hl.dep 17 33 _ rfl rfl rfl hc) hx, fun _ _ _ hx hl hc => Yy ZB rfl (hl.dep 28 44 _ rfl rfl rfl hc) hx, fun _ _ _ hx hl hc => Yy ZB rfl (hl.dep 33 49 _ rfl rfl rfl hc) hx, trivial⟩ (nx (tc 3 rfl rfl (fun hb1 => ?_) (fun hb1 => ?_))))))))
 ·
  replace hb1 : Qv y dm = true := hb1
  refine Za (rgo tb hJ [1000] [_] [] [(_, .int (2 : Int))] rfl rfl rfl rfl trivial (nx (Zi (fun a w h => Zh (m := 0) rfl (Zl h) rfl (congrArg AV.int (show (2 : Int) = (Zav cs vs fs hm tm ls ts y dm) from by clear h; grind [Zav]))))))
 ·
  replace hb1 : Qv y dm = false := hb1
  have hy1 := Ze6 hb1
  refine Zd (nx (Za (Za (rgo tb hJ [0, 1, 2, 1019] [_, _, _, .bool (decide (y.label ∈ cs) || decide (y.label ∈ vs)), _, _, _, _, _, _, _, .bool (decide (y.label ∈ fs)), _, _, _, _, _, _, .bool (decide (y.label ∈ ls)), _] [3, 11, 18] [(_, _), (_, _), (_, _), (_, .bool (((decide (y.label ∈ cs) || decide (y.label ∈ vs)) || (decide (y.label ∈ fs))) || (decide (y.label ∈ ls))))] rfl rfl rfl rfl ⟨fun _ _ hk hx hl _ => X1 (Zaj hJ (M1 := M1) (M2 := M2) (M3 := M3) (M4 := M4) (M5 := M5) (cs := cs) (vs := vs) (s := y.label) ) Zd5 rfl (Zr hS _ hk hx) (hx.1) (Z0 (YF hH hk hx (mo 0 rfl)) (Z0 (YF hH hk hx (mo 1 rfl)) ZP)) (Zc (hl.dep 0 55 _ rfl rfl rfl rfl) (Zc (hl.dep 2 57 _ rfl rfl rfl rfl) Zm)) (jo hJ hx), fun _ _ hk hx hl hc => Yo (Kd := keyS) (xs := fs) ZU ZY y.label rfl (YF hH hk hx (mo 2 rfl)) (hl.dep 8 63 _ rfl rfl rfl hc) (hl.dep 10 65 _ rfl rfl rfl hc) hx, fun _ _ hk hx hl hc => Yo (Kd := keyS) (xs := ls) ZU ZY y.label rfl (YF hH hk hx (mo 5 rfl)) (hl.dep 15 70 _ rfl rfl rfl hc) (hl.dep 17 72 _ rfl rfl rfl hc) hx, trivial⟩ (nx (tc 3 rfl rfl (fun hb2 => ?_) (fun hb2 => ?_)))))))
  ·
   refine Za (rgo tb hJ [1000] [_] [] [(_, .int (6 : Int))] rfl rfl rfl rfl trivial (nx (Zi (fun a w h => Zh (m := 0) rfl (Zl h) rfl (congrArg AV.int (show (6 : Int) = (Zav cs vs fs hm tm ls ts y dm) from by clear h; grind [Zav]))))))
  ·
   refine Zd (nx (Za (Za (rgo tb hJ [0, 1, 2, 1001] [_, _] [] [(_, _), (_, _), (_, _), (_, .bool y.floating)] rfl rfl rfl rfl trivial (nx (tc 3 rfl rfl (fun hb3 => ?_) (fun hb3 => ?_)))))))
   ·
    refine Za (Za (rgo tb hJ [0, 1, 2, 1005, 1021] [_, _, _, _, _, _, .ptr [.lit (.string (ge y.text 0))], _, .bool (decide ((ge y.text 0) ∈ cs)), _, _, _, _, _, _, _, _, .ptr [.lit (.string (ge y.text 1))], _, .bool (decide ((ge y.text 1) ∈ vs)), _, _] [6, 8, 17, 19] [(_, _), (_, _), (_, _), (_, .rd (Zg y.text)), (_, .bool ((!(decide ((ge y.text 0) ∈ cs))) || (!(decide ((ge y.text 1) ∈ vs)))))] rfl rfl rfl rfl ⟨hIx (k := 0) Zk (by have := Yl hb1 hb3; omega) rfl rfl rfl rfl rfl rfl, fun _ _ hk hx hl _ => Yo (Kd := keyS) (xs := cs) ZU ZY (ge y.text 0) rfl (YF hH hk hx (mo 0 rfl)) (hl.dep 3 80 _ rfl rfl rfl rfl) (hl.dep 7 84 _ rfl rfl rfl rfl) hx, fun _ _ _ hx hl hc => ZI (i := ((1 : Nat) : Int)) Zk rfl (hl.dep 16 93 _ rfl rfl rfl hc) (Rel.of_lit (Go.Value.int Go.IntKind.i64 1)) (Int.natCast_nonneg _) (ZL (xs := y.text) (k := 1) (by have hc' : ((!(decide ((ge y.text 0) ∈ cs))) == false) = true := hc; (try simp at hc'); (have := Yl hb1 hb3; omega))) rfl hx, fun _ _ hk hx hl hc => Yo (Kd := keyS) (xs := vs) ZU ZY (ge y.text 1) rfl (YF hH hk hx (mo 1 rfl)) (hl.dep 14 91 _ rfl rfl rfl hc) (hl.dep 18 95 _ rfl rfl rfl hc) hx, trivial⟩ (nx (Zf (fun a w h => Zj h 3 rfl) fun hl1 => tc 4 rfl rfl (fun hb4 => ?_) (fun hb4 => ?_)))))
    ·
     refine Za (rgo tb hJ [1000] [_] [] [(_, .int (12 : Int))] rfl rfl rfl rfl trivial (nx (Zi (fun a w h => Zh (m := 0) rfl (Zl h) rfl (congrArg AV.int (show (12 : Int) = (Zav cs vs fs hm tm ls ts y dm) from by clear h; grind [Zav]))))))
    ·
     refine Zd (nx (Za (rgo tb hJ [0, 2, 1010, 1011] [_, _, _, _, .ptr [.lit (.string (ge y.text 1))], _, .tup [.str ((Zq ts (ge y.text 1)).getD default), .bool ((Zq ts (ge y.text 1)).isSome)], _, _, _, _, _] [4, 6] [(_, _), (_, _), (_, .str ((Zq ts (ge y.text 1)).getD default)), (_, .bool ((Zq ts (ge y.text 1)).isSome))] rfl rfl rfl rfl ⟨hIx (k := 1) Zk (by have := Yl hb1 hb3; omega) rfl rfl rfl rfl rfl rfl, fun _ _ hk hx hl _ => Xg (Kd := keyS) (f := (fun z' : ByteArray => AV.str z')) (L := ts) Qq Zb3 (ge y.text 1) rfl (YF hH hk hx (mo 6 rfl)) (hl.dep 1 101 _ rfl rfl rfl rfl) (hl.dep 5 105 _ rfl rfl rfl rfl) hx, trivial⟩ (nx (Za (Za (rgo tb hJ [0, 1, 2, 3, 1012, 1013] [_, _, _, _, _, _, .ptr [.lit (.string (ge y.text 1))], _, .tup [.str ((Zq tm (ge y.text 1)).getD default), .bool ((Zq tm (ge y.text 1)).isSome)], _, _, _, _, _] [6, 8] [(_, _), (_, _), (_, _), (_, _), (_, .str ((Zq tm (ge y.text 1)).getD default)), (_, .bool ((Zq tm (ge y.text 1)).isSome))] rfl rfl rfl rfl ⟨hIx (k := 1) Zk (by have := Yl hb1 hb3; omega) rfl rfl rfl rfl rfl rfl, fun _ _ hk hx hl _ => Xg (Kd := keyS) (f := (fun z' : ByteArray => AV.str z')) (L := tm) Qq Zb3 (ge y.text 1) rfl (YF hH hk hx (mo 4 rfl)) (hl.dep 3 113 _ rfl rfl rfl rfl) (hl.dep 7 117 _ rfl rfl rfl rfl) hx, trivial⟩ (nx (Za (rgo tb hJ [0, 1, 3, 1019] [_, _, _, _, _, .ptr [.lit (.string (ge y.text 0))], _, _, _, _, _, _, _, _, _, .ptr [.lit (.string (ge y.text 0))], _, _, _, _] [5, 15] [(_, _), (_, _), (_, _), (_, .bool ((((Zq tm (ge y.text 1)).isSome) && (!decide (((Zq tm (ge y.text 1)).getD default) = (ge y.text 0)))) || (((Zq ts (ge y.text 1)).isSome) && (!decide (((Zq ts (ge y.text 1)).getD default) = (ge y.text 0))))))] rfl rfl rfl rfl ⟨fun _ _ _ hx hl hc => ZI (i := ((0 : Nat) : Int)) Zk rfl (hl.dep 4 125 _ rfl rfl rfl hc) (Rel.of_lit (Go.Value.int Go.IntKind.i64 0)) (Int.natCast_nonneg _) (ZL (xs := y.text) (k := 0) (by have hc' : (((Zq tm (ge y.text 1)).isSome) == true) = true := hc; (try simp at hc'); (have := Yl hb1 hb3; omega))) rfl hx, fun _ _ _ hx hl hc => ZI (i := ((0 : Nat) : Int)) Zk rfl (hl.dep 14 135 _ rfl rfl rfl hc) (Rel.of_lit (Go.Value.int Go.IntKind.i64 0)) (Int.natCast_nonneg _) (ZL (xs := y.text) (k := 0) (by have hc' : (((((Zq tm (ge y.text 1)).isSome) && (!decide (((Zq tm (ge y.text 1)).getD default) = (ge y.text 0)))) == false) && (((Zq ts (ge y.text 1)).isSome) == true)) = true := hc; (try simp at hc'); (have := Yl hb1 hb3; omega))) rfl hx, trivial⟩ (nx (tc 3 rfl rfl (fun hb5 => ?_) (fun hb5 => ?_)))))))))))))
     ·
      refine Za (rgo tb hJ [1000] [_] [] [(_, .int (11 : Int))] rfl rfl rfl rfl trivial (nx (Zi (fun a w h => Zh (m := 0) rfl (Zl h) rfl (congrArg AV.int (show (11 : Int) = (Zav cs vs fs hm tm ls ts y dm) from by clear h; grind [Zav]))))))
     ·
      refine Zd (nx (Za (rgo tb hJ [0, 1, 1000] [_] [] [(_, _), (_, _), (_, .bool ((Zq ts (ge y.text 1)).isSome))] rfl rfl rfl rfl trivial (nx (tc 2 rfl rfl (fun hb6 => ?_) (fun hb6 => ?_))))))
      ·
       refine Za (rgo tb hJ [1000] [_] [] [(_, .int (6 : Int))] rfl rfl rfl rfl trivial (nx (Zi (fun a w h => Zh (m := 0) rfl (Zl h) rfl (congrArg AV.int (show (6 : Int) = (Zav cs vs fs hm tm ls ts y dm) from by clear h; grind [Zav]))))))
      ·
       refine Zd (nx (Za (Za ?_)))
       refine fun a w h => Xo (γ := Nat) (fun ix' => ([.ptr [.lit (.map (some M1)), .lit (.map (some M2)), .lit (.map (some M3)), .lit (.map (some M4)), .lit (.map (some M5))], .ptr [.lit (.map (some M1)), .lit (.map (some M2)), .lit (.map (some M3)), .lit (.map (some M4)), .lit (.map (some M5))], .ptr [.lit (.map (some M4)), .lit (.map (some M5))], .lit (.map (some M4)), .ptr (hyC y), .str y.label, .tup [.agg (hyC ((Zq hm y.label).getD default)), .bool ((Zq hm y.label).isSome)], .tup [.agg (hyC ((Zq hm y.label).getD default)), .bool ((Zq hm y.label).isSome)], .agg (hyC ((Zq hm y.label).getD default)), .bool ((Zq hm y.label).isSome), .any, .any, .bool ((Zq hm y.label).isSome)] : List AV).getD ix' .any) (fun ix' => ([true, true, true, true, true, true, true, true, true, true, true, true, true] : List Bool).getD ix' true) [(6, fun (g : Nat) => .ptr (hyC y)), (14, fun (g : Nat) => .at g 0), (15, fun (g : Nat) => .bool ((Zq hm y.label).isSome))] (fun (j' : Nat) (g : Nat) => match j' with | 0 => [] | 1 => [OB.var g [.lit (.string (⟨#[]⟩ : ByteArray)), .lit (.bool false), Zg ([] : List ByteArray)]] | _ => [OB.var g [.lit (.string (((Zq hm y.label).getD default).label)), .lit (.bool (((Zq hm y.label).getD default).floating)), Zg (((Zq hm y.label).getD default).text)]]) (fun (k' : Nat) (g : Nat) => match k' with | 0 => (.pointer (some ⟨g, 0, none⟩)) | 1 => undef | _ => undef) [10, 11] 2 0 (fun _ => rfl) h hJ Y0 rfl rfl rfl rfl rfl rfl (fun j' g hj p hp => by rcases j' with _ | _ | _ | j' <;> first | exact hp | exact List.mem_cons_of_mem _ hp | exact List.mem_cons_of_mem _ (List.mem_cons_of_mem _ hp) | (exfalso; omega)) ⟨?o17_1_0, ⟨?o17_1_1, ⟨?o17_1_2, ⟨?o17_1_3, ⟨?o17_1_4, ⟨?o17_1_5, ⟨?o17_1_6, ⟨?o17_1_7, ⟨?o17_1_8, ⟨?o17_1_9, ⟨?o17_1_10, ⟨?o17_1_11, ⟨?o17_1_12, trivial⟩⟩⟩⟩⟩⟩⟩⟩⟩⟩⟩⟩⟩ ⟨?e17_1_0, ⟨?e17_1_1, trivial⟩⟩ ⟨.old 1 6 _ rfl rfl, ⟨.eff 0 10 14 (fun g => (.pointer (some ⟨g, 0, none⟩))) rfl rfl (fun _ => rfl) (fun _ => True.intro), ⟨.new 12 15 _ rfl rfl rfl, trivial⟩⟩⟩ ?n17_1
       case o17_1_0 => exact fun _ O' _ => ⟨rfl, fun _ _ _ hx hl _ => Yj rfl (hl.env 0 0 _ rfl rfl) hx⟩
       case o17_1_1 => exact fun _ O' _ => ⟨rfl, fun _ _ _ hx hl _ => YO rfl (hl.dep 0 150 _ rfl rfl rfl rfl) hx⟩
       case o17_1_2 => exact fun _ O' _ => ⟨rfl, fun _ _ _ hx hl _ => Ym Qg rfl (hl.dep 1 151 _ rfl rfl rfl rfl) hx⟩
       case o17_1_3 => exact fun _ O' _ => ⟨rfl, fun _ _ _ hx hl _ => Ya Zcm rfl (hl.dep 2 152 _ rfl rfl rfl rfl) hx⟩
       case o17_1_4 => exact fun _ O' _ => ⟨rfl, fun _ _ _ hx hl _ => Ym QO rfl (hl.env 1 6 _ rfl rfl) hx⟩
       case o17_1_5 => exact fun _ O' _ => ⟨rfl, fun _ _ _ hx hl _ => Ya ZdO rfl (hl.dep 4 154 _ rfl rfl rfl rfl) hx⟩
       case o17_1_6 => exact fun _ O' _ => ⟨rfl, fun _ _ hk hx hl _ => Xg (Kd := keyS) (f := (fun z' : Hy => AV.agg (hyC z'))) (L := hm) Xk Qn y.label rfl (YF hH hk hx (mo 3 rfl)) (hl.dep 3 153 _ rfl rfl rfl rfl) (hl.dep 5 155 _ rfl rfl rfl rfl) hx⟩
       case o17_1_7 => exact fun _ O' _ => ⟨rfl, fun _ _ _ hx hl _ => Yj rfl (hl.dep 6 156 _ rfl rfl rfl rfl) hx⟩
       case o17_1_8 => exact fun _ O' _ => ⟨rfl, fun _ _ _ hx hl _ => Xh rfl (hl.dep 7 149 _ rfl rfl rfl rfl) rfl hx⟩
       case o17_1_9 => exact fun _ O' _ => ⟨rfl, fun _ _ _ hx hl _ => Xh rfl (hl.dep 7 149 _ rfl rfl rfl rfl) rfl hx⟩
       case o17_1_10 => exact Zs rfl
       case o17_1_11 => exact Zs rfl
       case o17_1_12 => exact fun _ O' _ => ⟨rfl, fun _ _ _ hx hl _ => QH rfl (hl.dep 9 158 _ rfl rfl rfl rfl) hx⟩
       case e17_1_0 => exact ⟨_, rfl, rfl, rfl, rfl, fun g _ w hk hx _ _ => ZJ (Zd0 Xv hJ rfl hk hx) fun v w' ⟨g', hv, hp⟩ => ⟨g', rfl, fun k' hk' => absurd hk' (Nat.not_lt_zero _), fun _ => hv, hp⟩⟩
       case e17_1_1 => exact ⟨_, rfl, rfl, rfl, rfl, fun g _ w hk hx hl hs => (by obtain ⟨us2, hv2, hr3⟩ := Zcf (cs := [.lit (.string (((Zq hm y.label).getD default).label)), .lit (.bool (((Zq hm y.label).getD default).floating)), Zg (((Zq hm y.label).getD default).text)]) (hl.dep 8 157 _ rfl rfl rfl rfl); exact ZJ (QQ (S' := S) (off := 0) (cs := [.lit (.string (⟨#[]⟩ : ByteArray)), .lit (.bool false), Zg ([] : List ByteArray)]) (news := [.lit (.string (((Zq hm y.label).getD default).label)), .lit (.bool (((Zq hm y.label).getD default).floating)), Zg (((Zq hm y.label).getD default).text)]) (es := [.lit (.string (((Zq hm y.label).getD default).label)), .lit (.bool (((Zq hm y.label).getD default).floating)), Zg (((Zq hm y.label).getD default).text)]) (us := us2) hJ hJ0 XN rfl hk hx (Zgv (hs 0 10 _ 14 (by omega) rfl rfl rfl)) (by rw [hv2]; rfl) hr3 (lb rfl) rfl) fun v w' hp => ⟨g, rfl, fun _ _ => rfl, fun e => (by cases e), hp⟩)⟩
       clear a w h
       intro b1
       change ∀ a w, St All (SO S [OB.var b1 [.lit (.string (((Zq hm y.label).getD default).label)), .lit (.bool (((Zq hm y.label).getD default).floating)), Zg (((Zq hm y.label).getD default).text)]]) w0 166 [(6, .ptr (hyC y)), (14, .at b1 0), (15, .bool ((Zq hm y.label).isSome))] (XO J S w0.heap.size [OB.var b1 [.lit (.string (((Zq hm y.label).getD default).label)), .lit (.bool (((Zq hm y.label).getD default).floating)), Zg (((Zq hm y.label).getD default).text)]]) a w → _
       refine kw (fun h => Xy hS h (m := 1) (s := 14) rfl) ?_
       refine nx (Za (rgo tb hJ [1006] [_, _, _, _, .bool (Zc0 ((Zq hm y.label).getD default) y), _, _] [4] [(_, .bool (((Zq hm y.label).isSome) && (!(Zc0 ((Zq hm y.label).getD default) y))))] rfl rfl rfl rfl ⟨fun _ _ hk hx hl hc => Qk (ZeG hJ (x := ((Zq hm y.label).getD default)) (y := y) ) Zhi rfl (Zr hS _ hk hx) (hx.1) (Zc (hl.dep 2 161 _ rfl rfl rfl hc) (Zc (hl.dep 3 162 _ rfl rfl rfl hc) Zm)) (jo hJ hx), trivial⟩ (nx (tc 0 rfl rfl (fun hb8 => ?_) (fun hb8 => ?_)))))
       ·
        refine Za (rgo tb hJ [1000] [_] [] [(_, .int (6 : Int))] rfl rfl rfl rfl trivial (nx (Zi (fun a w h => Zh (m := 0) rfl (Zl h) rfl (congrArg AV.int (show (6 : Int) = (Zav cs vs fs hm tm ls ts y dm) from by clear h; grind [Zav]))))))
       ·
        refine Zd (nx (Za (rgo tb hJ [1000] [_] [] [(_, .int (0 : Int))] rfl rfl rfl rfl trivial (nx (Zi (fun a w h => Zh (m := 0) rfl (Zl h) rfl (congrArg AV.int (show (0 : Int) = (Zav cs vs fs hm tm ls ts y dm) from by clear h; grind [Zav]))))))))
   ·
    refine Za (rgo tb hJ [0, 2, 1002, 1004] [_, _, _, .int (ZbP cs vs y.text), _] [3] [(_, _), (_, _), (_, .rd (Zg y.text)), (_, .int (ZbP cs vs y.text))] rfl rfl rfl rfl ⟨fun _ _ hk hx hl _ => X1 (ZmS hJ (M1 := M1) (M2 := M2) (M3 := M3) (M4 := M4) (M5 := M5) (cs := cs) (vs := vs) (l := y.text) ) ZjR rfl (Zr hS _ hk hx) (hx.1) (Z0 (YF hH hk hx (mo 0 rfl)) (Z0 (YF hH hk hx (mo 1 rfl)) ZP)) (Zc (hl.dep 0 142 _ rfl rfl rfl rfl) (Zc (hl.dep 2 144 _ rfl rfl rfl rfl) Zm)) (jo hJ hx), trivial⟩ (nx (Zf (fun a w h => Zj h 2 rfl) fun hl2 => Za (rgo tb hJ [0, 1, 3, 1001] [_, _] [] [(_, _), (_, _), (_, _), (_, .bool (!decide (ZbP cs vs y.text = (0 : Int))))] rfl rfl rfl rfl trivial (nx (tc 3 rfl rfl (fun hb7 => ?_) (fun hb7 => ?_)))))))
    ·
     refine Za (rgo tb hJ [1001] [_, _] [] [(_, .int (ZbP cs vs y.text))] rfl rfl rfl rfl trivial (nx (Zi (fun a w h => Zh (m := 0) rfl (Zl h) rfl (congrArg AV.int (show (ZbP cs vs y.text) = (Zav cs vs fs hm tm ls ts y dm) from by clear h; grind [Zav]))))))
    ·
     refine Zd (nx (Za (Za ?_)))
     refine fun a w h => Xo (γ := Nat) (fun ix' => ([.ptr [.lit (.map (some M1)), .lit (.map (some M2)), .lit (.map (some M3)), .lit (.map (some M4)), .lit (.map (some M5))], .ptr [.lit (.map (some M1)), .lit (.map (some M2)), .lit (.map (some M3)), .lit (.map (some M4)), .lit (.map (some M5))], .ptr [.lit (.map (some M4)), .lit (.map (some M5))], .lit (.map (some M4)), .ptr (hyC y), .str y.label, .tup [.agg (hyC ((Zq hm y.label).getD default)), .bool ((Zq hm y.label).isSome)], .tup [.agg (hyC ((Zq hm y.label).getD default)), .bool ((Zq hm y.label).isSome)], .agg (hyC ((Zq hm y.label).getD default)), .bool ((Zq hm y.label).isSome), .any, .any, .bool ((Zq hm y.label).isSome)] : List AV).getD ix' .any) (fun ix' => ([true, true, true, true, true, true, true, true, true, true, true, true, true] : List Bool).getD ix' true) [(6, fun (g : Nat) => .ptr (hyC y)), (14, fun (g : Nat) => .at g 0), (15, fun (g : Nat) => .bool ((Zq hm y.label).isSome))] (fun (j' : Nat) (g : Nat) => match j' with | 0 => [] | 1 => [OB.var g [.lit (.string (⟨#[]⟩ : ByteArray)), .lit (.bool false), Zg ([] : List ByteArray)]] | _ => [OB.var g [.lit (.string (((Zq hm y.label).getD default).label)), .lit (.bool (((Zq hm y.label).getD default).floating)), Zg (((Zq hm y.label).getD default).text)]]) (fun (k' : Nat) (g : Nat) => match k' with | 0 => (.pointer (some ⟨g, 0, none⟩)) | 1 => undef | _ => undef) [10, 11] 2 0 (fun _ => rfl) h hJ Y0 rfl rfl rfl rfl rfl rfl (fun j' g hj p hp => by rcases j' with _ | _ | _ | j' <;> first | exact hp | exact List.mem_cons_of_mem _ hp | exact List.mem_cons_of_mem _ (List.mem_cons_of_mem _ hp) | (exfalso; omega)) ⟨?o17_2_0, ⟨?o17_2_1, ⟨?o17_2_2, ⟨?o17_2_3, ⟨?o17_2_4, ⟨?o17_2_5, ⟨?o17_2_6, ⟨?o17_2_7, ⟨?o17_2_8, ⟨?o17_2_9, ⟨?o17_2_10, ⟨?o17_2_11, ⟨?o17_2_12, trivial⟩⟩⟩⟩⟩⟩⟩⟩⟩⟩⟩⟩⟩ ⟨?e17_2_0, ⟨?e17_2_1, trivial⟩⟩ ⟨.old 1 6 _ rfl rfl, ⟨.eff 0 10 14 (fun g => (.pointer (some ⟨g, 0, none⟩))) rfl rfl (fun _ => rfl) (fun _ => True.intro), ⟨.new 12 15 _ rfl rfl rfl, trivial⟩⟩⟩ ?n17_2
     case o17_2_0 => exact fun _ O' _ => ⟨rfl, fun _ _ _ hx hl _ => Yj rfl (hl.env 0 0 _ rfl rfl) hx⟩
     case o17_2_1 => exact fun _ O' _ => ⟨rfl, fun _ _ _ hx hl _ => YO rfl (hl.dep 0 150 _ rfl rfl rfl rfl) hx⟩
     case o17_2_2 => exact fun _ O' _ => ⟨rfl, fun _ _ _ hx hl _ => Ym Qg rfl (hl.dep 1 151 _ rfl rfl rfl rfl) hx⟩
     case o17_2_3 => exact fun _ O' _ => ⟨rfl, fun _ _ _ hx hl _ => Ya Zcm rfl (hl.dep 2 152 _ rfl rfl rfl rfl) hx⟩
     case o17_2_4 => exact fun _ O' _ => ⟨rfl, fun _ _ _ hx hl _ => Ym QO rfl (hl.env 1 6 _ rfl rfl) hx⟩
     case o17_2_5 => exact fun _ O' _ => ⟨rfl, fun _ _ _ hx hl _ => Ya ZdO rfl (hl.dep 4 154 _ rfl rfl rfl rfl) hx⟩
     case o17_2_6 => exact fun _ O' _ => ⟨rfl, fun _ _ hk hx hl _ => Xg (Kd := keyS) (f := (fun z' : Hy => AV.agg (hyC z'))) (L := hm) Xk Qn y.label rfl (YF hH hk hx (mo 3 rfl)) (hl.dep 3 153 _ rfl rfl rfl rfl) (hl.dep 5 155 _ rfl rfl rfl rfl) hx⟩
     case o17_2_7 => exact fun _ O' _ => ⟨rfl, fun _ _ _ hx hl _ => Yj rfl (hl.dep 6 156 _ rfl rfl rfl rfl) hx⟩
     case o17_2_8 => exact fun _ O' _ => ⟨rfl, fun _ _ _ hx hl _ => Xh rfl (hl.dep 7 149 _ rfl rfl rfl rfl) rfl hx⟩
     case o17_2_9 => exact fun _ O' _ => ⟨rfl, fun _ _ _ hx hl _ => Xh rfl (hl.dep 7 149 _ rfl rfl rfl rfl) rfl hx⟩
     case o17_2_10 => exact Zs rfl
     case o17_2_11 => exact Zs rfl
     case o17_2_12 => exact fun _ O' _ => ⟨rfl, fun _ _ _ hx hl _ => QH rfl (hl.dep 9 158 _ rfl rfl rfl rfl) hx⟩
     case e17_2_0 => exact ⟨_, rfl, rfl, rfl, rfl, fun g _ w hk hx _ _ => ZJ (Zd0 Xv hJ rfl hk hx) fun v w' ⟨g', hv, hp⟩ => ⟨g', rfl, fun k' hk' => absurd hk' (Nat.not_lt_zero _), fun _ => hv, hp⟩⟩
     case e17_2_1 => exact ⟨_, rfl, rfl, rfl, rfl, fun g _ w hk hx hl hs => (by obtain ⟨us2, hv2, hr3⟩ := Zcf (cs := [.lit (.string (((Zq hm y.label).getD default).label)), .lit (.bool (((Zq hm y.label).getD default).floating)), Zg (((Zq hm y.label).getD default).text)]) (hl.dep 8 157 _ rfl rfl rfl rfl); exact ZJ (QQ (S' := S) (off := 0) (cs := [.lit (.string (⟨#[]⟩ : ByteArray)), .lit (.bool false), Zg ([] : List ByteArray)]) (news := [.lit (.string (((Zq hm y.label).getD default).label)), .lit (.bool (((Zq hm y.label).getD default).floating)), Zg (((Zq hm y.label).getD default).text)]) (es := [.lit (.string (((Zq hm y.label).getD default).label)), .lit (.bool (((Zq hm y.label).getD default).floating)), Zg (((Zq hm y.label).getD default).text)]) (us := us2) hJ hJ0 XN rfl hk hx (Zgv (hs 0 10 _ 14 (by omega) rfl rfl rfl)) (by rw [hv2]; rfl) hr3 (lb rfl) rfl) fun v w' hp => ⟨g, rfl, fun _ _ => rfl, fun e => (by cases e), hp⟩)⟩
     clear a w h
     intro b2
     change ∀ a w, St All (SO S [OB.var b2 [.lit (.string (((Zq hm y.label).getD default).label)), .lit (.bool (((Zq hm y.label).getD default).floating)), Zg (((Zq hm y.label).getD default).text)]]) w0 166 [(6, .ptr (hyC y)), (14, .at b2 0), (15, .bool ((Zq hm y.label).isSome))] (XO J S w0.heap.size [OB.var b2 [.lit (.string (((Zq hm y.label).getD default).label)), .lit (.bool (((Zq hm y.label).getD default).floating)), Zg (((Zq hm y.label).getD default).text)]]) a w → _
     refine kw (fun h => Xy hS h (m := 1) (s := 14) rfl) ?_
     refine nx (Za (rgo tb hJ [1006] [_, _, _, _, .bool (Zc0 ((Zq hm y.label).getD default) y), _, _] [4] [(_, .bool (((Zq hm y.label).isSome) && (!(Zc0 ((Zq hm y.label).getD default) y))))] rfl rfl rfl rfl ⟨fun _ _ hk hx hl hc => Qk (ZeG hJ (x := ((Zq hm y.label).getD default)) (y := y) ) Zhi rfl (Zr hS _ hk hx) (hx.1) (Zc (hl.dep 2 161 _ rfl rfl rfl hc) (Zc (hl.dep 3 162 _ rfl rfl rfl hc) Zm)) (jo hJ hx), trivial⟩ (nx (tc 0 rfl rfl (fun hb8 => ?_) (fun hb8 => ?_)))))
     ·
      refine Za (rgo tb hJ [1000] [_] [] [(_, .int (6 : Int))] rfl rfl rfl rfl trivial (nx (Zi (fun a w h => Zh (m := 0) rfl (Zl h) rfl (congrArg AV.int (show (6 : Int) = (Zav cs vs fs hm tm ls ts y dm) from by clear h; grind [Zav]))))))
     ·
      refine Zd (nx (Za (rgo tb hJ [1000] [_] [] [(_, .int (0 : Int))] rfl rfl rfl rfl trivial (nx (Zi (fun a w h => Zh (m := 0) rfl (Zl h) rfl (congrArg AV.int (show (0 : Int) = (Zav cs vs fs hm tm ls ts y dm) from by clear h; grind [Zav]))))))))

end Go.Proofs.YtnpgmdffjemnbaaGreatDoor
set_option maxHeartbeats 8000000
set_option maxRecDepth 100000
namespace Go.Proofs.YtnpgmdffjemnbaaGreatDoor
open Go.RowKit

theorem Zk3 {J : World → Prop} (hJ : Stab J) (xs : List Pr) (ys : List Pr)  : Fn Tryz.prog J 127 [.rd (YG xs), .rd (YG ys)] (.bool (decide (xs = ys))) := by
 refine Zx (N := 26) Tryz.func127 rfl rfl (lb rfl) fun S w0 hS hJ0 => ?_
 clear hJ0
 refine Zf (fun a w h => Zj h 0 rfl) fun hl1 => Zf (fun a w h => Zj h 1 rfl) fun hl2 => Za (rg tb hJ [0, 1] [_] [] [(_, _), (_, _)] rfl rfl rfl rfl trivial (nx (Za (Za (rg tb hJ [0, 1, 1004] [_, .int xs.length, _, .int ys.length, _] [1, 3] [(_, _), (_, _), (_, .bool (!decide ((xs.length : Int) = (ys.length : Int))))] rfl rfl rfl rfl ⟨Ys Z1 rfl rfl rfl rfl, Ys Z1 rfl rfl rfl rfl, trivial⟩ (nx (tc 2 rfl rfl (fun hb1 => ?_) (fun hb1 => ?_))))))))
 try simp at hb1
 refine Za (rg tb hJ [1000] [_] [] [(_, .bool false)] rfl rfl rfl rfl trivial (nx (Zi (fun a w h => Zh (m := 0) rfl h rfl (congrArg AV.bool (show false = (decide (xs = ys)) from by first | (have := X4 (xs := xs) (ys := ys) (by omega) (fun j hj => prEq_iff.1 (f1_2 j (by omega))); simp [this]; done) | (symm; rw [decide_eq_false_iff_not]; intro e; subst e; simp at hb3; done) | (symm; rw [decide_eq_false_iff_not]; intro e; subst e; exact hb1 rfl)))))))
 try simp at hb1
 refine Zd (nx (Za (Za (rg tb hJ [0, 1, 1001, 1002] [_, _, _] [1] [(_, _), (_, _), (_, .int xs.length), (_, .int (0 : Int))] rfl rfl rfl rfl ⟨Ys Z1 rfl rfl rfl rfl, trivial⟩ (nx (Ze (Zw (ι := Nat) (fun (k : Nat) a w => ((k ≤ xs.length) ∧ (∀ j, j < k → ZcU (ge xs j) (ge ys j) = true)) ∧ St All S w0 26 [(0, .rd (YG xs)), (1, .rd (YG ys)), (12, .int xs.length), (13, .int k)] J a w) (fun (k : Nat) => (xs.length - k : Nat)) ?_ ?_)))))))
 intro a w h
 exact ⟨0, (show (0 ≤ xs.length) ∧ (∀ j, j < 0 → ZcU (ge xs j) (ge ys j) = true) from ⟨Nat.zero_le _, fun j hj => by omega⟩), lz [0, 1, 2, 3] rfl h⟩
 rintro k
 refine ZD fun hF => ?_
 obtain ⟨f1_1, f1_2⟩ := hF
 refine Za (rg tb hJ [0, 1, 2, 3, 1000] [_] [] [(_, _), (_, _), (_, _), (_, _), (_, .bool (decide ((k : Int) < (xs.length : Int))))] rfl rfl rfl rfl trivial (nx (Za (tc 4 rfl rfl (fun hb2 => ?_) (fun hb2 => ?_)))))
 try simp at hb2
 refine Zd (nx (Za (Ze (Za (rg tb hJ [0, 1, 2, 3, 1001] [_, _] [] [(_, _), (_, _), (_, _), (_, _), (_, .int k)] rfl rfl rfl rfl trivial (nx (Za (rg tb hJ [0, 1, 2, 3, 1008] [_, _, .ptr (prC (ge xs k)), _, _, _, .ptr (prC (ge ys k)), _, _] [2, 6, 8] [(_, _), (_, _), (_, _), (_, _), (_, .bool (!(decide ((ge xs k).a = (ge ys k).a) && decide ((ge xs k).b = (ge ys k).b))))] rfl rfl rfl rfl ⟨hIx ZH (by first | omega | (simp; omega) | grind [Zb]) rfl rfl rfl rfl rfl rfl, hIx ZH (by first | omega | (simp; omega) | grind [Zb]) rfl rfl rfl rfl rfl rfl, fun _ _ _ hx hl _ => ZmN ZjF rfl (hl.dep 3 19 _ rfl rfl rfl rfl) (hl.dep 7 23 _ rfl rfl rfl rfl) hx, trivial⟩ (nx (tc 4 rfl rfl (fun hb3 => ?_) (fun hb3 => ?_)))))))))))
 try simp at hb3
 refine Za (rg tb hJ [1000] [_] [] [(_, .bool false)] rfl rfl rfl rfl trivial (nx (Zi (fun a w h => Zh (m := 0) rfl h rfl (congrArg AV.bool (show false = (decide (xs = ys)) from by first | (have := X4 (xs := xs) (ys := ys) (by omega) (fun j hj => prEq_iff.1 (f1_2 j (by omega))); simp [this]; done) | (symm; rw [decide_eq_false_iff_not]; intro e; subst e; simp at hb3; done) | (symm; rw [decide_eq_false_iff_not]; intro e; subst e; exact hb1 rfl)))))))
 try simp at hb3
 refine Zd (nx (rg tb hJ [0, 1, 2, 1001] [.int ((k + 1 : Nat) : Int), _] [0] [(_, _), (_, _), (_, _), (_, .int ((k + 1 : Nat) : Int))] rfl rfl rfl rfl ⟨Yc (by first | omega | (simp; omega) | grind [Zb]) rfl rfl rfl rfl rfl, trivial⟩ ?_))
 intro a w h; change ∃ j, _ ∧ _
 exact ⟨k + 1, ⟨⟨(show (k + 1) ≤ xs.length from by omega), (show ∀ j, j < (k + 1) → ZcU (ge xs j) (ge ys j) = true from ZW f1_2 (by simp [ZcU, hb3]))⟩, lz [0, 1, 2, 3] rfl h⟩, (show xs.length - (k + 1) < xs.length - k from by first | omega | (simp; omega))⟩
 try simp at hb2
 refine Zv (nx (Za (rg tb hJ [1000] [_] [] [(_, .bool true)] rfl rfl rfl rfl trivial (nx (Zi (fun a w h => Zh (m := 0) rfl h rfl (congrArg AV.bool (show true = (decide (xs = ys)) from by first | (have := X4 (xs := xs) (ys := ys) (by omega) (fun j hj => prEq_iff.1 (f1_2 j (by omega))); simp [this]; done) | (symm; rw [decide_eq_false_iff_not]; intro e; subst e; simp at hb3; done) | (symm; rw [decide_eq_false_iff_not]; intro e; subst e; exact hb1 rfl)))))))))
theorem p_sets {J : World → Prop} (hJ : Stab J) (M1 : Nat) (M2 : Nat) (M3 : Nat) (M4 : Nat) (M5 : Nat) (vs : List ByteArray) (f : Fr) (h2 : f.hyps.length ≤ 40) (h3 : f.wide.length * 32 ≤ 140737488351232) (h4 : ∀ x ∈ f.hyps, x.floating = true → x.text.length = 2) : FnR Tryz.prog J 92 [OB.set keyS M2 vs] [.ptr [.lit (.map (some M1)), .lit (.map (some M2)), .lit (.map (some M3)), .lit (.map (some M4)), .lit (.map (some M5))], .agg (frC f)] (.int (ZaJ vs f)) := by
 refine Yp (N := 101) Tryz.func92 rfl rfl (lb rfl) fun S w0 hS hJ0 hH => ?_
 refine tw Yi ?_
 refine Za (rgo tb hJ [0, 1000] [_, _] [0] [(_, _), (_, .ptr (frC f))] rfl rfl rfl rfl ⟨fun _ _ hk hx hl _ => Yv rfl (hl.env 1 1 _ rfl rfl) (Zr hS _ hk hx _ (Nat.le_refl _)) (jo hJ hx), trivial⟩ (nx (Za ?_)))
 refine fun a w h => Xo (γ := Nat) (fun ix' => ([.ptr [.lit (.map (some M1)), .lit (.map (some M2)), .lit (.map (some M3)), .lit (.map (some M4)), .lit (.map (some M5))], .ptr [.lit (.map (some M1)), .lit (.map (some M2)), .lit (.map (some M3)), .lit (.map (some M4)), .lit (.map (some M5))], .ptr [.lit (.map (some M2)), .lit (.map (some M3)), .lit (.map (some M4)), .lit (.map (some M5))], .lit (.map (some M2)), .ptr [Z4 f.hyps, YG f.apart, Zg f.text, Z4 f.dummies, YG f.wide, Zg f.proof], .rd (Z4 f.hyps), .ptr [Zg f.text, Z4 f.dummies, YG f.wide, Zg f.proof], .rd (Zg f.text), .rd (X3 (f.text :: (ZZ f.hyps).map Hy.text)), .any, .any] : List AV).getD ix' .any) (fun ix' => ([true, true, true, true, true, true, true, true, true, true, true] : List Bool).getD ix' true) [(0, fun (g : Nat) => .ptr [.lit (.map (some M1)), .lit (.map (some M2)), .lit (.map (some M3)), .lit (.map (some M4)), .lit (.map (some M5))]), (3, fun (g : Nat) => .ptr (frC f)), (5, fun (g : Nat) => .lit (.map (some g)))] (fun (j' : Nat) (g : Nat) => match j' with | 0 => [] | 1 => [OB.set keyS g (YZ vs (f.text :: (ZZ f.hyps).map Hy.text).flatten)] | _ => [OB.set keyS g (YZ vs (f.text :: (ZZ f.hyps).map Hy.text).flatten)]) (fun (k' : Nat) (g : Nat) => match k' with | 0 => (.map (some g)) | 1 => (.map (some g)) | _ => undef) [9, 10] 2 0 (fun _ => rfl) h hJ Y0 rfl rfl rfl rfl rfl rfl (fun j' g hj p hp => by rcases j' with _ | _ | _ | j' <;> first | exact hp | exact List.mem_cons_of_mem _ hp | exact List.mem_cons_of_mem _ (List.mem_cons_of_mem _ hp) | (exfalso; omega)) ⟨?o1_1_0, ⟨?o1_1_1, ⟨?o1_1_2, ⟨?o1_1_3, ⟨?o1_1_4, ⟨?o1_1_5, ⟨?o1_1_6, ⟨?o1_1_7, ⟨?o1_1_8, ⟨?o1_1_9, ⟨?o1_1_10, trivial⟩⟩⟩⟩⟩⟩⟩⟩⟩⟩⟩ ⟨?e1_1_0, ⟨?e1_1_1, trivial⟩⟩ ⟨.old 0 0 _ rfl rfl, ⟨.old 1 3 _ rfl rfl, ⟨.eff 1 10 5 (fun g => (.map (some g))) rfl rfl (fun _ => rfl) (fun _ => True.intro), trivial⟩⟩⟩ ?n1_1
 case o1_1_0 => exact fun _ O' _ => ⟨rfl, fun _ _ _ hx hl _ => Yj rfl (hl.env 0 0 _ rfl rfl) hx⟩
 case o1_1_1 => exact fun _ O' _ => ⟨rfl, fun _ _ _ hx hl _ => YO rfl (hl.dep 0 11 _ rfl rfl rfl rfl) hx⟩
 case o1_1_2 => exact fun _ O' _ => ⟨rfl, fun _ _ _ hx hl _ => Ym Zf0 rfl (hl.dep 1 12 _ rfl rfl rfl rfl) hx⟩
 case o1_1_3 => exact fun _ O' _ => ⟨rfl, fun _ _ _ hx hl _ => Ya ZmV rfl (hl.dep 2 13 _ rfl rfl rfl rfl) hx⟩
 case o1_1_4 => exact fun _ O' _ => ⟨rfl, fun _ _ _ hx hl _ => Ym Zdt rfl (hl.env 1 3 _ rfl rfl) hx⟩
 case o1_1_5 => exact fun _ O' _ => ⟨rfl, fun _ _ _ hx hl _ => Ya Zi7 rfl (hl.dep 4 15 _ rfl rfl rfl rfl) hx⟩
 case o1_1_6 => exact fun _ O' _ => ⟨rfl, fun _ _ _ hx hl _ => Ym Zh1 rfl (hl.env 1 3 _ rfl rfl) hx⟩
 case o1_1_7 => exact fun _ O' _ => ⟨rfl, fun _ _ _ hx hl _ => Ya Zdm rfl (hl.dep 6 17 _ rfl rfl rfl rfl) hx⟩
 case o1_1_8 => exact fun _ O' _ => ⟨rfl, fun _ _ hk hx hl _ => Qk (ZhM hJ (hs := f.hyps) (t := f.text) (h2)) Zmb rfl (Zr hS _ hk hx) (hx.1) (Zc (hl.dep 5 16 _ rfl rfl rfl rfl) (Zc (hl.dep 7 18 _ rfl rfl rfl rfl) Zm)) (jo hJ hx)⟩
 case o1_1_9 => exact Zs rfl
 case o1_1_10 => exact Zs rfl
 case e1_1_0 => exact ⟨_, rfl, rfl, rfl, rfl, fun _ _ w hk hx hl _ => ZJ (d_fn (O := []) (R := []) (ZfJ hJ (M := M2) (vs := vs) (l := (f.text :: (ZZ f.hyps).map Hy.text)) ) Zmc rfl hS hJ0 (Z0 (hH _ (mo 0 rfl)) ZP) hk hx (Zc (hl.dep 3 14 _ rfl rfl rfl rfl) (Zc (hl.dep 8 19 _ rfl rfl rfl rfl) Zm))) fun v w' ⟨i, hp, hv⟩ => ⟨i, rfl, fun k' hk' => absurd hk' (Nat.not_lt_zero _), fun _ => hv.lit, hp⟩⟩
 case e1_1_1 => exact ⟨_, rfl, rfl, rfl, rfl, fun g _ w hk hx _ hs => ZJ (ZbV (.inl rfl) (hs 0 9 _ 20 (by omega) rfl rfl rfl) hk hx) fun v w' hp => ⟨g, rfl, fun _ _ => rfl, fun _ => hp.1, hp.2⟩⟩
 clear a w h
 intro z1
 change ∀ a w, St All (SO S [OB.set keyS z1 (YZ vs (f.text :: (ZZ f.hyps).map Hy.text).flatten)]) w0 101 [(0, .ptr [.lit (.map (some M1)), .lit (.map (some M2)), .lit (.map (some M3)), .lit (.map (some M4)), .lit (.map (some M5))]), (3, .ptr (frC f)), (5, .lit (.map (some z1)))] (XO J S w0.heap.size [OB.set keyS z1 (YZ vs (f.text :: (ZZ f.hyps).map Hy.text).flatten)]) a w → _
 refine nx (Za (rgo tb hJ [0, 1, 2, 1000] [_] [] [(_, _), (_, _), (_, _), (_, .int (0 : Int))] rfl rfl rfl rfl trivial (nx (Za (Za (rgo tb hJ [0, 1, 2, 3, 1001, 1002, 1003] [_, _, _, _] [2] [(_, _), (_, _), (_, _), (_, _), (_, .rd (Z4 f.hyps)), (_, .int f.hyps.length), (_, .int (0 : Int))] rfl rfl rfl rfl ⟨Ys ZC rfl rfl rfl rfl, trivial⟩ (nx (Zf (fun a w h => Zj h 4 rfl) fun hl1 => Ze (Zw (ι := Nat × Nat) (fun (ii' : Nat × Nat) a w => match ii' with | (k, n) => ((k ≤ f.hyps.length) ∧ (n = (Zaf (f.hyps.take k)).length) ∧ ((f.hyps.take k).all (Zfq (ZeV vs f)) = true) ∧ (n ≤ k)) ∧ St All (SO S [OB.set keyS z1 (YZ vs (f.text :: (ZZ f.hyps).map Hy.text).flatten)]) w0 101 [(0, .ptr [.lit (.map (some M1)), .lit (.map (some M2)), .lit (.map (some M3)), .lit (.map (some M4)), .lit (.map (some M5))]), (3, .ptr (frC f)), (5, .lit (.map (some z1))), (22, .rd (Z4 f.hyps)), (23, .int f.hyps.length), (24, .int k), (6, .int n)] (XO J S w0.heap.size [OB.set keyS z1 (YZ vs (f.text :: (ZZ f.hyps).map Hy.text).flatten)]) a w) (fun (ii' : Nat × Nat) => match ii' with | (k, _) => (f.hyps.length - k : Nat)) ?_ ?_)))))))))
 intro a w h
 exact ⟨(0, 0), (show (0 ≤ f.hyps.length) ∧ (0 = (Zaf (f.hyps.take 0)).length) ∧ ((f.hyps.take 0).all (Zfq (ZeV vs f)) = true) ∧ (0 ≤ 0) from ⟨Nat.zero_le _, rfl, rfl, Nat.zero_le _⟩), lz [0, 1, 2, 4, 5, 6, 3] rfl h⟩
 rintro ⟨k, n⟩
 refine ZD fun hF => ?_
 obtain ⟨f1_1, f1_2, f1_3, f1_4⟩ := hF
 refine Za (rgo tb hJ [0, 1, 2, 3, 4, 5, 6, 1000] [_] [] [(_, _), (_, _), (_, _), (_, _), (_, _), (_, _), (_, _), (_, .bool (decide ((k : Int) < (f.hyps.length : Int))))] rfl rfl rfl rfl trivial (nx (Za (tc 7 rfl rfl (fun hb1 => ?_) (fun hb1 => ?_)))))
 try simp at hb1
 refine Zd (nx (Za (Ze (Za (Zn (sq (.ptr (hyC (ge f.hyps k))) rfl rfl (lb rfl) (fun _ _ h => ZI (i := (k : Int)) Zt rfl (h.get 3 rfl) (h.get 5 rfl) (Int.natCast_nonneg _) (ZL (xs := f.hyps) (k := k) (by first | omega | (simp; omega) | grind [Zb])) rfl h.x) (sv (av := .agg (hyC (ge f.hyps k))) tb rfl rfl rfl rfl (QZ (cs := hyC (ge f.hyps k)) ZaL rfl rfl rfl (lb rfl) rfl rfl rfl (by decide) (m := 0) rfl rfl (fun a w h => Zr hS _ h.keep h.x _ (Nat.le_refl _)) (fun a w h w' hk' => YY hJ _ _ hk' h.x) (Zy ?_)))))))))
 refine kw (lz [0, 3, 4, 5, 6, 7, 8, 9] (env' := [(_, _), (_, _), (_, _), (_, _), (_, _), (_, _), (_, _), (_, _)]) rfl) ?_
 refine nx (Za (rgo tb hJ [0, 1, 2, 3, 4, 5, 6, 7, 1001] [_, _] [] [(_, _), (_, _), (_, _), (_, _), (_, _), (_, _), (_, _), (_, _), (_, .bool ((ge f.hyps k).floating))] rfl rfl rfl rfl trivial (nx (tc 8 rfl rfl (fun hb2 => ?_) (fun hb2 => ?_)))))
 try simp at hb2
 refine Za (Za (rgo tb hJ [1, 2, 3, 4, 5, 6, 7, 1002, 1006] [_, _, _, .ptr [.lit (.string (ge ((ge f.hyps k).text) 1))], _, .bool (decide ((ge ((ge f.hyps k).text) 1) ∈ (YZ vs (f.text :: (ZZ f.hyps).map Hy.text).flatten))), _] [3, 5] [(_, _), (_, _), (_, _), (_, _), (_, _), (_, _), (_, _), (_, .rd (Zg ((ge f.hyps k).text))), (_, .bool (!(decide ((ge ((ge f.hyps k).text) 1) ∈ (YZ vs (f.text :: (ZZ f.hyps).map Hy.text).flatten)))))] rfl rfl rfl rfl ⟨hIx (k := 1) Zk (by have := h4 _ (Zb (by omega)) hb2; omega) rfl rfl rfl rfl rfl rfl, fun _ _ _ hx hl _ => Yo (Kd := keyS) (xs := (YZ vs (f.text :: (ZZ f.hyps).map Hy.text).flatten)) ZU ZY (ge ((ge f.hyps k).text) 1) rfl (ZA hx (mo 0 rfl)) (hl.dep 0 30 _ rfl rfl rfl rfl) (hl.dep 4 34 _ rfl rfl rfl rfl) hx, trivial⟩ (nx (Zf (fun a w h => Zj h 7 rfl) fun hl2 => tc 8 rfl rfl (fun hb3 => ?_) (fun hb3 => ?_)))))
 have q3 : ZaJ vs f = 70 := setE_h (QB hb1 (by simp only [Zfq, hb2, Bool.not_true, Bool.false_or]; exact decide_eq_false (ZaX hb3)))
 refine Za (rgo tb hJ [1000] [_] [] [(_, .int (70 : Int))] rfl rfl rfl rfl trivial (nx (Zi (fun a w h => Zh (m := 0) rfl (Zl h) rfl (congrArg AV.int (show (70 : Int) = (ZaJ vs f) from q3.symm))))))
 refine Zd (nx (rgo tb hJ [0, 1, 2, 3, 4, 5, 1002] [_, .int ((n + 1 : Nat) : Int), _] [1] [(_, _), (_, _), (_, _), (_, _), (_, _), (_, _), (_, .int ((n + 1 : Nat) : Int))] rfl rfl rfl rfl ⟨Yc (by omega) rfl rfl rfl rfl rfl, trivial⟩ (nx (rgo tb hJ [0, 1, 2, 3, 4, 6, 1001] [.int ((k + 1 : Nat) : Int), _] [0] [(_, _), (_, _), (_, _), (_, _), (_, _), (_, _), (_, .int ((k + 1 : Nat) : Int))] rfl rfl rfl rfl ⟨Yc (by first | omega | (simp; omega) | grind [Zb]) rfl rfl rfl rfl rfl, trivial⟩ ?_))))
 intro a w h; change ∃ j, _ ∧ _
 exact ⟨(k + 1, n + 1), ⟨⟨(show (k + 1) ≤ f.hyps.length from by omega), (show (n + 1) = (Zaf (f.hyps.take (k + 1))).length from by rw [Zaf, ZM (by omega), f1_2]; simp [Zaf, hb2]), (show (f.hyps.take (k + 1)).all (Zfq (ZeV vs f)) = true from by rw [Xc (by omega), f1_3]; simp only [Zfq, hb2, Bool.not_true, Bool.false_or, Bool.true_and]; exact decide_eq_true (Zek hb3)), (show (n + 1) ≤ (k + 1) from by omega)⟩, lz [0, 1, 2, 3, 4, 6, 5] rfl h⟩, (show f.hyps.length - (k + 1) < f.hyps.length - k from by first | omega | (simp; omega))⟩
 try simp at hb2
 refine Zd (nx (rgo tb hJ [1, 2, 3, 4, 5, 7, 1001] [.int ((k + 1 : Nat) : Int), _] [0] [(_, _), (_, _), (_, _), (_, _), (_, _), (_, _), (_, .int ((k + 1 : Nat) : Int))] rfl rfl rfl rfl ⟨Yc (by first | omega | (simp; omega) | grind [Zb]) rfl rfl rfl rfl rfl, trivial⟩ ?_))
 intro a w h; change ∃ j, _ ∧ _
 exact ⟨(k + 1, n), ⟨⟨(show (k + 1) ≤ f.hyps.length from by omega), (show n = (Zaf (f.hyps.take (k + 1))).length from by rw [Zaf, ZM (by omega), f1_2]; simp [Zaf, hb2]), (show (f.hyps.take (k + 1)).all (Zfq (ZeV vs f)) = true from by rw [Xc (by omega), f1_3]; simp [Zfq, hb2]), (show n ≤ (k + 1) from by omega)⟩, lz [0, 1, 2, 3, 4, 6, 5] rfl h⟩, (show f.hyps.length - (k + 1) < f.hyps.length - k from by first | omega | (simp; omega))⟩
 try simp at hb1
 have e1 : f.hyps.all (Zfq (ZeV vs f)) = true := by rw [← Zp (xs := f.hyps) (by omega)]; exact f1_3
 have f1_2' : n = (Zaf f.hyps).length := by rw [f1_2, Zp (by omega)]
 refine Zv (nx (Za (Za (rgo tb hJ [0, 1, 2, 1003] [_, _, .int (((YZ vs (f.text :: (ZZ f.hyps).map Hy.text).flatten).length : Nat) : Int), _] [2] [(_, _), (_, _), (_, _), (_, .bool (!decide ((n : Int) = (((YZ vs (f.text :: (ZZ f.hyps).map Hy.text).flatten).length : Nat) : Int))))] rfl rfl rfl rfl ⟨fun _ _ _ hx hl _ => ZkI Zfx rfl (ZA hx (mo 0 rfl)) (hl.dep 1 41 _ rfl rfl rfl rfl) hx, trivial⟩ (nx (tc 3 rfl rfl (fun hb4 => ?_) (fun hb4 => ?_)))))))
 have hb4a : ¬ n = (ZeV vs f).length := fun e => ZaX hb4 (congrArg Int.ofNat e)
 have q3 : ZaJ vs f = 70 := setE_n (by rw [← f1_2']; exact hb4a)
 refine Za (rgo tb hJ [1000] [_] [] [(_, .int (70 : Int))] rfl rfl rfl rfl trivial (nx (Zi (fun a w h => Zh (m := 0) rfl (Zl h) rfl (congrArg AV.int (show (70 : Int) = (ZaJ vs f) from q3.symm))))))
 have hb4a : n = (ZeV vs f).length := Int.ofNat.inj (Zek hb4)
 refine Zd (nx (Za (Za (rgo tb hJ [0, 1, 2, 1001, 1002, 1003] [_, _, _, _] [2] [(_, _), (_, _), (_, _), (_, .rd (YG f.wide)), (_, .int f.wide.length), (_, .int (0 : Int))] rfl rfl rfl rfl ⟨Ys Z1 rfl rfl rfl rfl, trivial⟩ (nx (Zf (fun a w h => Zj h 3 rfl) fun hl3 => Ze (Zw (ι := Nat) (fun (k : Nat) a w => ((k ≤ f.wide.length) ∧ (∀ j, j < k → Zif vs f.wide j = false)) ∧ St All (SO S [OB.set keyS z1 (YZ vs (f.text :: (ZZ f.hyps).map Hy.text).flatten)]) w0 101 [(0, .ptr [.lit (.map (some M1)), .lit (.map (some M2)), .lit (.map (some M3)), .lit (.map (some M4)), .lit (.map (some M5))]), (3, .ptr (frC f)), (5, .lit (.map (some z1))), (45, .rd (YG f.wide)), (46, .int f.wide.length), (47, .int k)] (XO J S w0.heap.size [OB.set keyS z1 (YZ vs (f.text :: (ZZ f.hyps).map Hy.text).flatten)]) a w) (fun (k : Nat) => (f.wide.length - k : Nat)) ?_ ?_)))))))
 intro a w h
 exact ⟨0, (show (0 ≤ f.wide.length) ∧ (∀ j, j < 0 → Zif vs f.wide j = false) from ⟨Nat.zero_le _, fun j hj => by omega⟩), lz [0, 1, 2, 3, 4, 5] rfl h⟩
 rintro k
 refine ZD fun hF => ?_
 obtain ⟨f2_1, f2_2⟩ := hF
 refine Za (rgo tb hJ [0, 1, 2, 3, 4, 5, 1000] [_] [] [(_, _), (_, _), (_, _), (_, _), (_, _), (_, _), (_, .bool (decide ((k : Int) < (f.wide.length : Int))))] rfl rfl rfl rfl trivial (nx (Za (tc 6 rfl rfl (fun hb5 => ?_) (fun hb5 => ?_)))))
 try simp at hb5
 refine Zd (nx (Za (Ze (Za (Zn (sv tb rfl rfl rfl rfl (sq (.ptr (prC (ge f.wide k))) rfl rfl (lb rfl) (fun _ _ h => ZI (i := (k : Int)) ZH rfl (h.get 4 rfl) (h.get 6 rfl) (Int.natCast_nonneg _) (ZL (xs := f.wide) (k := k) (by first | omega | (simp; omega) | grind [Zb])) rfl h.x) (sv (av := .agg (prC (ge f.wide k))) tb rfl rfl rfl rfl (Y9 Zfv hJ rfl rfl rfl (lb rfl) fun b2 => ?_)))))))))
 refine sv tb rfl rfl rfl rfl (Y2 (b := b2) (off := 0) (cs := [.lit (.string (⟨#[]⟩ : ByteArray)), .lit (.string (⟨#[]⟩ : ByteArray))]) (es := [.lit (.string ((ge f.wide k).a)), .lit (.string ((ge f.wide k).b))]) (news := [.lit (.string ((ge f.wide k).a)), .lit (.string ((ge f.wide k).b))]) hJ hJ0 Zdd rfl rfl rfl (lb rfl) rfl (fun a w h => ⟨(h.get 1 rfl), (h.get 2 rfl)⟩) ?_)
 refine kw (fun h => Xy hS h (m := 1) (s := 10) rfl) ?_
 refine Zy ?_
 refine kw (lz [0, 1, 5, 6, 7, 8, 9, 10] (env' := [(_, _), (_, _), (_, _), (_, _), (_, _), (_, _), (_, _), (_, _)]) rfl) ?_
 refine nx (Za (rgo tb hJ [2, 3, 4, 5, 6, 7, 1039] [_, _, _, _, _, _, _, _, _, _, _, _, .bool (decide ((ge f.wide k).a ∈ vs)), _, _, _, _, _, _, _, _, _, .bool (decide ((ge f.wide k).b ∈ vs)), _, _, _, _, _, _, _, _, _, .int ((k : Int) - (1 : Int)), .ptr (prC (ge f.wide ((k : Int) - (1 : Int)).toNat)), _, _, .int (ZcI (ge f.wide ((k : Int) - (1 : Int)).toNat) (ge f.wide k)), _, _, _] [12, 22, 32, 33, 36] [(_, _), (_, _), (_, _), (_, _), (_, _), (_, _), (_, .bool ((((!Op.bytesLess ((ge f.wide k).a).toList ((ge f.wide k).b).toList) || (!(decide ((ge f.wide k).a ∈ vs)))) || (!(decide ((ge f.wide k).b ∈ vs)))) || ((decide ((0 : Int) < (k : Int))) && (decide ((0 : Int) ≤ ZcI (ge f.wide ((k : Int) - (1 : Int)).toNat) (ge f.wide k))))))] rfl rfl rfl rfl ⟨fun a _ hk hx hl hc => Yo (Kd := keyS) (xs := vs) ZU ZY ((ge f.wide k).a) rfl (YF hH hk hx (mo 0 rfl)) (hl.dep 9 61 _ rfl rfl rfl hc) (hl.dep 11 63 _ rfl rfl rfl hc) hx, fun _ _ hk hx hl hc => Yo (Kd := keyS) (xs := vs) ZU ZY ((ge f.wide k).b) rfl (YF hH hk hx (mo 0 rfl)) (hl.dep 19 71 _ rfl rfl rfl hc) (hl.dep 21 73 _ rfl rfl rfl hc) hx, fun a _ _ hx hl hc => r_sub (i := (k : Int)) (j := (1 : Int)) rfl (hl.dep 31 83 _ rfl rfl rfl hc) (Rel.of_lit (Go.Value.int Go.IntKind.i64 1)) (by have hc' : (((((!Op.bytesLess ((ge f.wide k).a).toList ((ge f.wide k).b).toList) || (!(decide ((ge f.wide k).a ∈ vs)))) || (!(decide ((ge f.wide k).b ∈ vs)))) == false) && ((decide ((0 : Int) < (k : Int))) == true)) = true := hc; (try simp at hc'); (first | omega | (simp; omega) | grind [Zb])) (by have hc' : (((((!Op.bytesLess ((ge f.wide k).a).toList ((ge f.wide k).b).toList) || (!(decide ((ge f.wide k).a ∈ vs)))) || (!(decide ((ge f.wide k).b ∈ vs)))) == false) && ((decide ((0 : Int) < (k : Int))) == true)) = true := hc; (try simp at hc'); (first | omega | (simp; omega) | grind [Zb])) hx, fun a _ _ hx hl hc => ZI (i := (k : Int) - (1 : Int)) ZH rfl (hl.dep 30 82 _ rfl rfl rfl hc) (hl.dep 32 84 _ rfl rfl rfl hc) (by have hc' : (((((!Op.bytesLess ((ge f.wide k).a).toList ((ge f.wide k).b).toList) || (!(decide ((ge f.wide k).a ∈ vs)))) || (!(decide ((ge f.wide k).b ∈ vs)))) == false) && ((decide ((0 : Int) < (k : Int))) == true)) = true := hc; (try simp at hc'); (first | omega | (simp; omega) | grind [Zb])) (Q1 (xs := f.wide) (i := (k : Int) - (1 : Int)) (by have hc' : (((((!Op.bytesLess ((ge f.wide k).a).toList ((ge f.wide k).b).toList) || (!(decide ((ge f.wide k).a ∈ vs)))) || (!(decide ((ge f.wide k).b ∈ vs)))) == false) && ((decide ((0 : Int) < (k : Int))) == true)) = true := hc; (try simp at hc'); (first | omega | (simp; omega) | grind [Zb])) (by have hc' : (((((!Op.bytesLess ((ge f.wide k).a).toList ((ge f.wide k).b).toList) || (!(decide ((ge f.wide k).a ∈ vs)))) || (!(decide ((ge f.wide k).b ∈ vs)))) == false) && ((decide ((0 : Int) < (k : Int))) == true)) = true := hc; (try simp at hc'); (first | omega | (simp; omega) | grind [Zb]))) rfl hx, fun _ _ hk hx hl hc => Qk (ZcX hJ (x := (ge f.wide ((k : Int) - (1 : Int)).toNat)) (y := (ge f.wide k)) ) Zma rfl (Zr hS _ hk hx) (hx.1) (Zc (hl.dep 34 86 _ rfl rfl rfl hc) (Zc (hl.dep 35 87 _ rfl rfl rfl hc) Zm)) (jo hJ hx), trivial⟩ (nx (tc 6 rfl rfl (fun hb6 => ?_) (fun hb6 => ?_)))))
 have q3 : ZaJ vs f = 70 := setE_w hb5 hb6
 refine Za (rgo tb hJ [1000] [_] [] [(_, .int (70 : Int))] rfl rfl rfl rfl trivial (nx (Zi (fun a w h => Zh (m := 0) rfl (Zl h) rfl (congrArg AV.int (show (70 : Int) = (ZaJ vs f) from q3.symm))))))
 refine Zd (nx (rgo tb hJ [0, 1, 2, 3, 4, 1001] [.int ((k + 1 : Nat) : Int), _] [0] [(_, _), (_, _), (_, _), (_, _), (_, _), (_, .int ((k + 1 : Nat) : Int))] rfl rfl rfl rfl ⟨Yc (by first | omega | (simp; omega) | grind [Zb]) rfl rfl rfl rfl rfl, trivial⟩ ?_))
 intro a w h; change ∃ j, _ ∧ _
 exact ⟨k + 1, ⟨⟨(show (k + 1) ≤ f.wide.length from by omega), (show ∀ j, j < (k + 1) → Zif vs f.wide j = false from ZW f2_2 hb6)⟩, lz [0, 1, 2, 3, 4, 5] rfl h⟩, (show f.wide.length - (k + 1) < f.wide.length - k from by first | omega | (simp; omega))⟩
 try simp at hb5
 refine Zv (nx (Za (Za (rgo tb hJ [1001, 1005, 1007] [_, _, _, _, _, _, .bool (decide (f.apart = (f.wide.filter (inV (YZ vs (f.text :: (ZZ f.hyps).map Hy.text).flatten))))), _] [5, 6] [(_, .rd (YG f.apart)), (_, .rd (YG (f.wide.filter (inV (YZ vs (f.text :: (ZZ f.hyps).map Hy.text).flatten))))), (_, .bool (!(decide (f.apart = (f.wide.filter (inV (YZ vs (f.text :: (ZZ f.hyps).map Hy.text).flatten)))))))] rfl rfl rfl rfl ⟨fun _ _ hk hx hl _ => X1 (ZkQ hJ (M := z1) (ms := (YZ vs (f.text :: (ZZ f.hyps).map Hy.text).flatten)) (l := f.wide) (h3)) Zl8 rfl (Zr hS _ hk hx) (hx.1) (Z0 (ZA hx (mo 0 rfl)) ZP) (Zc (hl.dep 2 95 _ rfl rfl rfl rfl) (Zc (hl.dep 4 97 _ rfl rfl rfl rfl) Zm)) (jo hJ hx), hFo hS hJ (Zk3 hJ (xs := f.apart) (ys := (f.wide.filter (inV (YZ vs (f.text :: (ZZ f.hyps).map Hy.text).flatten)))) ) Zl9 rfl rfl rfl rfl, trivial⟩ (nx (Zf (fun a w h => Zj h 0 rfl) fun hl4 => Zf (fun a w h => Zj h 1 rfl) fun hl5 => tc 2 rfl rfl (fun hb7 => ?_) (fun hb7 => ?_)))))))
 have q3 : ZaJ vs f = 70 := setE_a (ZaX hb7)
 refine Za (rgo tb hJ [1000] [_] [] [(_, .int (70 : Int))] rfl rfl rfl rfl trivial (nx (Zi (fun a w h => Zh (m := 0) rfl (Zl h) rfl (congrArg AV.int (show (70 : Int) = (ZaJ vs f) from q3.symm))))))
 have q3 : ZaJ vs f = 0 := Znp e1 (by rw [← f1_2']; exact hb4a) (fun j hj => f2_2 j (by omega)) (Zek hb7)
 refine Zd (nx (Za (rgo tb hJ [1000] [_] [] [(_, .int (0 : Int))] rfl rfl rfl rfl trivial (nx (Zi (fun a w h => Zh (m := 0) rfl (Zl h) rfl (congrArg AV.int (show (0 : Int) = (ZaJ vs f) from q3.symm))))))))
theorem ZkT {J : World → Prop} (hJ : Stab J) (s : ByteArray) (hG : X5 J) : Fn Tryz.prog J 94 [.str s] (.bool (!Yb s)) := by
 refine Zx (N := 6) Tryz.func94 rfl rfl (lb rfl) fun S w0 hS hJ0 => ?_
 clear hJ0
 refine Za (rg tb hJ [0] [_] [] [(_, _)] rfl rfl rfl rfl trivial (nx (Za (rg tb hJ [1003] [_, .bool (Yb s), _, _] [1] [(_, .bool (!(Yb s)))] rfl rfl rfl rfl ⟨hFn hS hJ (Zi2 hJ (s := s) (hG)) Zn7 rfl rfl rfl rfl, trivial⟩ (nx (Zi (fun a w h => Zh (m := 0) rfl h rfl (congrArg AV.bool (show (!(Yb s)) = (!Yb s) from by first | rfl | grind [Zb])))))))))
theorem ZkS {J : World → Prop} (hJ : Stab J) (M1 : Nat) (M2 : Nat) (M3 : Nat) (M4 : Nat) (M5 : Nat) (hm : List (ByteArray × Hy)) (y : Hy)  : FnR Tryz.prog J 98 [OB.map keyS (fun z' : Hy => AV.agg (hyC z')) M4 hm] [.agg (hyC y), .ptr [.ptr [.lit (.map (some M1)), .lit (.map (some M2)), .lit (.map (some M3)), .lit (.map (some M4)), .lit (.map (some M5))]]] (.bool ((Zq hm y.label).isSome)) := by
 refine Yp (N := 17) Tryz.func98 rfl rfl (lb rfl) fun S w0 hS hJ0 hH => ?_
 refine tw Yi ?_
 refine Za (rgo tb hJ [1, 1000] [_, _] [0] [(_, _), (_, .ptr (hyC y))] rfl rfl rfl rfl ⟨fun _ _ hk hx hl _ => Yv rfl (hl.env 0 0 _ rfl rfl) (Zr hS _ hk hx _ (Nat.le_refl _)) (jo hJ hx), trivial⟩ (nx (Za ?_)))
 refine fun a w h => Xo (γ := Nat) (fun ix' => ([.ptr [.lit (.map (some M1)), .lit (.map (some M2)), .lit (.map (some M3)), .lit (.map (some M4)), .lit (.map (some M5))], .ptr [.lit (.map (some M1)), .lit (.map (some M2)), .lit (.map (some M3)), .lit (.map (some M4)), .lit (.map (some M5))], .ptr [.lit (.map (some M4)), .lit (.map (some M5))], .lit (.map (some M4)), .ptr (hyC y), .str y.label, .tup [.agg (hyC ((Zq hm y.label).getD default)), .bool ((Zq hm y.label).isSome)], .tup [.agg (hyC ((Zq hm y.label).getD default)), .bool ((Zq hm y.label).isSome)], .agg (hyC ((Zq hm y.label).getD default)), .bool ((Zq hm y.label).isSome), .any, .any, .bool ((Zq hm y.label).isSome)] : List AV).getD ix' .any) (fun ix' => ([true, true, true, true, true, true, true, true, true, true, true, true, true] : List Bool).getD ix' true) [(5, fun (g : Nat) => .bool ((Zq hm y.label).isSome))] (fun (j' : Nat) (g : Nat) => match j' with | 0 => [] | 1 => [OB.var g [.lit (.string (⟨#[]⟩ : ByteArray)), .lit (.bool false), Zg ([] : List ByteArray)]] | _ => [OB.var g [.lit (.string (((Zq hm y.label).getD default).label)), .lit (.bool (((Zq hm y.label).getD default).floating)), Zg (((Zq hm y.label).getD default).text)]]) (fun (k' : Nat) (g : Nat) => match k' with | 0 => (.pointer (some ⟨g, 0, none⟩)) | 1 => undef | _ => undef) [10, 11] 2 0 (fun _ => rfl) h hJ Y0 rfl rfl rfl rfl rfl rfl (fun j' g hj p hp => by rcases j' with _ | _ | _ | j' <;> first | exact hp | exact List.mem_cons_of_mem _ hp | exact List.mem_cons_of_mem _ (List.mem_cons_of_mem _ hp) | (exfalso; omega)) ⟨?o1_1_0, ⟨?o1_1_1, ⟨?o1_1_2, ⟨?o1_1_3, ⟨?o1_1_4, ⟨?o1_1_5, ⟨?o1_1_6, ⟨?o1_1_7, ⟨?o1_1_8, ⟨?o1_1_9, ⟨?o1_1_10, ⟨?o1_1_11, ⟨?o1_1_12, trivial⟩⟩⟩⟩⟩⟩⟩⟩⟩⟩⟩⟩⟩ ⟨?e1_1_0, ⟨?e1_1_1, trivial⟩⟩ ⟨.new 12 5 _ rfl rfl rfl, trivial⟩ ?n1_1
 case o1_1_0 => exact fun _ O' _ => ⟨rfl, fun _ _ _ hx hl _ => ZaT ZeP rfl (hl.env 0 1 _ rfl rfl) hx⟩
 case o1_1_1 => exact fun _ O' _ => ⟨rfl, fun _ _ _ hx hl _ => YO rfl (hl.dep 0 7 _ rfl rfl rfl rfl) hx⟩
 case o1_1_2 => exact fun _ O' _ => ⟨rfl, fun _ _ _ hx hl _ => Ym Qg rfl (hl.dep 1 8 _ rfl rfl rfl rfl) hx⟩
 case o1_1_3 => exact fun _ O' _ => ⟨rfl, fun _ _ _ hx hl _ => Ya Zcm rfl (hl.dep 2 9 _ rfl rfl rfl rfl) hx⟩
 case o1_1_4 => exact fun _ O' _ => ⟨rfl, fun _ _ _ hx hl _ => Ym QO rfl (hl.env 1 2 _ rfl rfl) hx⟩
 case o1_1_5 => exact fun _ O' _ => ⟨rfl, fun _ _ _ hx hl _ => Ya ZdO rfl (hl.dep 4 11 _ rfl rfl rfl rfl) hx⟩
 case o1_1_6 => exact fun _ O' _ => ⟨rfl, fun _ _ hk hx hl _ => Xg (Kd := keyS) (f := (fun z' : Hy => AV.agg (hyC z'))) (L := hm) Xk Qn y.label rfl (YF hH hk hx (mo 0 rfl)) (hl.dep 3 10 _ rfl rfl rfl rfl) (hl.dep 5 12 _ rfl rfl rfl rfl) hx⟩
 case o1_1_7 => exact fun _ O' _ => ⟨rfl, fun _ _ _ hx hl _ => Yj rfl (hl.dep 6 13 _ rfl rfl rfl rfl) hx⟩
 case o1_1_8 => exact fun _ O' _ => ⟨rfl, fun _ _ _ hx hl _ => Xh rfl (hl.dep 7 6 _ rfl rfl rfl rfl) rfl hx⟩
 case o1_1_9 => exact fun _ O' _ => ⟨rfl, fun _ _ _ hx hl _ => Xh rfl (hl.dep 7 6 _ rfl rfl rfl rfl) rfl hx⟩
 case o1_1_10 => exact Zs rfl
 case o1_1_11 => exact Zs rfl
 case o1_1_12 => exact fun _ O' _ => ⟨rfl, fun _ _ _ hx hl _ => QH rfl (hl.dep 9 15 _ rfl rfl rfl rfl) hx⟩
 case e1_1_0 => exact ⟨_, rfl, rfl, rfl, rfl, fun g _ w hk hx _ _ => ZJ (Zd0 Xv hJ rfl hk hx) fun v w' ⟨g', hv, hp⟩ => ⟨g', rfl, fun k' hk' => absurd hk' (Nat.not_lt_zero _), fun _ => hv, hp⟩⟩
 case e1_1_1 => exact ⟨_, rfl, rfl, rfl, rfl, fun g _ w hk hx hl hs => (by obtain ⟨us2, hv2, hr3⟩ := Zcf (cs := [.lit (.string (((Zq hm y.label).getD default).label)), .lit (.bool (((Zq hm y.label).getD default).floating)), Zg (((Zq hm y.label).getD default).text)]) (hl.dep 8 14 _ rfl rfl rfl rfl); exact ZJ (QQ (S' := S) (off := 0) (cs := [.lit (.string (⟨#[]⟩ : ByteArray)), .lit (.bool false), Zg ([] : List ByteArray)]) (news := [.lit (.string (((Zq hm y.label).getD default).label)), .lit (.bool (((Zq hm y.label).getD default).floating)), Zg (((Zq hm y.label).getD default).text)]) (es := [.lit (.string (((Zq hm y.label).getD default).label)), .lit (.bool (((Zq hm y.label).getD default).floating)), Zg (((Zq hm y.label).getD default).text)]) (us := us2) hJ hJ0 XN rfl hk hx (Zgv (hs 0 10 _ 4 (by omega) rfl rfl rfl)) (by rw [hv2]; rfl) hr3 (lb rfl) rfl) fun v w' hp => ⟨g, rfl, fun _ _ => rfl, fun e => (by cases e), hp⟩)⟩
 clear a w h
 intro b1
 change ∀ a w, St All (SO S [OB.var b1 [.lit (.string (((Zq hm y.label).getD default).label)), .lit (.bool (((Zq hm y.label).getD default).floating)), Zg (((Zq hm y.label).getD default).text)]]) w0 17 [(5, .bool ((Zq hm y.label).isSome))] (XO J S w0.heap.size [OB.var b1 [.lit (.string (((Zq hm y.label).getD default).label)), .lit (.bool (((Zq hm y.label).getD default).floating)), Zg (((Zq hm y.label).getD default).text)]]) a w → _
 refine kw Yt ?_
 refine nx (Za (rgo tb hJ [1001] [_, _] [] [(_, .bool ((Zq hm y.label).isSome))] rfl rfl rfl rfl trivial (nx (Zi (fun a w h => Zh (m := 0) rfl (Zl h) rfl rfl)))))
end Go.Proofs.YtnpgmdffjemnbaaGreatDoor
set_option maxHeartbeats 8000000
set_option maxRecDepth 100000
namespace Go.Proofs.YtnpgmdffjemnbaaGreatDoor
open Go.RowKit

theorem Znz {J : World → Prop} (hJ : Stab J) (n : Nat) (b : n * 48 ≤ 140737488351232) : FnM (ι := Value) Tryz.prog J 121 [] [.lit (.slice none 0 0), .int n] [] (fun i' => .lit (i')) (fun i' => [OB.row i' 109 3 (([] : List Hy).map hyC)]) := by
 refine YK (N := 27) Tryz.func121 rfl rfl (lb rfl) fun S w0 R hS hJ0 hH => ?_
 refine XA (B := St All (SO S (R)) w0 27 [(0, .lit (.slice none 0 0)), (1, .int n)] (XO J S w0.heap.size (R))) ?_ fun a w h => h
 refine Za (rgo tb hJ [0, 1] [_] [] [(_, _), (_, _)] rfl rfl rfl rfl trivial (nx (Za (Za (rgo tb hJ [0, 1, 1001] [_, _] [] [(_, _), (_, _), (_, .bool (decide ((n : Int) < (0 : Int))))] rfl rfl rfl rfl trivial (nx (tc 2 rfl rfl (fun hb1 => ?_) (fun hb1 => ?_))))))))
 try simp at hb1
 exact False.elim (by omega)
 try simp at hb1
 refine Zd (nx (Za (Za (rgo tb hJ [0, 1007] [_, _, .int ((0 : Nat) : Int), _, .int ((0 : Nat) : Int), .int (((0 : Nat) : Int) - ((0 : Nat) : Int)), .int ((n : Int) - ((0 : Nat) : Int) - ((0 : Nat) : Int)), _] [2, 4, 5, 6] [(_, _), (_, .int ((n : Int) - ((0 : Nat) : Int) - ((0 : Nat) : Int)))] rfl rfl rfl rfl ⟨fun _ _ _ hx hl _ => ZgF ZC rfl (hl.dep 1 9 _ rfl rfl rfl rfl) hx, fun _ _ _ hx hl _ => ZgE ZC rfl (hl.dep 3 11 _ rfl rfl rfl rfl) hx, ZoF (by first | omega | (simp; omega) | grind [Zb]) rfl rfl rfl rfl rfl, ZoF (by first | omega | (simp; omega) | grind [Zb]) rfl rfl rfl rfl rfl, trivial⟩ (nx (Za ?_))))))
 refine tw (sa 1 rfl (congrArg AV.int (show (n : Int) - ((0 : Nat) : Int) - ((0 : Nat) : Int) = (n : Int) from by omega))) ?_
 refine rgo tb hJ [0, 1, 1001] [_, _] [] [(_, _), (_, _), (_, .bool (decide ((0 : Int) < (n : Int))))] rfl rfl rfl rfl trivial (nx (tc 2 rfl rfl (fun hb2 => ?_) (fun hb2 => ?_)))
 try simp at hb2
 refine Zn (sv tb rfl rfl rfl rfl (sv tb rfl rfl rfl rfl (sq (.int ((0 : Nat) : Int)) rfl rfl (lb rfl) (fun _ _ h => ZgF ZC rfl (h.get 0 rfl) h.x) (sq (.lit (.slice none 0 0)) rfl rfl (lb rfl) (fun _ _ h => ZkK Zt rfl (h.get 2 rfl) (h.get 0 rfl) h.x) (sv tb rfl rfl rfl rfl (Znj (m := n) Xz Zc8 hJ rfl rfl rfl (lb rfl) (by omega) (by omega) (by omega) (fun a w h => ⟨(h.get 1 rfl), (h.get 0 rfl)⟩) fun v1 => ?_))))))
 refine sv tb rfl rfl rfl rfl (sq (.int ((0 : Nat) : Int)) rfl rfl (lb rfl) (fun _ _ h => ZgE ZC rfl (h.get 0 rfl) h.x) (sq (.lit (ZcV v1 0)) rfl rfl (lb rfl) (fun _ _ h => ZiL (m := 0) Zt rfl (ZA h.x (mo 0 rfl)) (by first | rfl | (rw [List.length_map]; exact (rfl))) (h.get 2 rfl) (h.get 0 rfl) h.x) (sv tb rfl rfl rfl rfl (Zy ?_))))
 refine kw (lz [0] (env' := [(_, _)]) rfl) ?_
 refine nx (Za (rgo tb hJ [1001] [_, _] [] [(_, .lit (ZcV v1 0))] rfl rfl rfl rfl trivial (nx (Zi (fun a w h => Yh  (m := 0) (ZcV v1 0) rfl h rfl rfl)))))
 try simp at hb2
 refine Zd (nx (Za (rgo tb hJ [1001] [_, _] [] [(_, .lit (.slice none 0 0))] rfl rfl rfl rfl trivial (nx ?_))))
 refine tw (YI 109 3 hJ) ?_
 refine Zi (fun a w h => Yh  (m := 0) (.slice none 0 0) rfl h rfl rfl)
theorem ZeN {J : World → Prop} (hJ : Stab J) (ls : List (List Hy)) (b : ls.flatten.length * 48 ≤ 140737488351232) : Fn Tryz.prog J 89 [.rd (Ze3 ls)] (.rd (Z4 ls.flatten)) := by
 refine Zx (N := 36) Tryz.func89 rfl rfl (lb rfl) fun S w0 hS hJ0 => ?_
 refine tw Yi ?_
 refine Zf (fun a w h => Zj h 0 rfl) fun hl1 => Za (rgo tb hJ [0] [_] [] [(_, _)] rfl rfl rfl rfl trivial (nx (Za (rgo tb hJ [0, 1000] [_] [] [(_, _), (_, .int (0 : Int))] rfl rfl rfl rfl trivial (nx (Za (Za (rgo tb hJ [0, 1, 1000, 1001, 1002] [_, _, _] [1] [(_, _), (_, _), (_, .rd (Ze3 ls)), (_, .int ls.length), (_, .int (0 : Int))] rfl rfl rfl rfl ⟨Ys Zb7 rfl rfl rfl rfl, trivial⟩ (nx (Ze (Zw (ι := Nat × Nat) (fun (ii' : Nat × Nat) a w => match ii' with | (k, z) => ((k ≤ ls.length) ∧ (z = (ls.take k).flatten.length)) ∧ St All (SO S []) w0 36 [(0, .rd (Ze3 ls)), (9, .rd (Ze3 ls)), (10, .int ls.length), (11, .int k), (3, .int z)] (XO J S w0.heap.size []) a w) (fun (ii' : Nat × Nat) => match ii' with | (k, _) => (ls.length - k : Nat)) ?_ ?_)))))))))))
 intro a w h
 exact ⟨(0, 0), (show (0 ≤ ls.length) ∧ (0 = (ls.take 0).flatten.length) from ⟨Nat.zero_le _, by simp⟩), lz [0, 2, 3, 4, 1] rfl h⟩
 rintro ⟨k, z⟩
 refine ZD fun hF => ?_
 obtain ⟨f1_1, f1_2⟩ := hF
 refine Za (rgo tb hJ [0, 1, 2, 3, 4, 1000] [_] [] [(_, _), (_, _), (_, _), (_, _), (_, _), (_, .bool (decide ((k : Int) < (ls.length : Int))))] rfl rfl rfl rfl trivial (nx (Za (tc 5 rfl rfl (fun hb1 => ?_) (fun hb1 => ?_)))))
 try simp at hb1
 refine Zd (nx (Za (Ze (Za (rgo tb hJ [0, 1, 2, 3, 4, 1001, 1002] [.ptr [Z4 (ge ls k)], _, _] [0] [(_, _), (_, _), (_, _), (_, _), (_, _), (_, .rd (Z4 (ge ls k))), (_, .rd (Z4 (ge ls k)))] rfl rfl rfl rfl ⟨hIx X8 (by first | omega | (simp; omega) | grind [Zb]) rfl rfl rfl rfl rfl rfl, trivial⟩ (nx (Zf (fun a w h => Zj h 5 rfl) fun hl2 => Za (rgo tb hJ [0, 1, 2, 3, 1004] [_, _, .int (((ge ls k).length : Nat) : Int), .int ((z + (ge ls k).length : Nat) : Int), _] [2, 3] [(_, _), (_, _), (_, _), (_, _), (_, .int ((z + (ge ls k).length : Nat) : Int))] rfl rfl rfl rfl ⟨Ys ZC rfl rfl rfl rfl, Yc (by have := Qr ls (k + 1); rw [ZS (by omega)] at this; simp only [List.flatten_append, List.length_append, List.flatten_cons, List.flatten_nil, List.append_nil] at this; omega) rfl rfl rfl rfl rfl, trivial⟩ (nx (Za (rgo tb hJ [0, 1, 2, 3, 4, 1001] [_, _] [] [(_, _), (_, _), (_, _), (_, _), (_, _), (_, .bool (decide (((z + (ge ls k).length : Nat) : Int) < (0 : Int))))] rfl rfl rfl rfl trivial ?_)))))))))))
 refine nx (tc 5 rfl rfl (fun hb2 => ?_) (fun hb2 => ?_))
 try simp at hb2
 exact False.elim (by omega)
 try simp at hb2
 refine Zd (nx (rgo tb hJ [0, 1, 2, 4, 1001] [.int ((k + 1 : Nat) : Int), _] [0] [(_, _), (_, _), (_, _), (_, _), (_, .int ((k + 1 : Nat) : Int))] rfl rfl rfl rfl ⟨Yc (by first | omega | (simp; omega) | grind [Zb]) rfl rfl rfl rfl rfl, trivial⟩ ?_))
 intro a w h; change ∃ j, _ ∧ _
 exact ⟨(k + 1, z + (ge ls k).length), ⟨⟨(show (k + 1) ≤ ls.length from by omega), (show (z + (ge ls k).length) = (ls.take (k + 1)).flatten.length from by rw [f1_2, ZS (by omega)]; simp)⟩, lz [0, 1, 2, 4, 3] rfl h⟩, (show ls.length - (k + 1) < ls.length - k from by first | omega | (simp; omega))⟩
 try simp at hb1
 refine Zv (nx (Za (Zn (sv tb rfl rfl rfl rfl (Zat (O := []) (R := []) (Znz hJ (n := z) (by rw [f1_2]; exact Nat.le_trans (Nat.mul_le_mul_right 48 (Qr ls k)) b)) Zme rfl rfl rfl (lb rfl) hS hJ0 ZP (fun a w h => (Zc (Rel.of_lit (Go.Value.slice none 0 0)) (Zc (h.get 0 rfl) Zm))) fun z1 => ?_)))))
 refine sv tb rfl rfl rfl rfl (Zy ?_)
 refine kw (lz [0, 3] (env' := [(_, _), (_, _)]) rfl) ?_
 refine nx (Za (Za (rgo tb hJ [0, 1000, 1001, 1002] [_, _, _] [1] [(_, _), (_, .rd (Ze3 ls)), (_, .int ls.length), (_, .int (0 : Int))] rfl rfl rfl rfl ⟨Ys Zb7 rfl rfl rfl rfl, trivial⟩ (nx (Ze (Zw (ι := Nat × Value × (List Hy)) (fun (ii' : Nat × Value × (List Hy)) a w => match ii' with | (k, vo, out) => ((k ≤ ls.length) ∧ (out = (ls.take k).flatten)) ∧ St All (SO S [OB.row vo 109 3 (out.map hyC)]) w0 36 [(25, .rd (Ze3 ls)), (26, .int ls.length), (27, .int k), (6, .lit vo)] (XO J S w0.heap.size [OB.row vo 109 3 (out.map hyC)]) a w) (fun (ii' : Nat × Value × (List Hy)) => match ii' with | (k, _, _) => (ls.length - k : Nat)) ?_ ?_))))))
 intro a w h
 exact ⟨(0, z1, ([] : List Hy)), (show (0 ≤ ls.length) ∧ (([] : List Hy) = (ls.take 0).flatten) from ⟨Nat.zero_le _, by simp⟩), lz [1, 2, 3, 0] rfl h⟩
 rintro ⟨k, vo, out⟩
 refine ZD fun hF => ?_
 obtain ⟨f2_1, f2_2⟩ := hF
 refine Za (rgo tb hJ [0, 1, 2, 3, 1000] [_] [] [(_, _), (_, _), (_, _), (_, _), (_, .bool (decide ((k : Int) < (ls.length : Int))))] rfl rfl rfl rfl trivial (nx (Za (tc 4 rfl rfl (fun hb3 => ?_) (fun hb3 => ?_)))))
 try simp at hb3
 refine Zd (nx (Za (Ze (Za (rgo tb hJ [0, 1, 2, 3, 1001, 1002] [.ptr [Z4 (ge ls k)], _, _] [0] [(_, _), (_, _), (_, _), (_, _), (_, .rd (Z4 (ge ls k))), (_, .rd (Z4 (ge ls k)))] rfl rfl rfl rfl ⟨hIx X8 (by first | omega | (simp; omega) | grind [Zb]) rfl rfl rfl rfl rfl rfl, trivial⟩ (nx (Zf (fun a w h => Zj h 4 rfl) fun hl3 => Zn (sv tb rfl rfl rfl rfl (sv tb rfl rfl rfl rfl (ZR (f := hyC) (m := 1) (s := 31) out (ge ls k) (fun _ => rfl) Xz hJ hJ0 rfl rfl rfl (lb rfl) rfl rfl (fun a w h => (h.get 0 rfl)) (by have := Qr ls (k + 1); rw [ZS (by omega)] at this; simp only [List.flatten_append, List.length_append, List.flatten_cons, List.flatten_nil, List.append_nil] at this; rw [f2_2]; omega) (by have := Qr ls (k + 1); rw [ZS (by omega)] at this; simp only [List.flatten_append, List.length_append, List.flatten_cons, List.flatten_nil, List.append_nil] at this; rw [f2_2]; omega) fun v2 => ?_))))))))))
 refine sv tb rfl rfl rfl rfl (Zy ?_)
 refine kw (lz [0, 4, 5, 6] (env' := [(_, _), (_, _), (_, _), (_, _)]) rfl) ?_
 refine nx (rgo tb hJ [0, 1, 2, 1001] [.int ((k + 1 : Nat) : Int), _] [0] [(_, _), (_, _), (_, _), (_, .int ((k + 1 : Nat) : Int))] rfl rfl rfl rfl ⟨Yc (by first | omega | (simp; omega) | grind [Zb]) rfl rfl rfl rfl rfl, trivial⟩ ?_)
 intro a w h; change ∃ j, _ ∧ _
 exact ⟨(k + 1, v2, out ++ (ge ls k)), ⟨⟨(show (k + 1) ≤ ls.length from by omega), (show (out ++ (ge ls k)) = (ls.take (k + 1)).flatten from by rw [f2_2, ZS (by omega)]; simp)⟩, lz [1, 2, 3, 0] rfl h⟩, (show ls.length - (k + 1) < ls.length - k from by first | omega | (simp; omega))⟩
 try simp at hb3
 refine Zv (nx (Za (rgo tb hJ [1001] [_, _] [] [(_, .lit vo)] rfl rfl rfl rfl trivial (nx ?_))))
 refine tw (fun h => ZO hS h (m := 0) (s := 2) rfl) ?_
 refine Zi (fun a w h => Zh (m := 0) rfl (Zl h) rfl (congrArg (fun z => AV.rd (Z4 z)) (show out = ls.flatten from by rw [f2_2, Zp (by omega)])))
theorem Zk4 {J : World → Prop} (hJ : Stab J) (M5 : Nat) (T1 : Nat) (tm : List (ByteArray × ByteArray)) (ts : List (ByteArray × ByteArray)) (hq : ∀ q' ∈ ts.map (·.1), q'.size ≤ 9223372036854775807) : FnM (ι := { q' : List (ByteArray × ByteArray) // ∀ k', Zq q' k' = if (Zq ts k').isSome then Zq ts k' else Zq tm k' }) Tryz.prog J 100 [] [.lit (.map (some M5)), .lit (.map (some T1))] [OB.map keyS (fun z' : ByteArray => AV.str z') M5 tm, OB.map keyS (fun z' : ByteArray => AV.str z') T1 ts] (fun _ => .tup []) (fun i' => [OB.map keyS (fun z' : ByteArray => AV.str z') M5 (i'.1), OB.map keyS (fun z' : ByteArray => AV.str z') T1 ts]) := by
 refine YK (N := 16) Tryz.func100 rfl rfl (lb rfl) fun S w0 R hS hJ0 hH => ?_
 refine XA (B := St All (SO S (OB.map keyS (fun z' : ByteArray => AV.str z') M5 tm :: OB.map keyS (fun z' : ByteArray => AV.str z') T1 ts :: R)) w0 16 [(0, .lit (.map (some M5))), (1, .lit (.map (some T1)))] (XO J S w0.heap.size (OB.map keyS (fun z' : ByteArray => AV.str z') M5 tm :: OB.map keyS (fun z' : ByteArray => AV.str z') T1 ts :: R))) ?_ fun a w h => h
 refine Za (Zn (sv tb rfl rfl rfl rfl ?_))
 refine kw pm1 ?_
 refine Zkw (Kd := keyS) (f := (fun z' : ByteArray => AV.str z')) (L := ts) Zeq hJ hJ0 rfl rfl rfl (lb rfl) (fun a w h => (h.get 0 rfl)) fun b1 => ?_
 refine Zy ?_
 refine kw (lz [0, 2] (env' := [(_, _), (_, _)]) rfl) ?_
 refine nx (Ze (Zw (ι := (List ByteArray) × (List (ByteArray × ByteArray))) (fun (ii' : (List ByteArray) × (List (ByteArray × ByteArray))) a w => match ii' with | (vis, tn) => ((∀ q', Zq tn q' = if q' ∈ vis then Zq ts q' else Zq tm q') ∧ (vis.Nodup) ∧ (∀ q' ∈ vis, q' ∈ ts.map (·.1))) ∧ St All (SO S (OB.iter b1 keyS (fun z' : ByteArray => AV.str z') T1 ts vis :: OB.map keyS (fun z' : ByteArray => AV.str z') M5 tn :: R)) w0 16 [(7, .at b1 0), (0, .lit (.map (some M5)))] (XO J S w0.heap.size (OB.iter b1 keyS (fun z' : ByteArray => AV.str z') T1 ts vis :: OB.map keyS (fun z' : ByteArray => AV.str z') M5 tn :: R)) a w) (fun (ii' : (List ByteArray) × (List (ByteArray × ByteArray))) => match ii' with | (vis, _) => (ts.length - vis.length : Nat)) ?_ ?_))
 intro a w h
 exact ⟨(([] : List ByteArray), tm), (show (∀ q', Zq tm q' = if q' ∈ ([] : List ByteArray) then Zq ts q' else Zq tm q') ∧ (([] : List ByteArray).Nodup) ∧ (∀ q' ∈ ([] : List ByteArray), q' ∈ ts.map (·.1)) from ⟨fun q' => by simp, by simp, fun q' h => by simp at h⟩), lz [0, 1] rfl h⟩
 rintro ⟨vis, tn⟩
 refine ZD fun hF => ?_
 obtain ⟨f1_1, f1_2, f1_3⟩ := hF
 refine Za (Zn (Znk (Kd := keyS) (f := (fun z' : ByteArray => AV.str z')) (L := ts) (vis := vis) (fun k' hk' => hq k' hk') hJ hJ0 rfl rfl rfl (lb rfl) (fun a w h => (h.get 0 rfl)) fun z2 h0z2 h1z2 => ?_))
 refine sq (.bool z2.1) rfl rfl (lb rfl) (fun _ _ h => Xh rfl (h.get 0 rfl) rfl h.x) (Zy ?_)
 refine kw (lz [0, 2, 3] (env' := [(_, _), (_, _), (_, _)]) rfl) ?_
 refine nx (Za (tc 0 rfl rfl (fun hb1 => ?_) (fun hb1 => ?_)))
 refine tw (ob0 (congrArg (fun z' => OB.iter b1 keyS (fun z' : ByteArray => AV.str z') T1 ts (z')) (show (if z2.1 then vis ++ [z2.2] else vis) = (vis ++ [z2.2]) from by rw [hb1]; rfl))) ?_
 refine Zd (nx (Ze (Za (rgo tb hJ [1, 2, 1003, 1004] [.tup [.str z2.2, .str ((Zq ts z2.2).getD default)], _, _, _, _] [0] [(_, _), (_, _), (_, .str z2.2), (_, .str ((Zq ts z2.2).getD default))] rfl rfl rfl rfl ⟨fun _ _ _ hx hl _ => Znt (Kd := keyS) (f := (fun z' : ByteArray => AV.str z')) (L := ts) (k := z2.2) rfl (ZA hx (mo 0 rfl)) (hq z2.2 (by have := (h1z2 hb1).2; rw [YS] at this; simpa using this)) (hl.env 1 7 _ rfl rfl) hx, trivial⟩ (nx (Zn (sv tb rfl rfl rfl rfl (sv tb rfl rfl rfl rfl (sv tb rfl rfl rfl rfl ?_)))))))))
 refine kw pm1 ?_
 refine Zet (f := (fun z' : ByteArray => AV.str z')) Qq hJ hJ0 z2.2 ((Zq ts z2.2).getD default) rfl rfl (.inl rfl) (fun a w h => ⟨(h.get 2 rfl), (h.get 1 rfl), (h.get 0 rfl)⟩) (Zy ?_)
 refine kw (lz [3, 4] (env' := [(_, _), (_, _)]) rfl) ?_
 refine kw pm1 ?_
 intro a w h; change ∃ j, _ ∧ _
 exact ⟨(vis ++ [z2.2], Ql tn z2.2 ((Zq ts z2.2).getD default)), ⟨⟨(show ∀ q', Zq (Ql tn z2.2 ((Zq ts z2.2).getD default)) q' = if q' ∈ (vis ++ [z2.2]) then Zq ts q' else Zq tm q' from ZjL f1_1 (h1z2 hb1)), (show (vis ++ [z2.2]).Nodup from by rw [List.nodup_append]; exact ⟨f1_2, by simp, fun x hx y hy e => by rw [List.mem_singleton.1 hy] at e; subst e; exact (h1z2 hb1).1 hx⟩), (show ∀ q' ∈ (vis ++ [z2.2]), q' ∈ ts.map (·.1) from fun q' hq' => by rcases List.mem_append.1 hq' with h | h; exact f1_3 q' h; rw [List.mem_singleton.1 h]; have := (h1z2 hb1).2; rw [YS] at this; simpa using this)⟩, lz [0, 1] rfl h⟩, (show ts.length - (vis ++ [z2.2]).length < ts.length - vis.length from ZjM f1_2 f1_3 (h1z2 hb1))⟩
 refine tw (ob0 (congrArg (fun z' => OB.iter b1 keyS (fun z' : ByteArray => AV.str z') T1 ts (z')) (show (if z2.1 then vis ++ [z2.2] else vis) = vis from by rw [hb1]; rfl))) ?_
 refine Zv ?_
 refine kw Zhx ?_
 refine kw pm1 ?_
 refine kw (ob0 (congrArg (fun z' => OB.map keyS (fun z' : ByteArray => AV.str z') M5 (z')) (show tn = ((⟨tn, by intro k'; rw [f1_1]; by_cases hk9 : (Zq ts k').isSome = true; (rw [if_pos hk9, if_pos (h0z2 hb1 k' hk9)]); (rw [if_neg hk9]; by_cases hv9 : k' ∈ vis; (exact absurd (by rw [YS]; simpa using f1_3 k' hv9) hk9); rw [if_neg hv9])⟩ : { q' : List (ByteArray × ByteArray) // ∀ k', Zq q' k' = if (Zq ts k').isSome then Zq ts k' else Zq tm k' }).1) from rfl))) ?_
 exact fun a w h => ZfP  (⟨tn, by intro k'; rw [f1_1]; by_cases hk9 : (Zq ts k').isSome = true; (rw [if_pos hk9, if_pos (h0z2 hb1 k' hk9)]); (rw [if_neg hk9]; by_cases hv9 : k' ∈ vis; (exact absurd (by rw [YS]; simpa using f1_3 k' hv9) hk9); rw [if_neg hv9])⟩ : { q' : List (ByteArray × ByteArray) // ∀ k', Zq q' k' = if (Zq ts k').isSome then Zq ts k' else Zq tm k' }) rfl h rfl
end Go.Proofs.YtnpgmdffjemnbaaGreatDoor
namespace Go.Proofs.YtnpgmdffjemnbaaGreatDoor

abbrev alH (f : Fr) : List Hy := f.hyps ++ f.dummies
def lsK (l : List Hy) : List ByteArray := l.foldl (fun s h => Z5 s h.label) []
def tsK (l : List Hy) : List (ByteArray × ByteArray) := l.foldl (fun t h => if h.floating then Ql t (ge h.text 1) (ge h.text 0) else t) []
def hmK (hm : List (ByteArray × Hy)) (l : List Hy) : List (ByteArray × Hy) := l.foldl (fun m h => Ql m h.label h) hm
def hyK (cs vs fs : List ByteArray) (hm : List (ByteArray × Hy)) (tm : List (ByteArray × ByteArray)) (f : Fr) (i : Nat) : Int :=
  Zav cs vs (Z5 fs f.label) hm tm (lsK ((alH f).take i)) (tsK ((alH f).take i)) (ge (alH f) i) (decide (((f.hyps.length : Nat) : Int) ≤ ((i : Nat) : Int)))
def ZoE (f : Fr) : Bool := decide ((0 : Int) < ((f.proof.length : Nat) : Int)) && ((!f.thm || decide ((8000 : Int) < ((f.proof.length : Nat) : Int))) || f.proof.any fun s => !Yb s)
def Y7 (cs vs fs : List ByteArray) (hm : List (ByteArray × Hy)) (tm : List (ByteArray × ByteArray)) (f : Fr) (bf : List Hy) : Int :=
  if !Q8 f.label then 2 else if ((Zq hm f.label).isSome || (decide (f.label ∈ cs) || decide (f.label ∈ vs))) || decide (f.label ∈ fs) then 6
  else if decide ((40 : Int) < ((f.hyps.length : Nat) : Int)) || decide ((40 : Int) < ((f.dummies.length : Nat) : Int)) then 4
  else if !decide (YV (alH f).length (hyK cs vs fs hm tm f) = 0) then YV (alH f).length (hyK cs vs fs hm tm f)
  else if !decide (ZbP cs vs f.text = 0) then ZbP cs vs f.text
  else if !decide (ZaJ vs f = 0) then ZaJ vs f
  else if ZoE f then 2
  else if ((ZZ f.hyps).drop (Zae (bf.map Hy.label) ((ZZ f.hyps).map Hy.label))).any fun y => (Zq hm y.label).isSome then 7 else 0
theorem Ze5 {cs vs fs : List ByteArray} {hm : List (ByteArray × Hy)} {tm : List (ByteArray × ByteArray)} {ls : List ByteArray} {ts : List (ByteArray × ByteArray)} {y : Hy} {dm : Bool} (h : Zav cs vs fs hm tm ls ts y dm = 0) : Qv y dm = false := by
  cases hf : Qv y dm with
  | false => rfl
  | true => simp [Zav, hf] at h
theorem Zjz {y : Hy} {dm : Bool} (h : Qv y dm = false) : y.text.length ≤ 200 := by
  cases hf : y.floating with
  | true => have := Yl h hf; omega
  | false => simp [Qv, hf] at h; omega
theorem ZdS (l : List Hy) (y : Hy) : lsK (l ++ [y]) = Z5 (lsK l) y.label := by simp [lsK]
theorem ZaP (l : List Hy) (y : Hy) : tsK (l ++ [y]) = if y.floating then Ql (tsK l) (ge y.text 1) (ge y.text 0) else tsK l := by simp [tsK]
theorem Zlr (hm : List (ByteArray × Hy)) (l : List Hy) (y : Hy) : hmK hm (l ++ [y]) = Ql (hmK hm l) y.label y := by simp [hmK]
theorem Zkq : ∀ (l : List Hy), (∀ y ∈ l, y.floating = true → y.text.length = 2) → (∀ y ∈ l, ∀ s ∈ y.text, s.size ≤ 9223372036854775807) → ∀ q ∈ (tsK l).map (·.1), q.size ≤ 9223372036854775807 := by
  intro l
  rw [← List.reverse_reverse l]
  induction l.reverse with
  | nil => simp [tsK]
  | cons y m ih =>
    intro h1 h2 q hq
    rw [List.reverse_cons] at h1 h2 hq
    rw [ZaP] at hq
    have ih' := ih (fun z hz => h1 z (by simp at hz ⊢; exact .inl hz)) (fun z hz => h2 z (by simp at hz ⊢; exact .inl hz))
    by_cases hf : y.floating = true
    · rw [if_pos hf, ZeU] at hq
      split at hq
      · exact ih' q hq
      · rcases List.mem_append.1 hq with h | h
        · exact ih' q h
        · rw [List.mem_singleton.1 h]
          exact h2 y (by simp) _ (Zb (by have := h1 y (by simp) hf; omega))
    · rw [if_neg hf] at hq; exact ih' q hq
def ZlF (tm ts : List (ByteArray × ByteArray)) : List (ByteArray × ByteArray) := ts.foldr (fun p m => Ql m p.1 p.2) tm
theorem Zfe (tm : List (ByteArray × ByteArray)) : ∀ (ts : List (ByteArray × ByteArray)) (k : ByteArray), Zq (ZlF tm ts) k = if (Zq ts k).isSome then Zq ts k else Zq tm k
  | [], k => by simp [ZlF, X7]
  | p :: ts, k => by
    have ih := Zfe tm ts k
    simp only [ZlF, List.foldr_cons, XC, Xi] at ih ⊢
    by_cases h : k = p.1
    · simp [h]
    · simp only [if_neg h]; exact ih
end Go.Proofs.YtnpgmdffjemnbaaGreatDoor
