/-
  DERIVED: THE SHELF's CONTRACTS AT THIS DUMP, IN PLAIN WORDS (tools/lay-plain.mjs out of 'TryzShelf.lean', which tools/lay-shelf.mjs wrote): THE SAME DECLARATIONS UNDER THE SAME NAMES: 'import', 'namespace', 'open', 'def', 'theorem' AND NOTHING ELSE: no command of the shelf's: FOR A HAND-IN. Each laying: the table of numbers ('.._ren') and one theorem, a field a fact of the dump's own or the kernel's comparison; each contract: ONE APPLICATION.
  CONTRACTS of the program: a proof's brackets.
  CONTRACT of the program: the letters of a compressed proof.
  CONTRACTS of the program: a label among the hypotheses'.
  CONTRACT of the program: what is checked ahead.
  WHAT THE STACK MACHINE KEEPS (plain).
  WHAT IS READ CAN BE WORKED (plain).
  WHAT A RIGHT DATABASE GIVES THE STACK MACHINE (plain).
  WHAT IS READ, ITEM BY ITEM (plain).
  CONTRACT of the program: a proof's words are read.
  CONTRACTS of the program: the machine's reading, guarded.
  THE ENGINE: a machine is built.
  THE ENGINE: a region in which several operations turn what is owned, in whatever order the text leaves open.
  CONTRACT of the program: the machine of a proof.
  CONTRACT of the program: a verdict.
-/
import Derived.Shelf.Strings.Builder2
import Derived.Shelf.Strings.OnBuilder
import Derived.Shelf.Slices.Equal
import Derived.Shelf.Slices.CompactS
import Derived.Shelf.Slices.Cells
import Derived.Shelf.Slices.Empties2
import Derived.Test.YtgifeodnngodiaaGreatDoorPAB
namespace Go.Proofs
open Go.Shelf
def Tryz.lays156_ren : Go.Shelf.Ren := ⟨fun | 156 => 111 | 165 => 128 | 166 => 129 | 169 => 130 | 240 => 147 | 241 => 148 | 276 => 164 | 277 => 165 | n => n, fun | 31 => 22 | 9 => 9 | 3 => 3 | 4 => 4 | 0 => 0 | 20 => 20 | 72 => 180 | 76 => 184 | 70 => 177 | 37 => 178 | 75 => 183 | 127 => 204 | 164 => 218 | 5 => 5 | 80 => 186 | n => n, fun | n => n⟩
theorem Tryz.lays156 : Go.Proofs.Lays.n156 Tryz.prog Tryz.lays156_ren := {
 mixed := by kernel_rfl
 f156 := Tryz.func111.trans (congrArg some (by kernel_rfl))
 f165 := Tryz.func128.trans (congrArg some (by kernel_rfl))
 f166 := Tryz.func129.trans (congrArg some (by kernel_rfl))
 f169 := Tryz.func130.trans (congrArg some (by kernel_rfl))
 f240 := Tryz.func147.trans (congrArg some (by kernel_rfl))
 f241 := Tryz.func148.trans (congrArg some (by kernel_rfl))
 f276 := Tryz.func164.trans (congrArg some (by kernel_rfl))
 f277 := Tryz.func165.trans (congrArg some (by kernel_rfl))
 t0 := Tryz.underlying0
 a0 := Tryz.isAgg0
 z0 := Tryz.sizeOf0
 v0 := Tryz.zeroValue0
 t3 := Tryz.underlying3
 a3 := Tryz.isAgg3
 z3 := Tryz.sizeOf3
 v3 := Tryz.zeroValue3
 t4 := Tryz.underlying4
 a4 := Tryz.isAgg4
 z4 := Tryz.sizeOf4
 v4 := Tryz.zeroValue4
 t9 := Tryz.underlying9
 a9 := Tryz.isAgg9
 z9 := Tryz.sizeOf9
 v9 := Tryz.zeroValue9
 t20 := Tryz.underlying20
 a20 := Tryz.isAgg20
 z20 := Tryz.sizeOf20
 v20 := Tryz.zeroValue20
 t31 := Tryz.underlying22
 a31 := Tryz.isAgg22
 z31 := Tryz.sizeOf22
 v31 := Tryz.zeroValue22
 t37 := Tryz.underlying178
 a37 := Tryz.isAgg178
 z37 := Tryz.sizeOf178
 v37 := Tryz.zeroValue178
 t70 := Tryz.underlying177
 a70 := Tryz.isAgg177
 z70 := Tryz.sizeOf177
 v70 := Tryz.zeroValue177
 t72 := Tryz.underlying180
 a72 := Tryz.isAgg180
 z72 := Tryz.sizeOf180
 v72 := Tryz.zeroValue180
 t75 := Tryz.underlying183
 a75 := Tryz.isAgg183
 z75 := Tryz.sizeOf183
 v75 := Tryz.zeroValue183
 t76 := Tryz.underlying184
 a76 := Tryz.isAgg184
 z76 := Tryz.sizeOf184
 v76 := Tryz.zeroValue184
 t127 := Tryz.underlying204
 a127 := Tryz.isAgg204
 z127 := Tryz.sizeOf204
 v127 := Tryz.zeroValue204
 t164 := Tryz.underlying218
 a164 := Tryz.isAgg218
 z164 := Tryz.sizeOf218
 v164 := Tryz.zeroValue218 }
theorem Tryz.Builder_Extra_156 : Builder.Extra Tryz.prog Tryz.lays156_ren := {
 sizeBuilder := by kernel_rfl
 liesBuilder := by kernel_rfl
 t5 := Tryz.underlying5
 a5 := Tryz.isAgg5
 z5 := Tryz.sizeOf5
 v5 := Tryz.zeroValue5
 infoByte := by kernel_rfl
 cellsByte := by kernel_rfl
 sizeByte := by kernel_rfl
 neB5 := by decide }
open Go.RowKit in
theorem Tryz.strings_Join_none (a : Option Addr) (c : Nat) (sep : ByteArray) (w : World) :
 Calls Tryz.prog 111 #[.slice a 0 c, .string sep] w fun e w' => e = .returned (.string ⟨#[]⟩) ∧ w' = w := Any.strings_Join_none Tryz.lays156 Tryz.Builder_Extra_156 a c sep w
open Go.RowKit in
theorem Tryz.strings_Join (bk o c : Nat) (xs : List ByteArray) (sep : ByteArray) (w : World) (hcells : ∀ (j : Nat) x, xs[j]? = some x → w.cell? ⟨bk, o + j, none⟩ = some (.string x)) (hbk : bk < w.heap.size) (hN : xs.length ≤ 140737488355328) (hcap : xs.length ≤ c) (hlen : (Lib.join (xs.map (·.data.toList)) sep.data.toList).length ≤ 140737488355328) :
 Calls Tryz.prog 111 #[.slice (some ⟨bk, o, none⟩) xs.length c, .string sep] w fun e w' => e = .returned (.string ⟨(Lib.join (xs.map (·.data.toList)) sep.data.toList).toArray⟩) ∧ Below w.heap.size w w' := Any.strings_Join Tryz.lays156 Tryz.Builder_Extra_156 bk o c xs sep w hcells hbk hN hcap hlen
end Go.Proofs
set_option maxHeartbeats 8000000
set_option maxRecDepth 100000
namespace Go.Proofs.YtgifeodnngodiaaGreatDoor
open Go.RowKit
theorem ZnT {J : World → Prop} (hJ : Stab J) (xs : List ByteArray) (s : ByteArray)  : Fn Tryz.prog J 109 [.rd (Zb xs), .str s] (.int (YM (isV s) xs)) := by
 refine Zx (N := 19) Tryz.func109 rfl rfl (lb rfl) fun S w0 hS hJ0 => ?_
 clear hJ0
 refine ln 0 fun hl1 => ?_
 refine qs tb hJ [0,1] [_] [_,_] ?_
 refine Zo (hqs tb hJ [0,1,1001,1002] [_,.int (xs.length : Nat),_] [1] [_,_,_,_] rfl ⟨YE Zw, trivial⟩ ?_)
 refine Zg (lp (ι := Nat) (fun k => (k ≤ xs.length) ∧ (∀ j, j < k → isV s (ge xs j) = false)) (fun k => [(8, .int (k : Nat))]) (fun k => xs.length - k) [0,1,2,3] [_,_,_] 0 ⟨Nat.zero_le _, fun j hj => by omega⟩ ?_)
 rintro k ⟨f1_1, f1_2⟩
 refine qs tb hJ [0,1,2,3,1000] [_] [_,_,_,_,_] ?_
 refine cjS 4 (fun hb1 => ?_) fun hb1 => ?_
 try simp at hb1
 refine Zf (nx (Zo (Zg (qs tb hJ [0,1,2,3,1001] [_,_] [_,_,_,_,_] ?_))))
 refine hqs tb hJ [0,1,2,3,4,1005] [_,_,_,.ptr [.lit (.string (ge xs k))],_,_] [3] [_,_,_,_,_,_] rfl ⟨iIx Zh, trivial⟩ ?_
 refine cj 5 (fun hb2 => ?_) fun hb2 => ?_
 try simp at hb2
 refine qs tb hJ [1001] [_,_] [_] ?_
 exact Zi (rtn (m := 0) rfl rfl (eI (by first | exact (YP hb1 (by simpa [isV] using hb2) f1_2).symm | exact (Yu fun j hj => f1_2 j (by omega)).symm)))
 try simp at hb2
 refine Zf (nx (hqp tb hJ [0,1,2,1001] [.int (k + 1 : Nat),_] [0] [_,_,_,_] rfl ⟨Yv, trivial⟩ ?_))
 exact lpE (k + 1) [0,1,2,3] ⟨by omega, Z2 f1_2 (by simpa [isV] using hb2)⟩
 try simp at hb1
 refine ZA (nx (qs tb hJ [1000] [_] [_] ?_))
 exact Zi (rtn (m := 0) rfl rfl (eI (by first | exact (YP hb1 (by simpa [isV] using hb2) f1_2).symm | exact (Yu fun j hj => f1_2 j (by omega)).symm)))
theorem Zjl {S : Nat → Prop} {w : World} {xs : List ByteArray} {v : Value} (h : Rd S w (Zb xs) v) : (xs = [] ∧ ∃ a c, v = .slice a 0 c) ∨ ∃ b off cap, v = .slice (some ⟨b, off, none⟩) xs.length cap ∧ xs.length ≤ cap ∧ b < w.heap.size ∧ ∀ (j : Nat) (x : ByteArray), xs[j]? = some x → w.cell? ⟨b, off + j, none⟩ = some (.string x) := by
 unfold Zb at h
 generalize hr : xs.map Xx = rows at h
 cases h with
 | nil a cap hm => exact .inl ⟨by simpa using hr, a, cap, rfl⟩
 | sl b off cap n rows vs hl hm hb hS hn hc hrd =>
  subst hr
  refine .inr ⟨b, off, cap, by rw [List.length_map], by simpa using hl, hb, fun j x hj => ?_⟩
  have hjl : j < xs.length := (List.getElem?_eq_some_iff.1 hj).1
  have hrow : (xs.map Xx)[j]? = some (Xx x) := by rw [List.getElem?_map, hj]; rfl
  have hn1 : n = 1 := (hn _ (List.mem_of_getElem? hrow)).symm
  subst hn1
  have h1 := hc j 0 (by simpa using hjl) (by omega)
  have h2 := (hrd j 0 _ _ hrow (show (Xx x)[0]? = some (.lit (.string x)) from rfl)).of_lit
  rw [h2] at h1
  simpa using h1
theorem p_Join {J : World → Prop} (hJ : Stab J) (xs : List ByteArray) (s : ByteArray) (hn : xs.length ≤ 140737488355328) (hl : (Lib.join (xs.map (·.data.toList)) s.data.toList).length ≤ 140737488355328) : Fn Tryz.prog J 111 [.rd (Zb xs), .str s] (.str (Zea xs s)) := by
 intro S w vs hS hJ0 h
 simp only [RelL] at h
 obtain ⟨u, _, rfl, h1, u2, _, rfl, h2, rfl⟩ := h
 rw [h2.lit]
 have hok : okLit (.string (Zea xs s)) := by
  show (Zea xs s).size ≤ maxLen
  simp only [Zea, ByteArray.size, List.size_toArray, maxLen]
  omega
 simp only [Rel] at h1
 rcases Zjl h1 with ⟨rfl, a, c, rfl⟩ | ⟨b, off, cap, rfl, hcap, hb, hc⟩
 · exact Calls.mono (Tryz.strings_Join_none a c s w) fun e w' ⟨he, hw⟩ => ⟨_, he, Rel.of_lit _ hok, hw ▸ Keeps.refl _ _, hw ▸ hJ0⟩
 · refine Calls.mono (Tryz.strings_Join b off cap xs s w hc hb hn hcap hl) fun e w' ⟨he, hw⟩ => ?_
   have hk : Keeps All w w' := ⟨hw.os, hw.tape, hw.output, hw.size, fun k hk _ => hw.block k hk⟩
   exact ⟨_, he, Rel.of_lit _ hok, hk, hJ _ _ hk hJ0⟩
theorem Zgc {J : World → Prop} (hJ : Stab J) (l : List ByteArray)  : Fn Tryz.prog J 72 [.rd (Zb l)] (.bool (ZdO l)) := by
 refine Zx (N := 12) Tryz.func72 rfl rfl (lb rfl) fun S w0 hS hJ0 => ?_
 clear hJ0
 refine ln 0 fun hl1 => ?_
 refine qs tb hJ [0] [_] [_] ?_
 refine hqs tb hJ [1009] [_,.int (l.length : Nat),_,_,_,.ptr [.lit (.string (ge l 0))],_,_,_,_] [1,5] [_] rfl ⟨YE Zw, gIx (k := 0) Zh (hk := fun (hc' : ((decide ((0 : Int) < (l.length : Int))) == true) = true) => by (try simp at hc'); first | omega | (simp; omega) | grind [Zc]), trivial⟩ ?_
 exact Zi (rtn (m := 0) rfl rfl (eB (by unfold ZdO; by_cases h9 : 0 < l.length <;> simp [h9])))
theorem ZnK {J : World → Prop} (hJ : Stab J) (s : ByteArray)  : Fn Tryz.prog J 110 [.str s] (.bool (!Zds s)) := by
 refine Zx (N := 6) Tryz.func110 rfl rfl (lb rfl) fun S w0 hS hJ0 => ?_
 clear hJ0
 refine qs tb hJ [0] [_] [_] ?_
 refine hqs tb hJ [1003] [_,.bool (Zds s),_,_] [1] [_] rfl ⟨iFn hS hJ (ZbO hJ (s := s) ) Zfm, trivial⟩ ?_
 exact Zi (rtn (m := 0) rfl rfl (eB (by first | rfl | grind [Zc])))
theorem ZqU {J : World → Prop} (hJ : Stab J) (l : List ByteArray) (h0 : ZdO l = true) (hn : l.length ≤ 100000) (hs : ZbG l ≤ 140737488355328) : FnP (ι := {q' : List ByteArray × ByteArray // Qh l = some q'}) (κ := {c : Int // Qh l = none ∧ c = 20}) Tryz.prog J 75 [] [.rd (Zb l)] [] (fun i' => .tup [.rd (Zb (i'.1.1)), .str (i'.1.2)]) (fun _ => []) (fun k' => flV k'.1) (fun _ => []) := by
 refine Qd (N := 24) Tryz.func75 rfl rfl (lb rfl) fun S w0 R hS hJ0 hH => ?_
 refine Ya (B := St All (SO S (R)) w0 24 [(0, .rd (Zb l))] (XO J S w0.heap.size (R))) ?_ fun a w h => h
 refine ln 0 fun hl1 => ?_
 refine qso tb hJ [0] [_,_] [_] ?_
 refine ZN tb hJ [0,1002] [_,.int (YM (isV (⟨#[41]⟩ : ByteArray)) l),_] [1] [_,_] rfl ⟨iFo hS hJ (ZnT hJ (xs := l) (s := (⟨#[41]⟩ : ByteArray)) ) Zpb, trivial⟩ ?_
 refine Zo (qso tb hJ [0,1,1001] [_,_] [_,_,_] ?_)
 refine cj 2 (fun hb1 => ?_) fun hb1 => ?_
 try simp at hb1
 refine Zz (XK (O := []) (R := (R)) (Qb hJ (c := (20 : Int)) ) Xh rfl rfl rfl (lb rfl) hS hJ0 Zt (fun a w h => (Za (Rel.of_lit (Go.Value.int Go.IntKind.i64 20)) Ze)) (fun _ => ?_) (fun i => i.elim))
 exact fun a w h => pnP (⟨20, ⟨ZnH hb1, rfl⟩⟩ : {c : Int // Qh l = none ∧ c = 20}) rfl a w h
 try simp at hb1
 have e1 : ¬ YM (isV ⟨#[41]⟩) l < 0 := by simpa using hb1
 have e2 := idx_in h0 e1
 refine Zf (nx (tw (sa 1 rfl (congrArg AV.int (show YM (isV (⟨#[41]⟩ : ByteArray)) l = (((YM (isV ⟨#[41]⟩) l).toNat : Nat) : Int) from by omega))) ?_))
 refine tsq ?_
 refine snK 2 tb rfl ?_
 refine sq (.rd (Zb ((l.take ((YM (isV ⟨#[41]⟩) l).toNat)).drop 1))) rfl rfl (lb rfl) (fun _ _ h => Za2 (ys := (l.take ((YM (isV ⟨#[41]⟩) l).toNat)).drop 1) (lo := 1) (hi := (YM (isV ⟨#[41]⟩) l).toNat) rfl Zh (fun _ => rfl) rfl (h.get 1 rfl) (Rel.of_lit (Go.Value.int Go.IntKind.i64 1)) (h.get 0 rfl) (by first | omega | (simp; omega) | grind [Zc]) (by first | omega | (simp; omega) | grind [Zc]) h.x) ?_
 refine Xr (O := []) (R := (R)) (Ziq hJ (xs := ((l.take ((YM (isV ⟨#[41]⟩) l).toNat)).drop 1)) (by first | omega | (simp; omega) | grind [Zc])) ZmJ rfl rfl rfl (lb rfl) hS hJ0 Zt (fun a w h => (Za (h.get 0 rfl) Ze)) fun z3 => ?_
 refine snK 1 tb rfl ?_
 refine seK [0,2,5,6] [_,_,_,_] rfl ?_
 refine nx (ln 1 fun hl2 => ?_)
 refine Zo (ZpY tb hJ [0,2,3,1001] [_,.bool (((l.take ((YM (isV ⟨#[41]⟩) l).toNat)).drop 1).any (fun s => !Zds s))] [1] [_,_,_,_] rfl ⟨fun _ _ hk hx hl _ => YV (YC hJ (xs := ((l.take ((YM (isV ⟨#[41]⟩) l).toNat)).drop 1)) (f := 110) (caps := []) (Os := []) (p := (fun s => !Zds s)) (fun q' => (ZnK hJ q').r) (Zpa)) Zbv rfl (nm hS hk) (hx.1) Zt (Za (QG hS hx (mo 0 rfl) (hl.D 0 15 rfl rfl)) (Za (QF 110) Ze)) (jo hJ hx), trivial⟩ ?_)
 refine cj 3 (fun hb2 => ?_) fun hb2 => ?_
 try simp at hb2
 refine Zz (XK (O := []) (R := (OB.row z3 9 1 (((l.take ((YM (isV ⟨#[41]⟩) l).toNat)).drop 1).map Xx) :: R)) (Qb hJ (c := (20 : Int)) ) Xh rfl rfl rfl (lb rfl) hS hJ0 Zt (fun a w h => (Za (Rel.of_lit (Go.Value.int Go.IntKind.i64 20)) Ze)) (fun _ => ?_) (fun i => i.elim))
 refine kw ZB ?_
 exact fun a w h => pnP (⟨20, ⟨Zle e1 (by simpa using hb2), rfl⟩⟩ : {c : Int // Qh l = none ∧ c = 20}) rfl a w h
 try simp at hb2
 refine Zf (nx (tw (sa 2 rfl (congrArg AV.int (show (((YM (isV ⟨#[41]⟩) l).toNat : Nat) : Int) = (((YM (isV ⟨#[41]⟩) l).toNat : Nat) : Int) from by omega))) ?_))
 refine ZN tb hJ [1004,1006,1007] [_,_,_,.int ((YM (isV ⟨#[41]⟩) l).toNat + 1 : Nat),.rd (Zb (l.drop ((YM (isV ⟨#[41]⟩) l).toNat + 1))),.str (Zea (l.drop ((YM (isV ⟨#[41]⟩) l).toNat + 1)) (⟨#[]⟩ : ByteArray)),_,_] [3,4,5] [_,_,_] rfl ⟨Yv, fun _ _ _ hx hl _ => Za2 (ys := l.drop ((YM (isV ⟨#[41]⟩) l).toNat + 1)) (lo := (YM (isV ⟨#[41]⟩) l).toNat + 1) (hi := l.length) (by rw [List.take_length]) Zh (fun _ => rfl) rfl (hl.D 1 19 rfl rfl) (hl.D 3 21 rfl rfl) rfl (by first | omega | (simp; omega) | grind [Zc]) (by first | omega | (simp; omega) | grind [Zc]) hx, iFo hS hJ (p_Join hJ (xs := (l.drop ((YM (isV ⟨#[41]⟩) l).toNat + 1))) (s := (⟨#[]⟩ : ByteArray)) (by simp; omega) (by exact Nat.le_trans (Zgs l _) hs)) Zo9, trivial⟩ ?_
 refine ln 0 fun hl3 => ?_
 refine tw (fun h => YB hS h (m := 1) (s := 2) rfl) ?_
 exact Zi (fun a w h => lvP (Zrq  (m := 0) (k := 2) ⟨((l.take (YM (isV ⟨#[41]⟩) l).toNat).drop 1, Zea (l.drop ((YM (isV ⟨#[41]⟩) l).toNat + 1)) ⟨#[]⟩), ZnG e1 (by simpa using hb2)⟩ rfl h rfl rfl (tup2 (congrArg (fun z => AV.rd (Zb z)) (show ((l.take ((YM (isV ⟨#[41]⟩) l).toNat)).drop 1) = ((l.take (YM (isV ⟨#[41]⟩) l).toNat).drop 1) from by first | rfl | grind [Zc])) (eS (by first | rfl | grind [Zc])))))
theorem ZeJ : ZdZ Tryz.prog 126 [.int .i64 0, .bool false] := ⟨fun i => (#[(0, 1), (1, 1)] : Array (Nat × Nat))[i]?, fun j hj => by rcases j with _ | _ | j <;> first | rfl | (simp at hj; omega), fun parts => by kernel_rfl⟩
theorem ZjC {J : World → Prop} (hJ : Stab J) (s : ByteArray) (hs : s.size ≤ 1000000000) : SeqE Tryz.prog J 112 [] [.ptr [.lit (.string s)]] ZsK ((YI s).1) (if (YI s).2 then some (flV 21) else none) := by
 refine ZgB (N := 86) Tryz.func112 rfl rfl (lb rfl) fun S w0 R l κ μ σ I pv O3 O4 k0 hS hJ0 hH hY => ?_
 refine Ya (B := St All (SO S (I ([]) k0 ++ R)) w0 86 [(0, .rd (.lit (.func (.yield l) #[] #[]))), (1, .ptr [.lit (.string s)])] (XO J S w0.heap.size (I ([]) k0 ++ R))) ?_ fun a w h => h
 refine qso tb hJ [0,1,1000,1001] [_,_] [_,_,_,_] ?_
 refine Zo (qso tb hJ [0,1,2,3,1000] [_] [_,_,_,_,_] ?_)
 refine Zg (lpo (ι := Nat × Int × Bool × (List Lt) × κ) (fun (p, m, ins, pre, _) => (p ≤ s.size) ∧ (0 ≤ m ∧ m ≤ 1000000) ∧ (YI s = (pre ++ (lettersD (s.data.toList.drop p) m ins).1, (lettersD (s.data.toList.drop p) m ins).2))) (fun (_, _, _, pre, kk) => (I pre kk ++ R)) (fun (p, m, ins, _, _) => [(5, .int (p : Nat)), (3, .int m), (4, .bool ins)]) (fun (p, _, _, _, _) => s.size - p) [0,1,4,2,3] [_,_] (0, 0, false, [], k0) ⟨Nat.zero_le _, ⟨by omega, by omega⟩, rfl⟩ ?_)
 rintro ⟨p, m, ins, pre, kk⟩ ⟨f1_1, f1_2, f1_3⟩
 refine Zo (ZN tb hJ [0,1,2,3,4,1003] [_,_,.int (s.size : Nat),_] [2] [_,_,_,_,_,_] rfl ⟨iLeS YX, trivial⟩ ?_)
 refine cj 5 (fun hb1 => ?_) fun hb1 => ?_
 try simp at hb1
 have e1 : p < s.data.toList.length := hb1
 refine Zf (nx (Zo (Zg (ZN tb hJ [0,1,2,3,4,1003] [_,_,.rd (.lit (.int .u8 ((ge s.data.toList p).toNat : Int))),_] [2] [_,_,_,_,_,_] rfl ⟨fun _ _ _ hx hl _ => Zk2 (i := (p : Int)) YX rfl (hl.D 0 14 rfl rfl) (hl.D 1 15 rfl rfl) (Int.natCast_nonneg _) (Zfp (s := s) (k := p) (by first | omega | (simp; omega) | grind [Zc])) hx, trivial⟩ ?_))))
 refine Zg (qso tb hJ [0,1,2,3,4,5,1006] [_,_,_,_,_,_,_] [_,_,_,_,_,_,_] ?_)
 refine cj 6 (fun hb2 => ?_) fun hb2 => ?_
 try simp at hb2
 have e2 : 85 ≤ (ge s.data.toList p).toNat ∧ (ge s.data.toList p).toNat ≤ 89 := by omega
 refine Zo (ZN tb hJ [0,1,2,1007] [_,.int ((5 : Int) * m),_,.rd (.lit (.int .u8 (((ge s.data.toList p).toNat : Int) - (85 : Int)))),.int (((ge s.data.toList p).toNat : Int) - (85 : Int)),.int ((5 : Int) * m + (((ge s.data.toList p).toNat : Int) - (85 : Int))),.int ((5 : Int) * m + (((ge s.data.toList p).toNat : Int) - (85 : Int)) + (1 : Int)),_] [1,3,4,5,6] [_,_,_,_] rfl ⟨fun _ _ _ hx hl _ => r_mul (i := (5 : Int)) (j := m) rfl (Rel.of_lit (Go.Value.int Go.IntKind.i64 5)) (hl.D 0 25 rfl rfl) (by first | omega | (simp; omega) | grind [Zc]) (by first | omega | (simp; omega) | grind [Zc]) hx, fun _ _ _ hx hl _ => ZpH (i := ((ge s.data.toList p).toNat : Int)) (j := (85 : Int)) rfl (hl.D 2 27 rfl rfl) (Rel.of_lit (Go.Value.int Go.IntKind.u8 85)) (by first | omega | (simp; omega) | grind [Zc]) (by first | omega | (simp; omega) | grind [Zc]) hx, fun _ _ _ hx hl _ => Zij (i := ((ge s.data.toList p).toNat : Int) - (85 : Int)) ZbC X2 rfl (hl.D 3 28 rfl rfl) (by first | omega | (simp; omega) | grind [Zc]) (by first | omega | (simp; omega) | grind [Zc]) hx, Yv, Yv, trivial⟩ ?_)
 refine qso tb hJ [0,1,2,3,1001] [_,_] [_,_,_,_,_] ?_
 refine cj 4 (fun hb3 => ?_) fun hb3 => ?_
 try simp at hb3
 have e7 := let_U (n := m) (ins := ins) e1 e2
 rw [if_pos (by omega)] at e7
 refine Zz (XK (O := []) (R := (I pre kk ++ R)) (Qb hJ (c := (21 : Int)) ) Xh rfl rfl rfl (lb rfl) hS hJ0 Zt (fun a w h => (Za (Rel.of_lit (Go.Value.int Go.IntKind.i64 21)) Ze)) (fun _ => ?_) (fun i => i.elim))
 exact ZiH (by rw [f1_3, e7]; rfl) (by rw [f1_3, e7]; simp) kk
 try simp at hb3
 have e7 := let_U (n := m) (ins := ins) e1 e2
 rw [if_neg (by omega)] at e7
 refine Zf (nx (qpo tb hJ [0,1,2,3,1000] [_] [_,_,_,_,_] ?_))
 refine nx (YW tb hJ [0,1,3,4,1002] [_,.int (p + 1 : Nat),_] [1] [_,_,_,_,_] rfl ⟨Yv, trivial⟩ ?_)
 exact Xp (p + 1, (5 : Int) * m + (((ge s.data.toList p).toNat : Int) - (85 : Int)) + (1 : Int), true, pre, kk) [0,1,4,2,3] ⟨by omega, ⟨by omega, by omega⟩, by rw [f1_3, e7]⟩
 try simp at hb2
 have e2 : ¬ (85 ≤ (ge s.data.toList p).toNat ∧ (ge s.data.toList p).toNat ≤ 89) := by omega
 refine qso tb hJ [0,1,2,3,4,5,1006] [_,_,_,_,_,_,_] [_,_,_,_,_,_,_] ?_
 refine cj 6 (fun hb4 => ?_) fun hb4 => ?_
 try simp at hb4
 have e4 : 65 ≤ (ge s.data.toList p).toNat ∧ (ge s.data.toList p).toNat ≤ 84 := by omega
 refine Zo (ZN tb hJ [0,1,2,1007] [_,.int ((20 : Int) * m),_,.rd (.lit (.int .u8 (((ge s.data.toList p).toNat : Int) - (65 : Int)))),.int (((ge s.data.toList p).toNat : Int) - (65 : Int)),.int ((20 : Int) * m + (((ge s.data.toList p).toNat : Int) - (65 : Int))),.int ((20 : Int) * m + (((ge s.data.toList p).toNat : Int) - (65 : Int)) + (1 : Int)),_] [1,3,4,5,6] [_,_,_,_] rfl ⟨fun _ _ _ hx hl _ => r_mul (i := (20 : Int)) (j := m) rfl (Rel.of_lit (Go.Value.int Go.IntKind.i64 20)) (hl.D 0 42 rfl rfl) (by first | omega | (simp; omega) | grind [Zc]) (by first | omega | (simp; omega) | grind [Zc]) hx, fun _ _ _ hx hl _ => ZpH (i := ((ge s.data.toList p).toNat : Int)) (j := (65 : Int)) rfl (hl.D 2 44 rfl rfl) (Rel.of_lit (Go.Value.int Go.IntKind.u8 65)) (by first | omega | (simp; omega) | grind [Zc]) (by first | omega | (simp; omega) | grind [Zc]) hx, fun _ _ _ hx hl _ => Zij (i := ((ge s.data.toList p).toNat : Int) - (65 : Int)) ZbC X2 rfl (hl.D 3 45 rfl rfl) (by first | omega | (simp; omega) | grind [Zc]) (by first | omega | (simp; omega) | grind [Zc]) hx, Yv, Yv, trivial⟩ ?_)
 refine qso tb hJ [0,1,2,3,1001] [_,_] [_,_,_,_,_] ?_
 refine cj 4 (fun hb5 => ?_) fun hb5 => ?_
 try simp at hb5
 have e7 := Zro (n := m) (ins := ins) e1 e2 e4 (by omega)
 refine Zz (XK (O := []) (R := (I pre kk ++ R)) (Qb hJ (c := (21 : Int)) ) Xh rfl rfl rfl (lb rfl) hS hJ0 Zt (fun a w h => (Za (Rel.of_lit (Go.Value.int Go.IntKind.i64 21)) Ze)) (fun _ => ?_) (fun i => i.elim))
 exact ZiH (by rw [f1_3, e7]; rfl) (by rw [f1_3, e7]; simp) kk
 try simp at hb5
 refine Zf (nx (tsq ?_))
 refine snK 1 tb rfl ?_
 refine sq (.agg (ltC (⟨(20 : Int) * m + (((ge s.data.toList p).toNat : Int) - (65 : Int)) + (1 : Int), false⟩ : Lt))) rfl rfl (lb rfl) (fun a _ h => YD (ps := [(0, a.eval (Go.Operand.tmp 52))]) (us := [a.eval (Go.Operand.tmp 52), .bool false]) ZeJ rfl (by simp) (Zec (lb rfl) (Rel.oneC (h.get 0 rfl)) ZfG) rfl (Zk (h.get 0 rfl) (YL (.lit _ True.intro) ZK)) h.x) ?_
 refine ZW Zg8 hJ rfl rfl rfl (lb rfl) fun b5 => ?_
 refine ZE (b := b5) (off := 0) (cs := [.lit (.int .i64 0), .lit (.bool false)]) (es := [.lit (.int .i64 ((⟨(20 : Int) * m + (((ge s.data.toList p).toNat : Int) - (65 : Int)) + (1 : Int), false⟩ : Lt).number)), .lit (.bool ((⟨(20 : Int) * m + (((ge s.data.toList p).toNat : Int) - (65 : Int)) + (1 : Int), false⟩ : Lt).tagged))]) (news := [.lit (.int .i64 ((⟨(20 : Int) * m + (((ge s.data.toList p).toNat : Int) - (65 : Int)) + (1 : Int), false⟩ : Lt).number)), .lit (.bool ((⟨(20 : Int) * m + (((ge s.data.toList p).toNat : Int) - (65 : Int)) + (1 : Int), false⟩ : Lt).tagged))]) hJ hJ0 Zjq rfl rfl rfl (lb rfl) rfl (fun a w h => ⟨(h.get 0 rfl), (h.get 1 rfl)⟩) ?_
 refine seK [0,3,4,5] [_,_,_,_] rfl ?_
 refine nx (Zo (ZN tb hJ [0,1,2,3,1011] [_,.int (p + 1 : Nat),_,.int (s.size : Nat),_,_,_,_,.int (p + 1 : Nat),.rd (.lit (.int .u8 ((ge s.data.toList (p + 1)).toNat : Int))),_,_] [1,3,8,9] [_,_,_,_,_] rfl ⟨Yv, iLeS YX, fun _ _ _ hx hl hc => Zf6 (i := (p : Int)) (j := (1 : Int)) rfl (hl.D 7 61 rfl hc) (Rel.of_lit (Go.Value.int Go.IntKind.i64 1)) (by have hc' : ((decide (((p + 1 : Nat) : Int) < (s.size : Int))) == true) = true := hc; (try simp at hc'); (first | omega | (simp; omega) | grind [Zc])) (by have hc' : ((decide (((p + 1 : Nat) : Int) < (s.size : Int))) == true) = true := hc; (try simp at hc'); (first | omega | (simp; omega) | grind [Zc])) hx, fun _ _ _ hx hl hc => Zk2 (i := ((p + 1 : Nat) : Int)) YX rfl (hl.D 6 60 rfl hc) (hl.D 8 62 rfl hc) (Int.natCast_nonneg _) (Zfp (s := s) (k := p + 1) (by have hc' : ((decide (((p + 1 : Nat) : Int) < (s.size : Int))) == true) = true := hc; (try simp at hc'); (first | omega | (simp; omega) | grind [Zc]))) hx, trivial⟩ ?_))
 refine cj 4 (fun hb6 => ?_) fun hb6 => ?_
 try simp at hb6
 have e0 : s.data.toList.length = s.size := rfl
 have e6 : p + 1 < s.data.toList.length ∧ (ge s.data.toList (p + 1)).toNat = 90 := ⟨by omega, by omega⟩
 have e7 := let_Z (n := m) (ins := ins) e1 e2 e4 (by omega) e6.1 e6.2
 refine tsq ?_
 refine sq (.at b5 1) rfl rfl (lb rfl) (fun _ _ h => Zn ZhC rfl (h.get 0 rfl) h.x) ?_
 refine ZI (b := b5) (off := 1) (cs := [.lit (.int .i64 ((⟨(20 : Int) * m + (((ge s.data.toList p).toNat : Int) - (65 : Int)) + (1 : Int), false⟩ : Lt).number)), .lit (.bool ((⟨(20 : Int) * m + (((ge s.data.toList p).toNat : Int) - (65 : Int)) + (1 : Int), false⟩ : Lt).tagged))]) (es := [.lit (.int .i64 ((⟨(20 : Int) * m + (((ge s.data.toList p).toNat : Int) - (65 : Int)) + (1 : Int), false⟩ : Lt).number)), .lit (.bool true)]) hJ hJ0 QD rfl rfl rfl (lb rfl) rfl (fun a w h => ⟨(h.get 0 rfl), (Rel.of_lit (Go.Value.bool true))⟩) ?_
 refine seK [1,2,3,4] [_,_,_,_] rfl ?_
 refine nx (YW tb hJ [0,1,2,1002] [_,.int (p + 1 : Nat),_] [1] [_,_,_,_] rfl ⟨Yv, trivial⟩ ?_)
 refine nx (qso tb hJ [0,1,2,3,1000,1001] [_,_] [_,_,_,_,_,_] ?_)
 refine tsq ?_
 refine snK 1 tb rfl ?_
 refine sq (.agg [.lit (.int .i64 ((⟨(20 : Int) * m + (((ge s.data.toList p).toNat : Int) - (65 : Int)) + (1 : Int), false⟩ : Lt).number)), .lit (.bool true)]) rfl rfl (lb rfl) (fun _ _ h => Yd (cs := [.lit (.int .i64 ((⟨(20 : Int) * m + (((ge s.data.toList p).toNat : Int) - (65 : Int)) + (1 : Int), false⟩ : Lt).number)), .lit (.bool true)]) (ds := [.lit (.int .i64 ((⟨(20 : Int) * m + (((ge s.data.toList p).toNat : Int) - (65 : Int)) + (1 : Int), false⟩ : Lt).number)), .lit (.bool true)]) Zg1 rfl (Zd h.x (mo 0 rfl)) (h.get 1 rfl) rfl rfl h.x) ?_
 refine kw (ZkF [OB.var b5 [.lit (.int .i64 ((⟨(20 : Int) * m + (((ge s.data.toList p).toNat : Int) - (65 : Int)) + (1 : Int), false⟩ : Lt).number)), .lit (.bool true)]]) ?_
 refine ZcF (O := I pre kk) (R := ([OB.var b5 [.lit (.int .i64 ((⟨(20 : Int) * m + (((ge s.data.toList p).toNat : Int) - (65 : Int)) + (1 : Int), false⟩ : Lt).number)), .lit (.bool true)]] ++ R)) (v := ZsK (⟨(⟨(20 : Int) * m + (((ge s.data.toList p).toNat : Int) - (65 : Int)) + (1 : Int), false⟩ : Lt).number, true⟩ : Lt)) rfl rfl rfl rfl (lb rfl) (fun a w h => (h.get 1 rfl).lit) (fun a w h => ZkV (x := (⟨(⟨(20 : Int) * m + (((ge s.data.toList p).toNat : Int) - (65 : Int)) + (1 : Int), false⟩ : Lt).number, true⟩ : Lt)) (h.get 0 rfl)) (fun m' R' w1 hk hx => hY m' R' pre (⟨(⟨(20 : Int) * m + (((ge s.data.toList p).toNat : Int) - (65 : Int)) + (1 : Int), false⟩ : Lt).number, true⟩ : Lt) kk w1 (by rw [f1_3, e7]; exact pfx) hk hx) (fun q => ZlX [OB.var b5 [.lit (.int .i64 ((⟨(20 : Int) * m + (((ge s.data.toList p).toNat : Int) - (65 : Int)) + (1 : Int), false⟩ : Lt).number)), .lit (.bool true)]] q) (fun s6 => ?_) (fun z7 => ?_)
 refine kw (Zc4 [OB.var b5 [.lit (.int .i64 ((⟨(20 : Int) * m + (((ge s.data.toList p).toNat : Int) - (65 : Int)) + (1 : Int), false⟩ : Lt).number)), .lit (.bool true)]]) ?_
 refine snK 1 tb rfl ?_
 refine seK [0,5,6,7,8,9] [_,_,_,_,_,_] rfl ?_
 refine nx (cj 0 (fun hb7 => ?_) fun hb7 => ?_)
 try simp at hb7
 refine tw ZB ?_
 exact Zi (fun a w h => ZiG s6 rfl h)
 exact False.elim (by simp at hb7)
 refine kw (Zc4 [OB.var b5 [.lit (.int .i64 ((⟨(20 : Int) * m + (((ge s.data.toList p).toNat : Int) - (65 : Int)) + (1 : Int), false⟩ : Lt).number)), .lit (.bool true)]]) ?_
 refine snK 1 tb rfl ?_
 refine seK [0,5,6,7,8,9] [_,_,_,_,_,_] rfl ?_
 refine nx (cj 0 (fun hb7 => ?_) fun hb7 => ?_)
 exact False.elim (by simp at hb7)
 try simp at hb7
 refine Zf (nx (YW tb hJ [1,2,4,5,1002] [_,.int (p + 1 + 1 : Nat),_] [1] [_,_,_,_,_] rfl ⟨Yv, trivial⟩ ?_))
 refine kw ZB ?_
 exact Xp (p + 1 + 1, 0, false, (pre ++ [(⟨(⟨(20 : Int) * m + (((ge s.data.toList p).toNat : Int) - (65 : Int)) + (1 : Int), false⟩ : Lt).number, true⟩ : Lt)]), z7) [0,1,4,2,3] ⟨by omega, ⟨by omega, by omega⟩, by rw [f1_3, e7]; simp⟩
 try simp at hb6
 have e0 : s.data.toList.length = s.size := rfl
 have e6 : ¬ (p + 1 < s.data.toList.length ∧ (ge s.data.toList (p + 1)).toNat = 90) := by omega
 have e7 := let_N (n := m) (ins := ins) e1 e2 e4 (by omega) e6
 refine Zf (nx (qso tb hJ [0,1,2,3,1000,1001] [_,_] [_,_,_,_,_,_] ?_))
 refine tsq ?_
 refine snK 1 tb rfl ?_
 refine sq (.agg (ltC (⟨(20 : Int) * m + (((ge s.data.toList p).toNat : Int) - (65 : Int)) + (1 : Int), false⟩ : Lt))) rfl rfl (lb rfl) (fun _ _ h => Yd (cs := [.lit (.int .i64 ((⟨(20 : Int) * m + (((ge s.data.toList p).toNat : Int) - (65 : Int)) + (1 : Int), false⟩ : Lt).number)), .lit (.bool ((⟨(20 : Int) * m + (((ge s.data.toList p).toNat : Int) - (65 : Int)) + (1 : Int), false⟩ : Lt).tagged))]) (ds := [.lit (.int .i64 ((⟨(20 : Int) * m + (((ge s.data.toList p).toNat : Int) - (65 : Int)) + (1 : Int), false⟩ : Lt).number)), .lit (.bool ((⟨(20 : Int) * m + (((ge s.data.toList p).toNat : Int) - (65 : Int)) + (1 : Int), false⟩ : Lt).tagged))]) Zg1 rfl (Zd h.x (mo 0 rfl)) (h.get 1 rfl) rfl rfl h.x) ?_
 refine kw (ZkF [OB.var b5 [.lit (.int .i64 ((⟨(20 : Int) * m + (((ge s.data.toList p).toNat : Int) - (65 : Int)) + (1 : Int), false⟩ : Lt).number)), .lit (.bool ((⟨(20 : Int) * m + (((ge s.data.toList p).toNat : Int) - (65 : Int)) + (1 : Int), false⟩ : Lt).tagged))]]) ?_
 refine ZcF (O := I pre kk) (R := ([OB.var b5 [.lit (.int .i64 ((⟨(20 : Int) * m + (((ge s.data.toList p).toNat : Int) - (65 : Int)) + (1 : Int), false⟩ : Lt).number)), .lit (.bool ((⟨(20 : Int) * m + (((ge s.data.toList p).toNat : Int) - (65 : Int)) + (1 : Int), false⟩ : Lt).tagged))]] ++ R)) (v := ZsK (⟨(20 : Int) * m + (((ge s.data.toList p).toNat : Int) - (65 : Int)) + (1 : Int), false⟩ : Lt)) rfl rfl rfl rfl (lb rfl) (fun a w h => (h.get 1 rfl).lit) (fun a w h => ZkV (x := (⟨(20 : Int) * m + (((ge s.data.toList p).toNat : Int) - (65 : Int)) + (1 : Int), false⟩ : Lt)) (h.get 0 rfl)) (fun m' R' w1 hk hx => hY m' R' pre (⟨(20 : Int) * m + (((ge s.data.toList p).toNat : Int) - (65 : Int)) + (1 : Int), false⟩ : Lt) kk w1 (by rw [f1_3, e7]; exact pfx) hk hx) (fun q => ZlX [OB.var b5 [.lit (.int .i64 ((⟨(20 : Int) * m + (((ge s.data.toList p).toNat : Int) - (65 : Int)) + (1 : Int), false⟩ : Lt).number)), .lit (.bool ((⟨(20 : Int) * m + (((ge s.data.toList p).toNat : Int) - (65 : Int)) + (1 : Int), false⟩ : Lt).tagged))]] q) (fun s8 => ?_) (fun z9 => ?_)
 refine kw (Zc4 [OB.var b5 [.lit (.int .i64 ((⟨(20 : Int) * m + (((ge s.data.toList p).toNat : Int) - (65 : Int)) + (1 : Int), false⟩ : Lt).number)), .lit (.bool ((⟨(20 : Int) * m + (((ge s.data.toList p).toNat : Int) - (65 : Int)) + (1 : Int), false⟩ : Lt).tagged))]]) ?_
 refine snK 1 tb rfl ?_
 refine seK [0,5,6,7,8,9] [_,_,_,_,_,_] rfl ?_
 refine nx (cj 0 (fun hb7 => ?_) fun hb7 => ?_)
 try simp at hb7
 refine tw ZB ?_
 exact Zi (fun a w h => ZiG s8 rfl h)
 exact False.elim (by simp at hb7)
 refine kw (Zc4 [OB.var b5 [.lit (.int .i64 ((⟨(20 : Int) * m + (((ge s.data.toList p).toNat : Int) - (65 : Int)) + (1 : Int), false⟩ : Lt).number)), .lit (.bool ((⟨(20 : Int) * m + (((ge s.data.toList p).toNat : Int) - (65 : Int)) + (1 : Int), false⟩ : Lt).tagged))]]) ?_
 refine snK 1 tb rfl ?_
 refine seK [0,5,6,7,8,9] [_,_,_,_,_,_] rfl ?_
 refine nx (cj 0 (fun hb7 => ?_) fun hb7 => ?_)
 exact False.elim (by simp at hb7)
 try simp at hb7
 refine Zf (nx (YW tb hJ [1,2,4,5,1002] [_,.int (p + 1 : Nat),_] [1] [_,_,_,_,_] rfl ⟨Yv, trivial⟩ ?_))
 refine kw ZB ?_
 exact Xp (p + 1, 0, false, (pre ++ [(⟨(20 : Int) * m + (((ge s.data.toList p).toNat : Int) - (65 : Int)) + (1 : Int), false⟩ : Lt)]), z9) [0,1,4,2,3] ⟨by omega, ⟨by omega, by omega⟩, by rw [f1_3, e7]; simp⟩
 try simp at hb4
 have e4 : ¬ (65 ≤ (ge s.data.toList p).toNat ∧ (ge s.data.toList p).toNat ≤ 84) := by omega
 refine qso tb hJ [0,1,2,3,4,1006] [_,_,_,_,_,_,_] [_,_,_,_,_,_] ?_
 refine cj 5 (fun hb8 => ?_) fun hb8 => ?_
 try simp at hb8
 have e7 := let_Q (n := m) e1 e2 e4 (by omega) hb8.2
 refine tsq ?_
 refine snK 1 tb rfl ?_
 refine sq (.agg (ltC (⟨0, false⟩ : Lt))) rfl rfl (lb rfl) (fun _ _ h => YD (ps := []) (us := [.int .i64 0, .bool false]) ZeJ rfl (by simp) ZfG rfl (YL (.lit _ True.intro) (YL (.lit _ True.intro) ZK)) h.x) ?_
 refine ZcF (O := I pre kk) (R := R) (v := ZsK (⟨0, false⟩ : Lt)) rfl rfl rfl rfl (lb rfl) (fun a w h => (h.get 1 rfl).lit) (fun a w h => ZkV (x := (⟨0, false⟩ : Lt)) (h.get 0 rfl)) (fun m' R' w1 hk hx => hY m' R' pre (⟨0, false⟩ : Lt) kk w1 (by rw [f1_3, e7]; exact pfx) hk hx) (fun q => itPan q) (fun s10 => ?_) (fun z11 => ?_)
 refine snK 1 tb rfl ?_
 refine seK [0,4,5,6,7,8] [_,_,_,_,_,_] rfl ?_
 refine nx (cj 0 (fun hb9 => ?_) fun hb9 => ?_)
 try simp at hb9
 exact Zi (fun a w h => ZiG s10 rfl h)
 exact False.elim (by simp at hb9)
 refine snK 1 tb rfl ?_
 refine seK [0,4,5,6,7,8] [_,_,_,_,_,_] rfl ?_
 refine nx (cj 0 (fun hb9 => ?_) fun hb9 => ?_)
 exact False.elim (by simp at hb9)
 try simp at hb9
 refine Zf (nx (YW tb hJ [1,2,4,5,1002] [_,.int (p + 1 : Nat),_] [1] [_,_,_,_,_] rfl ⟨Yv, trivial⟩ ?_))
 exact Xp (p + 1, m, ins, (pre ++ [(⟨0, false⟩ : Lt)]), z11) [0,1,4,2,3] ⟨by omega, ⟨by omega, by omega⟩, by rw [f1_3, e7]; simp⟩
 try simp at hb8
 have e7 := Zrp (n := m) (ins := ins) e1 e2 e4 (by grind)
 refine Zz (XK (O := []) (R := (I pre kk ++ R)) (Qb hJ (c := (21 : Int)) ) Xh rfl rfl rfl (lb rfl) hS hJ0 Zt (fun a w h => (Za (Rel.of_lit (Go.Value.int Go.IntKind.i64 21)) Ze)) (fun _ => ?_) (fun i => i.elim))
 exact ZiH (by rw [f1_3, e7]; rfl) (by rw [f1_3, e7]; simp) kk
 try simp at hb1
 have e1 : ¬ p < s.data.toList.length := by have h9 : s.size = s.data.toList.length := rfl; omega
 refine ZA (nx (qso tb hJ [1000] [_] [_] ?_))
 refine cj 0 (fun hb10 => ?_) fun hb10 => ?_
 try simp at hb10
 have e7 := ZlL (n := m) (ins := ins) e1
 refine Zz (XK (O := []) (R := (I pre kk ++ R)) (Qb hJ (c := (21 : Int)) ) Xh rfl rfl rfl (lb rfl) hS hJ0 Zt (fun a w h => (Za (Rel.of_lit (Go.Value.int Go.IntKind.i64 21)) Ze)) (fun _ => ?_) (fun i => i.elim))
 exact ZiH (by rw [f1_3, e7, hb10]; rfl) (by rw [f1_3, e7]; simp) kk
 try simp at hb10
 have e7 := ZlL (n := m) (ins := ins) e1
 exact Zf (fun a w h => ZpW (by rw [f1_3, e7, hb10]; rfl) (by rw [f1_3, e7]; simp) kk rfl h)
theorem Zlm {J : World → Prop} (hJ : Stab J) (s : ByteArray)  : Fn Tryz.prog J 79 [.str s] (.fn 112 [.ptr [.lit (.string s)]]) := by
 refine Zx (N := 4) Tryz.func79 rfl rfl (lb rfl) fun S w0 hS hJ0 => ?_
 clear hJ0
 refine hqs tb hJ [1000] [.ptr [.lit (.string s)],_] [0] [_] rfl ⟨fun _ _ hk hx hl _ => ZaG rfl (hl.env 0 0 _ rfl rfl) (hS _ hk.size) (js hJ hx), trivial⟩ ?_
 refine hqs tb hJ [1001] [.fn 112 [.ptr [.lit (.string s)]],_] [0] [_] rfl ⟨fun _ _ _ hx hl _ => Y6 (caps := [(Go.Operand.tmp 1)]) rfl (Za (hl.env 0 1 _ rfl rfl) Ze) hx, trivial⟩ ?_
 exact Zi (rtn (m := 0) rfl rfl rfl)
theorem ZnJ {J : World → Prop} (hJ : Stab J) (h : Hy) (s : ByteArray)  : Fn Tryz.prog J 77 [.agg (hyC h), .ptr [.lit (.string s)]] (.bool (decide (h.label = s))) := by
 refine Zx (N := 8) Tryz.func77 rfl rfl (lb rfl) fun S w0 hS hJ0 => ?_
 clear hJ0
 refine hqs tb hJ [1,1000] [.ptr (hyC h),_] [0] [_,_] rfl ⟨fun _ _ hk hx hl _ => Y1 rfl (hl.env 0 0 _ rfl rfl) (hS _ hk.size) (js hJ hx), trivial⟩ ?_
 refine qs tb hJ [1004] [_,_,_,_,_] [_] ?_
 exact Zi (rtn (m := 0) rfl rfl rfl)
theorem ZqS {J : World → Prop} (hJ : Stab J) (b : Nat) (d : Db) (f : Fr) (M : Nat) (vi : Value) (vs : Value) (vt : Value) (n : Nat) (kn : Bool) (y1 : Int) (y2 : Int) (s : ByteArray)  : FnR Tryz.prog J 76 [OB.var b (mkR d f M vi vs vt n kn y1 y2)] [.str s, .ptr [.lit (.pointer (some ⟨b, 0, none⟩))]] (.bool (f.hyps.any fun h => decide (h.label = s))) := by
 refine ZV (N := 11) Tryz.func76 rfl rfl (lb rfl) fun S w0 hS hJ0 hH => ?_
 refine tw Yr ?_
 refine ZN tb hJ [1,1000] [.ptr [.lit (.string s)],_] [0] [_,_] rfl ⟨fun _ _ hk hx hl _ => ZaG rfl (hl.env 0 0 _ rfl rfl) (Zr hS _ hk hx _ (Nat.le_refl _)) (jo hJ hx), trivial⟩ ?_
 refine ZN tb hJ [1004,1007] [_,.at b 0,.at b 3,.at b 5,.rd (Z4 f.hyps),.fn 77 [.ptr [.lit (.string s)]],.bool (f.hyps.any (fun h' => decide (h'.label = s))),_] [1,2,3,4,5,6] [_,_] rfl ⟨fun _ _ _ hx hl _ => Zm rfl (hl.D 0 4 rfl rfl) hx, fun _ _ _ hx hl _ => Zn Qo rfl (hl.D 1 5 rfl rfl) hx, fun _ _ _ hx hl _ => Zn Qp rfl (hl.D 2 6 rfl rfl) hx, fun _ _ hk hx hl _ => Zq (cs := (mkR d f M vi vs vt n kn y1 y2)) Zcq rfl (Z9 hH hk hx (mo 0 rfl)) (hl.D 3 7 rfl rfl) rfl hx, fun _ _ _ hx hl _ => Y6 (caps := [(Go.Operand.tmp 2)]) rfl (Za (hl.env 1 2 _ rfl rfl) Ze) hx, fun _ _ hk hx hl _ => YV (XS hJ (xs := f.hyps) (f := 77) (caps := [.ptr [.lit (.string s)]]) (Os := []) (p := (fun h' => decide (h'.label = s))) (fun q' => (ZnJ hJ q' s).r) (Zr7)) ZdT rfl (Zr hS _ hk hx) (hx.1) Zt (Za (hl.D 4 8 rfl rfl) (Za (hl.D 5 9 rfl rfl) Ze)) (jo hJ hx), trivial⟩ ?_
 refine ln 0 fun hl1 => ?_
 exact Zi (Qm (m := 1) rfl rfl (eB (by first | rfl | grind [Zc])))
theorem Zlr {J : World → Prop} (hJ : Stab J) (d : Db) (z : Int) (hw : ∀ f ∈ d.frames, f.wide.length * 32 ≤ 140737488351232) (hG : Q8 J) : Fn Tryz.prog J 34 [.agg (dbC d), .int z] (.int (Qz d z)) := by
 refine Zx (N := 20) Tryz.func34 rfl rfl (lb rfl) fun S w0 hS hJ0 => ?_
 refine tw Yr ?_
 refine ZN tb hJ [1,1000] [.ptr (dbC d),_] [0] [_,_] rfl ⟨fun _ _ hk hx hl _ => Y1 rfl (hl.env 0 0 _ rfl rfl) (Zr hS _ hk hx _ (Nat.le_refl _)) (jo hJ hx), trivial⟩ ?_
 refine Zo (ZN tb hJ [0,1,1002] [_,.int (ZcD d),_] [1] [_,_,_] rfl ⟨iFo hS hJ (Zq9 hJ (d := d) (by exact hw) (by exact hG)) Zsg, trivial⟩ ?_)
 refine qso tb hJ [0,1,2,1001] [_,_] [_,_,_,_] ?_
 refine cj 3 (fun hb1 => ?_) fun hb1 => ?_
 try simp at hb1
 refine qso tb hJ [1001] [_,_] [_] ?_
 exact Zi (Qm (m := 0) rfl rfl (eI (by simp [Qz, hb1])))
 try simp at hb1
 refine Zf (nx (Zo (ZN tb hJ [1008] [_,_,_,_,_,_,.int (d.frames.length : Nat),_,_] [6] [_] rfl ⟨YE XE, trivial⟩ ?_)))
 refine cj 0 (fun hb2 => ?_) fun hb2 => ?_
 try simp at hb2
 refine qso tb hJ [1000] [_] [_] ?_
 exact Zi (Qm (m := 0) rfl rfl (eI (by simp only [Qz]; rw [if_neg (by simpa using hb1), if_pos (by simpa using hb2)])))
 try simp at hb2
 refine Zf (nx (qso tb hJ [1000] [_] [_] ?_))
 exact Zi (Qm (m := 0) rfl rfl (eI (by simp only [Qz]; rw [if_neg (by simpa using hb1), if_neg (by simpa using hb2)])))
end Go.Proofs.YtgifeodnngodiaaGreatDoor
namespace Go.Proofs.YtgifeodnngodiaaGreatDoor
def okT (g : Fr) : Prop := 0 < g.text.length ∧ ∀ h ∈ g.hyps, h.floating = true → ¬ ge h.text 1 = ge g.text 0
theorem ZsA {g : Fr} (hg : okT g) (sk : List (List ByteArray)) (b : Nat) : 1 ≤ (Q7 (Yg (Xi g.hyps sk b g.hyps.length)) g.text).length := by
 obtain ⟨h0, h1⟩ := hg
 have h2 : ZD (Yg (Xi g.hyps sk b g.hyps.length)) (ge g.text 0) = none := by
  rw [ZbQ, List.find?_eq_none.2, Option.map_none]
  intro x hx
  obtain ⟨j, hj, he⟩ := List.mem_filterMap.1 hx
  have hj : j < g.hyps.length := by simpa using hj
  unfold Zm1 at he
  split at he
  · rename_i hf
    cases he
    simpa using h1 _ (Zc hj) hf
  · cases he
 have h3 := Qe (M := Yg (Xi g.hyps sk b g.hyps.length)) h0
 have h4 := QN (Yg (Xi g.hyps sk b g.hyps.length)) g.text 1
 rw [h3, List.length_append] at h4
 simp only [Xd, h2, List.length_singleton] at h4
 omega
def Zbc (xs : List Itm) (k : Nat) : Nat := ((xs.take k).filter (·.tagged)).length
theorem Zji {xs : List Itm} {k : Nat} (h : k < xs.length) : Zbc xs (k + 1) = if (ge xs k).tagged = true then Zbc xs k + 1 else Zbc xs k := by
 unfold Zbc
 rw [ZQ h, List.filter_append, List.length_append]
 by_cases h2 : (ge xs k).tagged = true <;> simp [h2]
theorem Znj (xs : List Itm) (k : Nat) : Zbc xs k ≤ k := by
 unfold Zbc
 have := List.length_filter_le (·.tagged) (xs.take k)
 have := List.length_take_le k xs
 omega
def Zrh (fs : List Fr) (xs : List Itm) : Prop := xs.length ≤ 2000 ∧ ∀ k, k < xs.length → okI fs.length (Zbc xs k) (ge xs k) ∧ ((ge xs k).kind = 1 → 1 ≤ (ge xs k).text.length ∧ (ge xs k).text.length ≤ 2000)
structure InvM (xs : List Itm) (m : Ms) : Prop where
 sk : ∀ t ∈ m.sk, 1 ≤ t.length ∧ t.length ≤ 2000
 tg : ∀ t ∈ m.tg, 1 ≤ t.length ∧ t.length ≤ 2000
 skn : m.sk.length ≤ m.n
 tgn : m.tg.length = Zbc xs m.n
 n : m.n ≤ xs.length
 kn : m.kn = false → m.n < xs.length
theorem Zqi {vars : List ByteArray} {wide : List Pr} {g : Fr} {sk : List (List ByteArray)} {b : Nat} {t : List ByteArray} (hg : okT g) (h : Zh0 vars wide g sk b = .ok t) : 1 ≤ t.length ∧ t.length ≤ 2000 := by
 unfold Zh0 at h
 split at h
 · cases h
 split at h
 · cases h
 split at h
 · cases h
 split at h
 · cases h
 · rename_i h3 _
   injection h with h
   subst h
   simp only [Zdo, Bool.not_eq_true', decide_eq_false_iff_not, Nat.not_le, Nat.not_lt] at h3
   exact ⟨ZsA hg sk b, h3⟩
theorem Zoe {fs : List Fr} {vars : List ByteArray} {f : Fr} {sk tg s : List (List ByteArray)} {x : Itm} (hfs : ∀ g ∈ fs, okT g) (hx : okI fs.length tg.length x) (hx1 : x.kind = 1 → 1 ≤ x.text.length ∧ x.text.length ≤ 2000) (hs : ∀ t ∈ sk, 1 ≤ t.length ∧ t.length ≤ 2000) (ht : ∀ t ∈ tg, 1 ≤ t.length ∧ t.length ≤ 2000) (h : YJ fs vars f sk tg x = .ok s) : ∀ t ∈ s, 1 ≤ t.length ∧ t.length ≤ 2000 := by
 unfold YJ at h
 split at h
 · rename_i hk
   injection h with h
   subst h
   intro t h2
   rcases List.mem_append.1 h2 with h2 | h2
   · exact hs t h2
   · rw [List.mem_singleton.1 h2]; exact hx1 hk
 split at h
 · rename_i _ hk
   have h9 := hx.2.2.1 hk
   unfold Zb6 at h
   split at h
   · cases h
   split at h
   · cases h
   · rename_i u hu
     injection h with h
     subst h
     intro t h2
     rcases List.mem_append.1 h2 with h2 | h2
     · exact hs t (List.mem_of_mem_take h2)
     · rw [List.mem_singleton.1 h2]; exact Zqi (hfs _ (Zc (by omega))) hu
 split at h
 · rename_i _ _ hk
   have h9 := hx.2.2.2 hk
   injection h with h
   subst h
   intro t h2
   rcases List.mem_append.1 h2 with h2 | h2
   · exact hs t h2
   · rw [List.mem_singleton.1 h2]; exact ht _ (Zc (by omega))
 split at h <;> cases h
theorem Znl {fs : List Fr} {vars : List ByteArray} {f : Fr} {xs : List Itm} {m : Ms} (hfs : ∀ g ∈ fs, okT g) (hxs : Zrh fs xs) (h : InvM xs m) : InvM xs (ZS fs vars f xs m) := by
 obtain ⟨sk, tg, n, kn, v, did⟩ := m
 obtain ⟨h1, h2, h3, h4, h5, h6⟩ := h
 simp only at h1 h2 h3 h4 h5 h6
 cases hk : kn with
 | true => rw [ZaZ rfl]; exact ⟨h1, h2, h3, h4, h5, fun e => by cases e⟩
 | false =>
  have hn := h6 hk
  obtain ⟨hx, hx1⟩ := hxs.2 n hn
  rw [← h4] at hx
  cases hd : YJ fs vars f sk tg (ge xs n) with
  | error c => rw [ZbI rfl hd]; exact ⟨h1, h2, h3, h4, h5, fun e => by cases e⟩
  | ok s =>
   rw [ZaY rfl hd]
   have hs := Zoe hfs hx hx1 h1 h2 hd
   have hl := Zdt hd
   have hT : ∀ t ∈ (if (ge xs n).tagged = true then tg ++ [ge s ((s.length : Int) - 1).toNat] else tg), 1 ≤ t.length ∧ t.length ≤ 2000 := by
    intro t ht
    split at ht
    · rcases List.mem_append.1 ht with ht | ht
      · exact h2 t ht
      · rw [List.mem_singleton.1 ht]; exact hs _ (Zc (by omega))
    · exact h2 t ht
   have hN : (if (ge xs n).tagged = true then tg ++ [ge s ((s.length : Int) - 1).toNat] else tg).length = Zbc xs (n + 1) := by
    rw [Zji hn]
    split <;> simp [h4]
   revert hT hN
   generalize (if (ge xs n).tagged = true then tg ++ [ge s ((s.length : Int) - 1).toNat] else tg) = tg'
   intro hT hN
   unfold Zas
   split
   · rename_i hlt
     exact ⟨hs, hT, by simp only; omega, hN, by simp only; omega, fun _ => hlt⟩
   · exact ⟨hs, hT, by simp only; omega, hN, by simp only; omega, fun e => by cases e⟩
def Zeb (M : List (ByteArray × Int)) (N : Nat) : Prop := ∀ s n, ZD M s = some n → 0 ≤ n ∧ n < (N : Int)
def Zfd (f : Fr) : Prop := ∀ h ∈ f.hyps ++ f.dummies, 1 ≤ h.text.length ∧ h.text.length ≤ 2000
def okJ (N t : Nat) (x : Itm) : Prop := okI N t x ∧ (x.kind = 1 → 1 ≤ x.text.length ∧ x.text.length ≤ 2000)
theorem Ziw {f : Fr} {M : List (ByteArray × Int)} {N : Nat} (hM : Zeb M N) (hf : Zfd f) (t : Nat) (s : ByteArray) : okJ N t (ZY f M s) ∧ (ZY f M s).tagged = false := by
 unfold ZY
 split
 · exact ⟨⟨⟨by simp, by simp, by simp, by simp⟩, by simp⟩, rfl⟩
 split
 · rename_i h hh
   have := hf h (List.mem_of_find?_eq_some hh)
   exact ⟨⟨⟨by simp, by simp, by simp, by simp⟩, fun _ => this⟩, rfl⟩
 split
 · rename_i n hn
   have := hM s n hn
   exact ⟨⟨⟨by simp, by simp, fun _ => this, by simp⟩, by simp⟩, rfl⟩
 · exact ⟨⟨⟨by simp, by simp, by simp, by simp⟩, by simp⟩, rfl⟩
theorem Zrt {f : Fr} {M : List (ByteArray × Int)} {N t : Nat} (hM : Zeb M N) (hf : Zfd f) {labels : List ByteArray} {l : Lt} (hl : 0 ≤ l.number) {x : Itm} (h : QP f M labels t l = some x) : okJ N t x ∧ x.tagged = l.tagged := by
 unfold QP at h
 split at h
 · cases h; exact ⟨⟨⟨by simp, by simp, by simp, by simp⟩, by simp⟩, rfl⟩
 split at h
 · cases h
   have := hf (ge f.hyps (l.number - 1).toNat) (List.mem_append_left _ (Zc (by omega)))
   exact ⟨⟨⟨by simp, by simp, by simp, by simp⟩, fun _ => this⟩, rfl⟩
 split at h
 · cases h
   obtain ⟨h1, _⟩ := Ziw hM hf t (ge labels (l.number - 1 - f.hyps.length).toNat)
   exact ⟨⟨⟨h1.1.1, h1.1.2.1, h1.1.2.2.1, h1.1.2.2.2⟩, h1.2⟩, rfl⟩
 split at h
 · cases h
   exact ⟨⟨⟨by simp, by simp, by simp, fun _ => by simp only; omega⟩, by simp⟩, rfl⟩
 · cases h
theorem Zjj (x : Itm) (xs : List Itm) (k : Nat) : Zbc (x :: xs) (k + 1) = (if x.tagged = true then 1 else 0) + Zbc xs k := by
 unfold Zbc
 rw [List.take_succ_cons, List.filter_cons]
 split <;> simp [Nat.add_comm]
theorem ZiE {f : Fr} {M : List (ByteArray × Int)} {N : Nat} (hM : Zeb M N) (hf : Zfd f) {labels : List ByteArray} : ∀ {ls : List Lt} {t : Nat} {xs : List Itm}, (∀ l ∈ ls, 0 ≤ l.number) → Yn f M labels ls t = some xs → ∀ k, k < xs.length → okJ N (t + Zbc xs k) (ge xs k)
 | [], t, xs, _, h, k, hk => by
  simp only [Yn, Option.some.injEq] at h
  subst h
  simp at hk
 | l :: r, t, xs, hl, h, k, hk => by
  unfold Yn at h
  split at h
  · cases h
  rename_i x hx
  split at h
  · cases h
  rename_i ys hys
  cases h
  obtain ⟨h1, h2⟩ := Zrt hM hf (hl l (by simp)) hx
  cases k with
  | zero => exact h1
  | succ k =>
   have h3 := ZiE hM hf (fun l hl' => hl l (by simp [hl'])) hys k (by simpa using hk)
   rw [ge_s, Zjj, h2]
   split
   · rename_i ht
     rw [if_pos ht] at h3
     rw [← Nat.add_assoc]
     exact h3
   · rename_i ht
     rw [if_neg ht] at h3
     rw [Nat.zero_add]
     exact h3
theorem Zbi : ∀ (m : Nat) (bs : List UInt8) (n : Int) (ins : Bool), bs.length ≤ m → 0 ≤ n → ∀ l ∈ (lettersD bs n ins).1, 0 ≤ l.number := by
 intro m
 induction m with
 | zero =>
  intro bs n ins hm _ l hl
  have : bs = [] := List.length_eq_zero_iff.1 (by omega)
  subst this
  simp [lettersD] at hl
 | succ m ih =>
  intro bs n ins hm hn l hl
  cases bs with
  | nil => simp [lettersD] at hl
  | cons b r =>
   simp only [List.length_cons] at hm
   rw [QK] at hl
   split at hl
   · split at hl
     · simp at hl
     · rename_i hb _
       simp only [Bool.and_eq_true, decide_eq_true_eq] at hb
       exact ih r _ _ (by omega) (by omega) l hl
   split at hl
   · rename_i hb
     simp only [Bool.and_eq_true, decide_eq_true_eq] at hb
     split at hl
     · simp at hl
     · split at hl
       · simp only [List.mem_singleton] at hl
         subst hl
         simp only
         omega
       · rename_i c r'
         simp only [List.length_cons] at hm
         split at hl
         · rcases List.mem_cons.1 hl with rfl | hl
           · simp only; omega
           · exact ih r' _ _ (by omega) (by omega) l hl
         · rcases List.mem_cons.1 hl with rfl | hl
           · simp only; omega
           · exact ih (c :: r') _ _ (by simp only [List.length_cons]; omega) (by omega) l hl
   split at hl
   · rcases List.mem_cons.1 hl with rfl | hl
     · simp
     · exact ih r _ _ (by omega) hn l hl
   · simp at hl
theorem Zhi {fs : List Fr} {f : Fr} {M : List (ByteArray × Int)} {proof : List ByteArray} {xs : List Itm} (hM : Zeb M fs.length) (hf : Zfd f) (h : Yy f M proof = .ok xs) : Zrh fs xs := by
 unfold Yy at h
 split at h
 · split at h
   · cases h
   · rename_i hl
     injection h with h
     subst h
     refine ⟨by simp; omega, fun k hk => ?_⟩
     have hk' : k < proof.length := by simpa using hk
     have he : ge (proof.map (ZY f M)) k = ZY f M (ge proof k) := by rw [YN hk, YN hk', List.getElem_map]
     rw [he]
     exact (Ziw hM hf _ _).1
 split at h
 · cases h
 rename_i labels text _
 split at h
 · cases h
 split at h
 · cases h
 rename_i ys hys
 split at h
 · cases h
 split at h
 · cases h
 · rename_i hl
   injection h with h
   subst h
   refine ⟨by omega, fun k hk => ?_⟩
   have := ZiE hM hf (Zbi _ _ 0 false (Nat.le_refl _) (Int.le_refl _)) hys k hk
   rw [Nat.zero_add] at this
   exact this
theorem ZkD {fs : List Fr} {f : Fr} {r : Except Int (List Itm)} (h : ∀ xs, r = .ok xs → Zrh fs xs) : Zrh fs (Y8 f r).1 ∧ InvM (Y8 f r).1 (Y8 f r).2 := by
 cases r with
 | error c => exact ⟨⟨by simp [Y8], fun k hk => by simp [Y8] at hk⟩, ⟨by simp [Y8], by simp [Y8], by simp [Y8], by simp [Y8, Zbc], by simp [Y8], by simp [Y8]⟩⟩
 | ok xs =>
  refine ⟨h xs rfl, ?_⟩
  unfold Y8 Zas
  simp only
  split
  · rename_i hlt
    exact ⟨by simp, by simp, by simp, by simp [Zbc], by simp, fun _ => hlt⟩
  · exact ⟨by simp, by simp, by simp, by simp [Zbc], by simp, fun e => by cases e⟩
section
variable {fs : List Fr} {vars : List ByteArray} {f : Fr} {xs : List Itm} {m : Ms}
theorem ZpB (h : m.kn = true) : (ZS fs vars f xs m).v = m.v ∧ (ZS fs vars f xs m).kn = true := by
 obtain ⟨sk, tg, n, kn, v, did⟩ := m
 simp only at h
 subst h
 rw [ZaZ rfl]
 exact ⟨rfl, rfl⟩
theorem Zia : ∀ (j : Nat) (m : Ms), m.kn = true → (Zd1 fs vars f xs j m).v = m.v
 | 0, _, _ => rfl
 | j + 1, m, h => by
  show (Zd1 fs vars f xs j (ZS fs vars f xs m)).v = m.v
  rw [Zia j _ (ZpB h).2, (ZpB h).1]
theorem Zek (h : InvM xs m) : ((ZS fs vars f xs m).did = false ∧ (ZS fs vars f xs m).kn = true ∧ (m.kn = true → (ZS fs vars f xs m).v = m.v)) ∨ ((ZS fs vars f xs m).did = true ∧ (ZS fs vars f xs m).n = m.n + 1 ∧ m.n < xs.length ∧ m.kn = false) := by
 obtain ⟨sk, tg, n, kn, v, did⟩ := m
 cases hk : kn with
 | true => rw [ZaZ rfl]; exact .inl ⟨rfl, rfl, fun _ => rfl⟩
 | false =>
  have hn := h.kn hk
  simp only at hn
  cases hd : YJ fs vars f sk tg (ge xs n) with
  | error c => rw [ZbI rfl hd]; exact .inl ⟨rfl, rfl, fun e => by cases e⟩
  | ok s =>
   rw [ZaY rfl hd]
   generalize (if (ge xs n).tagged = true then tg ++ [ge s ((s.length : Int) - 1).toNat] else tg) = tg'
   unfold Zas
   split
   · exact .inr ⟨rfl, rfl, hn, rfl⟩
   · exact .inr ⟨rfl, rfl, hn, rfl⟩
theorem Znp (h : InvM xs m) (hd : (ZS fs vars f xs m).did = false) : (Zd1 fs vars f xs (xs.length + 1 - m.n) m).v = (ZS fs vars f xs m).v := by
 have hn := h.n
 obtain ⟨j, hj⟩ : ∃ j, xs.length + 1 - m.n = j + 1 := ⟨xs.length - m.n, by omega⟩
 rw [hj]
 show (Zd1 fs vars f xs j (ZS fs vars f xs m)).v = _
 rcases Zek (fs := fs) (vars := vars) (f := f) h with h2 | h2
 · exact Zia j _ h2.2.1
 · rw [h2.1] at hd; cases hd
theorem Zno (h : InvM xs m) (hd : (ZS fs vars f xs m).did = true) : (Zd1 fs vars f xs (xs.length + 1 - m.n) m).v = (Zd1 fs vars f xs (xs.length + 1 - (ZS fs vars f xs m).n) (ZS fs vars f xs m)).v ∧ (ZS fs vars f xs m).n = m.n + 1 ∧ m.n < xs.length := by
 rcases Zek (fs := fs) (vars := vars) (f := f) h with h2 | h2
 · rw [h2.1] at hd; cases hd
 · refine ⟨?_, h2.2.1, h2.2.2.1⟩
   rw [h2.2.1]
   obtain ⟨j, hj⟩ : ∃ j, xs.length + 1 - m.n = j + 1 := ⟨xs.length - m.n, by omega⟩
   rw [hj, show xs.length + 1 - (m.n + 1) = j by omega]
   rfl
theorem Zqw {r : Except Int (List Itm)} : (Y8 f r).2.n = 0 := by
 cases r with
 | error c => rfl
 | ok xs => unfold Y8 Zas; simp only; split <;> rfl
end
def QX (d : Db) (n : Nat) (t : List ByteArray) : List Itm := (Y8 (ge d.frames n) (Yy (ge d.frames n) (ZaK (d.frames.take n)) t)).1
def Zar (d : Db) (n : Nat) (t : List ByteArray) : Ms := (Y8 (ge d.frames n) (Yy (ge d.frames n) (ZaK (d.frames.take n)) t)).2
theorem verV {d : Db} {n : Nat} {t : List ByteArray} : ZcX d.frames d.vars (ge d.frames n) (ZaK (d.frames.take n)) t = (Zd1 d.frames d.vars (ge d.frames n) (QX d n t) ((QX d n t).length + 1) (Zar d n t)).v := rfl
theorem startV {d : Db} {n : Nat} {t : List ByteArray} (hM : Zeb (ZaK (d.frames.take n)) d.frames.length) (hf : Zfd (ge d.frames n)) : Zrh d.frames (QX d n t) ∧ InvM (QX d n t) (Zar d n t) := ZkD fun _ h => Zhi hM hf h
section
variable {fs : List Fr} {vars : List ByteArray} {f : Fr} {xs : List Itm} {m : Ms}
theorem Zh6 : ZS fs vars f xs ⟨m.sk, m.tg, m.n, m.kn, (m.v.1, m.v.2), false⟩ = ZS fs vars f xs m := rfl
theorem inv_i (h0 : Zrh fs xs) (h : InvM xs m) (e : m.kn = false) : m.n < xs.length ∧ okI fs.length m.tg.length (ge xs m.n) := ⟨h.kn e, by rw [h.tgn]; exact (h0.2 _ (h.kn e)).1⟩
theorem Zrx (h0 : Zrh fs xs) (h : InvM xs m) : m.sk.length ≤ 2000 ∧ m.tg.length ≤ 2000 ∧ m.n ≤ 2000 := by
 have h1 := h.skn
 have h2 := h.n
 have h3 := h.tgn
 have h4 := Znj xs m.n
 have h5 := h0.1
 omega
end
theorem Zgm {fs : List Fr} {k : Nat} (h : k < fs.length) : ZaK (fs.take (k + 1)) = QV (ZaK (fs.take k)) (ge fs k).label ((k : Nat) : Int) := by
 unfold ZaK
 rw [ZQ h, List.zipIdx_append, List.foldl_append]
 simp [List.length_take, Nat.min_eq_left (Nat.le_of_lt h)]
theorem Zdl {fs : List Fr} : ∀ k, k ≤ fs.length → Zeb (ZaK (fs.take k)) k
 | 0, _ => fun s n h => by simp [ZaK, Qk] at h
 | k + 1, hk => fun s n h => by
  rw [Zgm (by omega), Zgn] at h
  split at h
  · injection h with h; omega
  · have := Zdl k (by omega) s n h; omega
theorem Zey {M : List (ByteArray × Int)} {a b : Nat} (h : Zeb M a) (hab : a ≤ b) : Zeb M b := fun s n e => by have := h s n e; omega
section
variable {d : Db}
theorem ZgN (h : ZcD d = 0) : ∀ k, k < d.frames.length → frE d k = 0 := by
 unfold ZcD at h
 split at h
 · cases h
 split at h
 · rename_i h2
   rw [h] at h2
   simp at h2
 · exact X6 h
theorem Zr0 (h : ZcD d = 0) : d.frames.length ≤ 400 := by
 unfold ZcD at h
 split at h
 · cases h
 rename_i h1
 simp only [Bool.or_eq_true, decide_eq_true_eq, not_or] at h1
 omega
theorem ZrY (h : ZcD d = 0) : Zd3 d = 0 := by
 unfold ZcD at h
 split at h
 · cases h
 split at h
 · rename_i h2
   rw [h] at h2
   simp at h2
 · rename_i h2
   simpa using h2
theorem Zkz (h : Zd3 d = 0) : ∀ v ∈ d.vars, ¬ v ∈ d.consts := by
 unfold Zd3 at h
 split at h
 · rename_i h2
   rw [h] at h2
   simp at h2
 · intro v hv hc
   obtain ⟨j, hj, rfl⟩ := Y2 hv
   have := X6 h j hj
   unfold Zj5 at this
   split at this
   · cases this
   split at this
   · cases this
   · rename_i h3
     simp [hc] at h3
theorem Zoi {k : Nat} {y : Hy} {bs : List Hy} {dm : Bool} (h : Zoj d k y bs dm = 0) : (1 ≤ y.text.length ∧ y.text.length ≤ 200) ∧ (y.floating = true → y.text.length = 2 ∧ ge y.text 1 ∈ d.vars) := by
 have h1 := QZ h
 unfold Zoj at h
 split at h
 · cases h
 split at h
 · cases h
 split at h
 · cases h
 split at h
 · cases h
 rename_i h4
 have h5 : y.floating = true → y.text.length = 2 ∧ ge y.text 1 ∈ d.vars := fun hf => ⟨Yp h1 hf, by simp [Zgy, hf] at h4; exact h4.2⟩
 refine ⟨?_, h5⟩
 cases hf : y.floating with
 | true => have := (h5 hf).1; omega
 | false => simp [QQ, hf] at h1; have := List.length_pos_iff.2 h1.2.1; omega
theorem ZrE (hs : Zd3 d = 0) {k : Nat} (h : frE d k = 0) : okF (ge d.frames k) ∧ okT (ge d.frames k) ∧ Zfd (ge d.frames k) := by
 have hz := Zfe h
 unfold frE ZsJ at h
 split at h
 · cases h
 split at h
 · cases h
 split at h
 · cases h
 split at h
 · rename_i h2
   rw [h] at h2
   simp at h2
 rename_i h3
 have h3 : Zn8 d k = 0 := by simpa using h3
 have hy : ∀ y ∈ (ge d.frames k).hyps ++ (ge d.frames k).dummies, (1 ≤ y.text.length ∧ y.text.length ≤ 200) ∧ (y.floating = true → y.text.length = 2 ∧ ge y.text 1 ∈ d.vars) := fun y hy => by
  obtain ⟨j, hj, rfl⟩ := Y2 hy
  exact Zoi (X6 h3 j hj)
 split at h
 · cases h
 rename_i h4
 split at h
 · rename_i h2
   rw [h] at h2
   simp at h2
 rename_i h5
 have hc : ge (ge d.frames k).text 0 ∈ d.consts := by
  have h6 : Zbs d (ge d.frames k).text = 0 := by simpa using h5
  unfold Zbs Zmc at h6
  split at h6
  · rename_i h7
    simp only [Bool.and_eq_true, decide_eq_true_eq] at h7
    exact h7.1
  · cases h6
 have hp : 0 < (ge d.frames k).text.length := by
  simp only [Bool.or_eq_true, decide_eq_true_eq, not_or] at h4
  omega
 refine ⟨⟨by omega, fun y hy' hf => ((hy y (List.mem_append_left _ hy')).2 hf).1⟩, ⟨hp, fun y hy' hf e => ?_⟩, fun y hy' => ⟨(hy y hy').1.1, Nat.le_trans (hy y hy').1.2 (by omega)⟩⟩
 have := ((hy y (List.mem_append_left _ hy')).2 hf).2
 rw [e] at this
 exact Zkz hs _ this hc
theorem ZcP (h : ZcD d = 0) : ∀ g ∈ d.frames, okF g ∧ okT g ∧ Zfd g := fun g hg => by
 obtain ⟨k, hk, rfl⟩ := Y2 hg
 exact ZrE (ZrY h) (ZgN h k hk)
def ZfC (d : Db) (k : Nat) : Int × Int := if (ge d.frames k).thm then ZcX d.frames d.vars (ge d.frames k) (ZaK (d.frames.take k)) (ge d.frames k).proof else (0, 0)
def XY (d : Db) (z : Int) : (Int × Int) × Int := if Qz d z = 0 then (ZfC d z.toNat, 0) else ((0, 0), Qz d z)
theorem Zfy {z : Int} (h : Qz d z = 0) : ZcD d = 0 ∧ 0 ≤ z ∧ z < (d.frames.length : Int) := by
 unfold Qz at h
 split at h
 · rename_i h2; exact absurd h h2
 split at h
 · cases h
 · rename_i h1 h2
   exact ⟨by simpa using h1, by omega, by omega⟩
end
def tgN (l : List Lt) : Nat := (l.filter (·.tagged)).length
theorem QB (l : List Lt) (x : Lt) : tgN (l ++ [x]) = if x.tagged = true then tgN l + 1 else tgN l := by
 unfold tgN
 rw [List.filter_append, List.length_append]
 by_cases h : x.tagged = true <;> simp [h]
theorem Zng (l : List Lt) (x : Lt) : tgN (x :: l) = if x.tagged = true then tgN l + 1 else tgN l := by
 unfold tgN
 rw [List.filter_cons]
 by_cases h : x.tagged = true <;> simp [h]
section
variable {f : Fr} {L : List (ByteArray × Int)} {lb : List ByteArray}
theorem Zdu (l r : List Lt) : ∀ t, Yn f L lb (l ++ r) t = match Yn f L lb l t with
 | none => none
 | some xs => match Yn f L lb r (t + tgN l) with
  | none => none
  | some ys => some (xs ++ ys) := by
 induction l with
 | nil => intro t; simp only [List.nil_append, Yn, tgN, List.filter_nil, List.length_nil, Nat.add_zero]; cases Yn f L lb r t <;> rfl
 | cons x l ih =>
  intro t
  simp only [List.cons_append, Yn]
  cases h1 : QP f L lb t x with
  | none => rfl
  | some y =>
   simp only
   rw [ih, Zng]
   cases h2 : Yn f L lb l (if x.tagged = true then t + 1 else t) with
   | none => rfl
   | some xs =>
    simp only
    have e : (if x.tagged = true then t + 1 else t) + tgN l = t + (if x.tagged = true then tgN l + 1 else tgN l) := by split <;> omega
    rw [e]
    cases h3 : Yn f L lb r (t + if x.tagged = true then tgN l + 1 else tgN l) <;> simp
theorem XI {l : List Lt} {x : Lt} {ys : List Itm} {y : Itm} (h : Yn f L lb l 0 = some ys) (h2 : QP f L lb (tgN l) x = some y) : Yn f L lb (l ++ [x]) 0 = some (ys ++ [y]) := by
 rw [Zdu, h]
 simp [Yn, h2]
theorem ZlW {l : List Lt} {x : Lt} {ys : List Itm} {xs : List Lt} (hp : (l ++ [x]) <+: xs) (h : Yn f L lb l 0 = some ys) (h2 : QP f L lb (tgN l) x = none) : Yn f L lb xs 0 = none := by
 obtain ⟨r, rfl⟩ := hp
 rw [Zdu, Zdu, h]
 simp [Yn, h2]
theorem item_0 {tg : Nat} {x : Lt} (h : x.number = 0) : QP f L lb tg x = some ⟨0, [], 0, x.tagged⟩ := by rw [QP, if_pos h]
theorem item_1 {tg : Nat} {x : Lt} (h : ¬ x.number = 0) (h1 : x.number ≤ f.hyps.length) : QP f L lb tg x = some ⟨1, (ge f.hyps (x.number - 1).toNat).text, 0, x.tagged⟩ := by rw [QP, if_neg h, if_pos h1]
theorem item_2 {tg : Nat} {x : Lt} (h : ¬ x.number = 0) (h1 : ¬ x.number ≤ f.hyps.length) (h2 : x.number ≤ ((f.hyps.length + lb.length : Nat) : Int)) : QP f L lb tg x = some ⟨(ZY f L (ge lb (x.number - 1 - f.hyps.length).toNat)).kind, (ZY f L (ge lb (x.number - 1 - f.hyps.length).toNat)).text, (ZY f L (ge lb (x.number - 1 - f.hyps.length).toNat)).number, x.tagged⟩ := by
 rw [QP, if_neg h, if_neg h1, if_pos h2]
theorem item_4 {tg : Nat} {x : Lt} (h : ¬ x.number = 0) (h1 : ¬ x.number ≤ f.hyps.length) (h2 : ¬ x.number ≤ ((f.hyps.length + lb.length : Nat) : Int)) (h3 : x.number ≤ ((f.hyps.length + lb.length + tg : Nat) : Int)) : QP f L lb tg x = some ⟨4, [], x.number - 1 - f.hyps.length - lb.length, x.tagged⟩ := by
 rw [QP, if_neg h, if_neg h1, if_neg h2, if_pos h3]
theorem Zru {tg : Nat} {x : Lt} (h : ¬ x.number = 0) (h1 : ¬ x.number ≤ f.hyps.length) (h2 : ¬ x.number ≤ ((f.hyps.length + lb.length : Nat) : Int)) (h3 : ¬ x.number ≤ ((f.hyps.length + lb.length + tg : Nat) : Int)) : QP f L lb tg x = none := by
 rw [QP, if_neg h, if_neg h1, if_neg h2, if_neg h3]
variable {t : List ByteArray}
theorem ZqK (h : ZdO t = false) (h2 : 2000 < t.length) : Yy f L t = .error 10 := by simp [Yy, h, h2]
theorem Zeo (h : ZdO t = false) (h2 : ¬ 2000 < t.length) : Yy f L t = .ok (t.map (ZY f L)) := by simp [Yy, h, h2]
theorem ZqI (h : ZdO t = true) (h2 : Qh t = none) : Yy f L t = .error 20 := by simp [Yy, h, h2]
variable {z : List ByteArray × ByteArray} (h0 : ZdO t = true) (hz : Qh t = some z)
include h0 hz
theorem Zns (h : (Zc1 z.1 || z.1.any fun s => f.hyps.any fun h => decide (h.label = s)) = true) : Yy f L t = .error 20 := by
 obtain ⟨z1, z2⟩ := z
 simp only [Yy, h0, hz, Bool.not_true, Bool.false_eq_true, if_false]
 rw [if_pos h]
variable (hw : (Zc1 z.1 || z.1.any fun s => f.hyps.any fun h => decide (h.label = s)) = false)
include hw
theorem Znt (h : Yn f L z.1 (YI z.2).1 0 = none) : Yy f L t = .error 21 := by
 obtain ⟨z1, z2⟩ := z
 simp only [Yy, h0, hz, Bool.not_true, Bool.false_eq_true, if_false]
 rw [if_neg (by rw [hw]; decide)]
 simp only at h
 simp [h]
variable {ys : List Itm} (h : Yn f L z.1 (YI z.2).1 0 = some ys)
include h
theorem ZkZ (h2 : (YI z.2).2 = true) : Yy f L t = .error 21 := by
 obtain ⟨z1, z2⟩ := z
 simp only [Yy, h0, hz, Bool.not_true, Bool.false_eq_true, if_false]
 rw [if_neg (by rw [hw]; decide)]
 simp only at h h2
 simp [h, h2]
theorem ZkY (h2 : (YI z.2).2 = false) (h3 : 2000 < ys.length) : Yy f L t = .error 10 := by
 obtain ⟨z1, z2⟩ := z
 simp only [Yy, h0, hz, Bool.not_true, Bool.false_eq_true, if_false]
 rw [if_neg (by rw [hw]; decide)]
 simp only at h h2
 simp [h, h2, h3]
theorem Zid (h2 : (YI z.2).2 = false) (h3 : ¬ 2000 < ys.length) : Yy f L t = .ok ys := by
 obtain ⟨z1, z2⟩ := z
 simp only [Yy, h0, hz, Bool.not_true, Bool.false_eq_true, if_false]
 rw [if_neg (by rw [hw]; decide)]
 simp only at h h2
 simp [h, h2, h3]
end
theorem Zht : ∀ (m : Nat) (bs : List UInt8) (n : Int) (ins : Bool), bs.length ≤ m → (lettersD bs n ins).1.length ≤ bs.length := by
 intro m
 induction m with
 | zero =>
  intro bs n ins hm
  have : bs = [] := List.length_eq_zero_iff.1 (by omega)
  subst this
  simp [lettersD]
 | succ m ih =>
  intro bs n ins hm
  cases bs with
  | nil => simp [lettersD]
  | cons b r =>
   simp only [List.length_cons] at hm
   rw [QK]
   split
   · split
     · simp
     · have := ih r (5 * n + ((b.toNat : Int) - 85) + 1) true (by omega)
       simp only [List.length_cons]; omega
   split
   · split
     · simp
     · split
       · simp
       · rename_i c r'
         simp only [List.length_cons] at hm
         split
         · have := ih r' 0 false (by omega)
           simp only [List.length_cons]; omega
         · have := ih (c :: r') 0 false (by simp only [List.length_cons]; omega)
           simp only [List.length_cons] at this ⊢; omega
   split
   · have := ih r n ins (by omega)
     simp only [List.length_cons]; omega
   · simp
theorem ZlU (l : List ByteArray) (k : Nat) : (Zea (l.drop k) ⟨#[]⟩).size ≤ ZbG l := by
 have := Zgs l k
 simpa [Zea, ByteArray.size] using this
theorem Zeu {t : List ByteArray} {z : List ByteArray × ByteArray} (h : Qh t = some z) : z.2.size ≤ ZbG t ∧ z.1.length ≤ t.length := by
 unfold Qh at h
 simp only at h
 split at h
 · cases h
 split at h
 · cases h
 · injection h with h
   subst h
   refine ⟨ZlU t _, ?_⟩
   simp only [List.length_drop, List.length_take]
   omega
theorem ZqG {T : Nat → Prop} {w : World} {x : Lt} : Rel T w (.agg (ltC x)) (ZsK x) := by
 simp only [Rel]
 exact ⟨[.int .i64 x.number, .bool x.tagged], rfl, .lit _ True.intro, .lit _ True.intro, trivial⟩
theorem Zk9 {α : Type} {l xs : List α} {x : α} (h : (l ++ [x]) <+: xs) : x ∈ xs ∧ l.length < xs.length := by
 obtain ⟨r, rfl⟩ := h
 simp
section
variable {d : Db} {n : Nat} {t : List ByteArray} {xs : List Itm} {c : Int}
theorem mch_ok (h : Yy (ge d.frames n) (ZaK (d.frames.take n)) t = .ok xs) : QX d n t = xs ∧ (Zar d n t).sk = [] ∧ (Zar d n t).tg = [] ∧ (Zar d n t).n = 0 ∧ (Zar d n t).kn = (false || !decide (0 < xs.length)) ∧ (Zar d n t).v.1 = (if 0 < xs.length then 0 else (Zd2 (ge d.frames n) [] 0).1) ∧ (Zar d n t).v.2 = (if 0 < xs.length then 0 else (Zd2 (ge d.frames n) [] 0).2) := by
 unfold QX Zar
 rw [h]
 simp only [Y8, Zas]
 by_cases h0 : 0 < xs.length
 · simp [h0]
 · simp [h0]
theorem Zrk (h : Yy (ge d.frames n) (ZaK (d.frames.take n)) t = .error c) : QX d n t = [] ∧ (Zar d n t).sk = [] ∧ (Zar d n t).tg = [] ∧ (Zar d n t).n = 0 ∧ (Zar d n t).kn = true ∧ (Zar d n t).v.1 = c ∧ (Zar d n t).v.2 = 0 := by
 unfold QX Zar
 rw [h]
 exact ⟨rfl, rfl, rfl, rfl, rfl, rfl, rfl⟩
theorem namL_nil : ZaK (d.frames.take 0) = [] := by simp [ZaK]
end
end Go.Proofs.YtgifeodnngodiaaGreatDoor
set_option maxHeartbeats 8000000
set_option maxRecDepth 100000
namespace Go.Proofs.YtgifeodnngodiaaGreatDoor
open Go.RowKit
abbrev nmE (f : Fr) (L : List (ByteArray × Int)) (l : List ByteArray) (x : Lt) : Itm := ZY f L (ge l (x.number - (1 : Int) - (f.hyps.length : Int)).toNat)
theorem p_read {J : World → Prop} (hJ : Stab J) (b : Nat) (d : Db) (f : Fr) (M : Nat) (L : List (ByteArray × Int)) (vi : Value) (vs : Value) (vt : Value) (n : Nat) (kn : Bool) (y1 : Int) (y2 : Int) (t : List ByteArray) (ht : ∀ h ∈ f.hyps ++ f.dummies, h.text.length ≤ 2000) (hh : f.hyps.length ≤ 2000) (hn : t.length ≤ 100000) (hs : ZbG t ≤ 1000000000) : FnP (ι := {q' : Value × List Itm // Yy f L t = .ok q'.2}) (κ := {q : Int × Value × List Itm // Yy f L t = .error q.1}) Tryz.prog J 49 [] [.at b 0, .rd (Zb t)] [OB.var b (mkR d f M vi vs vt n kn y1 y2), OB.row vi 89 4 (([] : List Itm).map itC), OB.mI M L] (fun _ => .tup []) (fun i' => [OB.var b (mkC d f [.lit (.map (some M)), .lit (i'.1.1), .lit vs, .lit vt, .lit (.int .i64 (n : Int)), .lit (.bool kn), .lit (.int .i64 y1), .lit (.int .i64 y2)]), OB.row i'.1.1 89 4 ((i'.1.2).map itC), OB.mI M L]) (fun k' => flV k'.1.1) (fun k' => [OB.var b (mkC d f [.lit (.map (some M)), .lit (k'.1.2.1), .lit vs, .lit vt, .lit (.int .i64 (n : Int)), .lit (.bool kn), .lit (.int .i64 y1), .lit (.int .i64 y2)]), OB.row k'.1.2.1 89 4 ((k'.1.2.2).map itC), OB.mI M L]) := by
 refine ZjP (N := 142) Tryz.func49 rfl rfl (lb rfl) fun S w0 R hS hJ0 hH => ?_
 refine atw (B := St All (SO S (OB.var b (mkR d f M vi vs vt n kn y1 y2) :: OB.row vi 89 4 (([] : List Itm).map itC) :: OB.mI M L :: R)) w0 142 [(0, .at b 0), (1, .rd (Zb t))] (XO J S w0.heap.size (OB.var b (mkR d f M vi vs vt n kn y1 y2) :: OB.row vi 89 4 (([] : List Itm).map itC) :: OB.mI M L :: R))) (fun h => h) ?_
 refine lnA 1 fun hl1 => ?_
 refine Zbj (m := 5) ?_
 refine YW tb hJ [1,1000] [.ptr [.lit (.pointer (some ⟨b, 0, none⟩))]] [0] [_,_] rfl ⟨fun _ _ hk hx hl _ => ZaG rfl (hl.env 0 0 _ rfl rfl) (Zr hS _ hk hx _ (Nat.le_refl _)) (jo hJ hx), trivial⟩ ?_
 refine nxA ?_
 refine Zbj (m := 5) ?_
 refine ZN tb hJ [0,1,1002] [_,.bool (ZdO t),_] [1] [_,_,_] rfl ⟨iFo hS hJ (Zgc hJ (l := t) ) Zsa, trivial⟩ ?_
 refine cj 2 (fun hb1 => ?_) fun hb1 => ?_
 ·
  try simp at hb1
  refine Zo (ZN tb hJ [0,1,1002] [_,.int (t.length : Nat),_] [1] [_,_,_] rfl ⟨YE Zw, trivial⟩ ?_)
  refine cj 2 (fun hb2 => ?_) fun hb2 => ?_
  ·
   try simp at hb2
   refine Zz (XK (O := []) (R := (OB.var b (mkR d f M vi vs vt n kn y1 y2) :: OB.row vi 89 4 (([] : List Itm).map itC) :: OB.mI M L :: R)) (Qb hJ (c := (10 : Int)) ) Xh rfl rfl rfl (lb rfl) hS hJ0 Zt (fun a w h => (Za (Rel.of_lit (Go.Value.int Go.IntKind.i64 10)) Ze)) (fun _ => ?_) (fun i => i.elim))
   refine Zlu ?_
   exact fun a w h => pnP (⟨(10, vi, ([] : List Itm)), ZqK hb1 (by omega)⟩ : {q : Int × Value × List Itm // Yy f L t = .error q.1}) rfl a w h
  ·
   try simp at hb2
   refine Zf (nx (Zo (ZN tb hJ [1,1000,1001,1002] [_,.int (t.length : Nat),_] [1] [_,_,_,_] rfl ⟨YE Zw, trivial⟩ ?_)))
   refine Zg (lpo (ι := Nat × (List Itm) × Value) (fun (k, ys, _) => (k ≤ t.length) ∧ (ys = (t.take k).map (ZY f L))) (fun (_, ys, wv) => (OB.var b (mkR d f M wv vs vt n kn y1 y2) :: OB.row wv 89 4 (ys.map itC) :: OB.mI M L :: R)) (fun (k, _, _) => [(23, .int (k : Nat))]) (fun (k, _, _) => t.length - k) [0,1,2,3] [_,_,_] (0, ([] : List Itm), vi) ⟨Nat.zero_le _, rfl⟩ ?_)
   rintro ⟨k, ys, wv⟩ ⟨f1_1, f1_2⟩
   refine qso tb hJ [0,1,2,3,1000] [_] [_,_,_,_,_] ?_
   refine cjS 4 (fun hb3 => ?_) fun hb3 => ?_
   ·
    try simp at hb3
    have e7 : ys.length ≤ 2000 := by rw [f1_2]; simp; omega
    refine Zf (nx (Zo (Zg (ZN tb hJ [0,1,2,3,1002] [.ptr [.lit (.string (ge t k))],_,_] [0] [_,_,_,_,_] rfl ⟨iIx Zh, trivial⟩ ?_))))
    refine tw pm1 ?_
    refine fun a w h => YT (OB.var b (mkR d f M wv vs vt n kn y1 y2) :: OB.mI M L :: R) (γ := Value) (fun ix' => ([.at b 0, .at b 0, .at b 0, .at b 12, .lit wv, .at b 0, .str (ge t k), .agg (itC (ZY f L (ge t k))), .rd (XC ([(ZY f L (ge t k))])), .any, .at b 0, .at b 12, .any] : List AV).getD ix' .any) (fun _ => true) [(2, fun (g : Value) => .ptr [.lit (.pointer (some ⟨b, 0, none⟩))]), (21, fun (g : Value) => .rd (Zb t)), (22, fun (g : Value) => .int (t.length : Nat)), (23, fun (g : Value) => .int (k : Nat))] (fun (j' : Nat) (g : Value) => match j' with | 0 => (OB.row wv 89 4 (ys.map itC) :: OB.var b (mkR d f M wv vs vt n kn y1 y2) :: OB.mI M L :: R) | 1 => (OB.row g 89 4 ((ys ++ ([(ZY f L (ge t k))])).map itC) :: OB.var b (mkR d f M wv vs vt n kn y1 y2) :: OB.mI M L :: R) | _ => (OB.row g 89 4 ((ys ++ ([(ZY f L (ge t k))])).map itC) :: OB.var b (mkR d f M g vs vt n kn y1 y2) :: OB.mI M L :: R)) (fun (k' : Nat) (g : Value) => match k' with | 0 => g | 1 => undef | _ => undef) [9, 12] 1 (.slice none 0 0) (fun _ => rfl) h hJ Ye rfl rfl rfl rfl rfl rfl (fun j' g hj p hp => by rcases j' with _ | _ | _ | j' <;> first | exact hp | exact List.mem_cons_of_mem _ hp | exact List.mem_cons_of_mem _ (List.mem_cons_of_mem _ hp) | (exfalso; omega)) ⟨?_, ⟨?_, ⟨?_, ⟨?_, ⟨?_, ⟨?_, ⟨?_, ⟨?_, ⟨?_, ⟨?_, ⟨?_, ⟨?_, ⟨?_, trivial⟩⟩⟩⟩⟩⟩⟩⟩⟩⟩⟩⟩⟩ ⟨?e7_1_0, ⟨?e7_1_1, trivial⟩⟩ ⟨.old 0 2 _ rfl rfl, ⟨.old 1 21 _ rfl rfl, ⟨.old 2 22 _ rfl rfl, ⟨.old 3 23 _ rfl rfl, trivial⟩⟩⟩⟩ ?n7_1
    exact oX rfl fun hx hl => Zy Yb rfl (hl.env 0 2 _ rfl rfl) hx
    exact oX rfl fun hx hl => Zy Yb rfl (hl.env 0 2 _ rfl rfl) hx
    exact oX rfl fun hx hl => Zm rfl (hl.D 1 28 rfl rfl) hx
    exact oX rfl fun hx hl => Zn ZO rfl (hl.D 2 29 rfl rfl) hx
    exact fun _ O' hO' => ⟨rfl, fun _ _ _ hx hl _ => Zq (cs := (mkR d f M wv vs vt n kn y1 y2)) Zal rfl (Zd hx (hO' _ (mo 0 rfl))) (hl.D 3 30 rfl rfl) rfl hx⟩
    exact oX rfl fun hx hl => Zy Yb rfl (hl.env 0 2 _ rfl rfl) hx
    exact oX rfl fun hx hl => Ys rfl (hl.env 4 5 _ rfl rfl) hx
    exact fun _ O' hO' => ⟨rfl, fun _ _ hk hx hl _ => YV (Zlk hJ (b := b) (d := d) (f := f) (M := M) (L := L) (vi := wv) (vs := vs) (vt := vt) (n := n) (kn := kn) (y1 := y1) (y2 := y2) (s := (ge t k)) (by first | omega | (simp; omega) | grind [Zc])) ZmD rfl (Zr hS _ hk hx) (hx.1) (ZG (Zd hx (hO' _ (mo 0 rfl))) (ZG (Zd hx (hO' _ (mo 1 rfl))) Zt)) (Za (hl.D 5 32 rfl rfl) (Za (hl.D 6 33 rfl rfl) Ze)) (jo hJ hx)⟩
    exact oY rfl fun hk hx hl => Xu Yw Zab rfl rfl (hl.D 7 34 rfl rfl) (Zr hS _ hk hx _ (Nat.le_refl _)) (jo hJ hx)
    exact Zl rfl
    exact oX rfl fun hx hl => Zm rfl (hl.D 0 27 rfl rfl) hx
    exact oX rfl fun hx hl => Zn ZO rfl (hl.D 10 37 rfl rfl) hx
    exact Zl rfl
    case e7_1_0 => exact ⟨_, rfl, rfl, rfl, rfl, fun _ _ w hk hx hl _ => Zs (YQ (f := itC) ys ([(ZY f L (ge t k))]) (fun _ => rfl) XW hJ hJ0 rfl hk hx (hl.D 4 31 rfl rfl).lit (hl.D 8 35 rfl rfl) (by first | omega | (simp; omega) | grind [Zc]) (by first | omega | (simp; omega) | grind [Zc])) fun v w' hp => ⟨v, rfl, fun k' hk' => absurd hk' (Nat.not_lt_zero _), fun _ => rfl, hp⟩⟩
    case e7_1_1 => exact ⟨_, rfl, rfl, rfl, rfl, fun g _ w hk hx hl hs => Zs (X9 (off := 12) (cs := (mkR d f M wv vs vt n kn y1 y2)) (es := (mkR d f M g vs vt n kn y1 y2)) (c := .lit g) hJ hJ0 Xs rfl hk hx (hl.D 11 38 rfl rfl) (by rw [(hs 0 9 _ 36 (by omega) rfl rfl rfl)]; exact Rel.of_lit _ (Xz (hx.2.1 _ (mo 0 rfl)))) (lb rfl) rfl) fun v w' hp => ⟨g, rfl, fun _ _ => rfl, fun e => (by cases e), hp⟩⟩
    clear a w h
    intro v3
    dsimp only [List.map]
    refine nx (YW tb hJ [0,1,2,1001] [.int (k + 1 : Nat),_] [0] [_,_,_,_] rfl ⟨Yv, trivial⟩ ?_)
    refine kw pm2 ?_
    refine kw pm1 ?_
    refine kw pm2 ?_
    exact Xp (k + 1, ys ++ [ZY f L (ge t k)], v3) [0,1,2,3] ⟨by omega, by rw [XT hb3, f1_2]⟩
   ·
    try simp at hb3
    refine ZA (nx (Zi (outAk ?_)))
    exact fun a w h => lvP (XV  ⟨(wv, ys), by first | (rw [f1_2, ZJ (by omega)]; exact Zeo hb1 (by omega)) | exact Zid (ys := ys) hb1 z4.2 hb4 r1_ h9 (by omega)⟩ rfl h rfl)
 ·
  try simp at hb1
  refine Zf (nxA ?_)
  refine Zbj (m := 5) ?_
  refine Zz (snK 1 tb rfl ?_)
  refine XK (O := []) (R := (OB.var b (mkR d f M vi vs vt n kn y1 y2) :: OB.row vi 89 4 (([] : List Itm).map itC) :: OB.mI M L :: R)) (ZqU hJ (l := t) (by first | omega | (simp; omega) | grind [Zc]) (by first | omega | (simp; omega) | grind [Zc]) (by first | omega | (simp; omega) | grind [Zc])) Zr9 rfl rfl rfl (lb rfl) hS hJ0 Zt (fun a w h => (Za (h.get 0 rfl) Ze)) (fun k5 => ?_) fun z4 => ?_
  ·
   refine Zlu ?_
   exact fun a w h => pnP (⟨(k5.1, vi, ([] : List Itm)), by show Yy f L t = Except.error k5.1; rw [k5.2.2]; exact ZqI hb1 k5.2.1⟩ : {q : Int × Value × List Itm // Yy f L t = .error q.1}) rfl a w h
  refine snK 3 tb rfl ?_
  refine ZW Zkp hJ rfl rfl rfl (lb rfl) fun b6 => ?_
  refine ZI (b := b6) (off := 0) (cs := [Zb ([] : List ByteArray)]) (es := [Zb z4.1.1]) hJ hJ0 ZfU rfl rfl rfl (lb rfl) rfl (fun a w h => ⟨(h.get 0 rfl), (h.get 2 rfl)⟩) ?_
  refine snK 1 tb rfl ?_
  refine kw (fun h => Yx hS h (m := 1) (s := 6) rfl) ?_
  refine seK [0,1,3,8] [_,_,_,_] rfl ?_
  refine nxA ?_
  refine lnA 2 fun hl2 => ?_
  refine Zbj (m := 5) ?_
  refine YW tb hJ [0,1,3,1001] [.fn 76 [.ptr [.lit (.pointer (some ⟨b, 0, none⟩))]],_] [0] [_,_,_,_] rfl ⟨fun _ _ _ hx hl _ => Y6 (caps := [(Go.Operand.tmp 2)]) rfl (Za (hl.env 3 2 _ rfl rfl) Ze) hx, trivial⟩ ?_
  refine nxA ?_
  refine Zbj (m := 5) ?_
  refine ZN tb hJ [0,1,2,1006] [_,.bool (Zc1 z4.1.1),_,_,_,.bool (z4.1.1.any (fun s' => f.hyps.any fun h' => decide (h'.label = s'))),_] [1,5] [_,_,_,_] rfl ⟨iFo hS hJ (ZqO hJ (l := z4.1.1) ) Zr6, fun _ _ hk hx hl hc => YV (YC hJ (xs := z4.1.1) (f := 76) (caps := [.ptr [.lit (.pointer (some ⟨b, 0, none⟩))]]) (Os := [OB.var b (mkR d f M vi vs vt n kn y1 y2)]) (p := (fun s' => f.hyps.any fun h' => decide (h'.label = s'))) (fun q' => ZqS hJ b d f M vi vs vt n kn y1 y2 q') (Zr8)) Zbv rfl (Zr hS _ hk hx) (hx.1) (ZG (Zd hx (mo 0 rfl)) Zt) (Za (hl.D 3 49 rfl hc) (Za (hl.D 4 50 rfl hc) Ze)) (jo hJ hx), trivial⟩ ?_
  refine cj 3 (fun hb4 => ?_) fun hb4 => ?_
  ·
   refine Zz (XK (O := []) (R := (OB.var b (mkR d f M vi vs vt n kn y1 y2) :: OB.row vi 89 4 (([] : List Itm).map itC) :: OB.mI M L :: R)) (Qb hJ (c := (20 : Int)) ) Xh rfl rfl rfl (lb rfl) hS hJ0 Zt (fun a w h => (Za (Rel.of_lit (Go.Value.int Go.IntKind.i64 20)) Ze)) (fun _ => ?_) (fun i => i.elim))
   refine Zlu ?_
   exact fun a w h => pnP (⟨(20, vi, ([] : List Itm)), Zns hb1 z4.2 hb4⟩ : {q : Int × Value × List Itm // Yy f L t = .error q.1}) rfl a w h
  ·
   refine Zf (nxA ?_)
   refine Zbj (m := 5) ?_
   refine Zz (snK 1 tb rfl ?_)
   refine sq (.at b 0) rfl rfl (lb rfl) (fun _ _ h => Zm rfl (h.get 0 rfl) h.x) ?_
   refine sq (.at b 3) rfl rfl (lb rfl) (fun _ _ h => Zn Qo rfl (h.get 0 rfl) h.x) ?_
   refine sq (.at b 5) rfl rfl (lb rfl) (fun _ _ h => Zn Qp rfl (h.get 0 rfl) h.x) ?_
   refine sq (.rd (Z4 f.hyps)) rfl rfl (lb rfl) (fun _ _ h => Zq (cs := (mkR d f M vi vs vt n kn y1 y2)) Zcq rfl (Zd h.x (mo 0 rfl)) (h.get 0 rfl) rfl h.x) ?_
   refine sq (.int (f.hyps.length : Nat)) rfl rfl (lb rfl) (fun _ _ h => Zbg ZF rfl (h.get 0 rfl) h.x) ?_
   refine ZW ZhZ hJ rfl rfl rfl (lb rfl) fun b9 => ?_
   refine ZW ZhZ hJ rfl rfl rfl (lb rfl) fun b10 => ?_
   refine kw pm1 ?_
   refine ZI (b := b9) (off := 0) (cs := [.lit (.int .i64 0)]) (es := [.lit (.int .i64 (f.hyps.length : Int))]) hJ hJ0 QE rfl rfl rfl (lb rfl) rfl (fun a w h => ⟨(h.get 1 rfl), (h.get 2 rfl)⟩) ?_
   refine kw pm1 ?_
   refine ZI (b := b10) (off := 0) (cs := [.lit (.int .i64 0)]) (es := [.lit (.int .i64 (0 : Int))]) hJ hJ0 QE rfl rfl rfl (lb rfl) rfl (fun a w h => ⟨(h.get 0 rfl), (Rel.of_lit (Go.Value.int Go.IntKind.i64 0))⟩) ?_
   refine kw pm1 ?_
   refine kw (fun h => Yx hS h (m := 1) (s := 9) rfl) ?_
   refine seK [0,1,3,8,9,10] [_,_,_,_,_,_] rfl ?_
   refine nxA ?_
   refine lnA 2 fun hl3 => ?_
   refine a_seq ?_
   refine Zbj (m := 5) ?_
   refine YW tb hJ [0,1,3,5,1001] [_,.fn 112 [.ptr [.lit (.string z4.1.2)]]] [1] [_,_,_,_,_] rfl ⟨iFo hS hJ (Zlm hJ (s := z4.1.2) ) Zr5, trivial⟩ ?_
   refine nxA ?_
   refine ZmR ?_
   refine atw (fun h => Xf (p := (Yn f L z4.1.1 ([] : List Lt) 0 = some ([] : List Itm)) ∧ (0 = tgN ([] : List Lt)) ∧ (([] : List Itm).length = ([] : List Lt).length)) (⟨rfl, rfl, rfl⟩) h) ?_
   refine Zk1 (m := 5) (κ := Value × (List Itm) × Nat) (μ := {q : Int × Value × List Itm // Yy f L t = .error q.1}) (σ := Empty) (ZjC hJ z4.1.2 (by first | omega | (have := Zeu z4.2; omega))) Zo8 hJ hS hJ0 Zt (fun pre (wv, ys, tg) => [OB.fct ((Yn f L z4.1.1 pre 0 = some ys) ∧ (tg = tgN pre) ∧ (ys.length = pre.length)), OB.var b10 [.lit (.int .i64 (tg : Int))], OB.var b (mkR d f M wv vs vt n kn y1 y2), OB.row wv 89 4 (ys.map itC), OB.mI M L]) (fun q' : {q : Int × Value × List Itm // Yy f L t = .error q.1} => flV q'.1.1) (fun q' => [OB.var b (mkC d f [.lit (.map (some M)), .lit (q'.1.2.1), .lit vs, .lit vt, .lit (.int .i64 (n : Int)), .lit (.bool kn), .lit (.int .i64 y1), .lit (.int .i64 y2)]), OB.row q'.1.2.1 89 4 ((q'.1.2.2).map itC), OB.mI M L]) (fun s' => []) (vi, ([] : List Itm), 0) (fun x9 => .agg (ltC x9)) (fun x9 => [(11, .ptr (ltC x9)), (9, .ptr [.lit (.int .i64 (f.hyps.length : Int))]), (10, .at b10 0), (6, .ptr [Zb z4.1.1]), (2, .ptr [.lit (.pointer (some ⟨b, 0, none⟩))])]) (lb rfl) Tryz.func49 (fun _ _ _ _ => ZqG) ?_ ?_ ?_ ?_ ?_ ?_ ?_
   · exact fun a w h => ZkW (h.get 4 rfl)
   ·
    rintro m9 l9 R' pre x9 ⟨wv, ys, tg⟩ K9 hK9
    refine Zz (XZ (cs := ltC x9) Zkm rfl rfl rfl (lb rfl) rfl rfl rfl (by decide) (m := 0) rfl rfl (fun a w h => Zr hS _ h.keep h.x _ (Nat.le_refl _)) (fun a w h w' hk' => Yl hJ _ _ hk' h.x) ?_)
    refine seK [0,2,3,4,5] [_,_,_,_,_] rfl ?_
    exact hK9
   ·
    rintro m9 l9 R' pre x9 ⟨wv, ys, tg⟩ hpre
    refine Zpx fun hF => ?_
    obtain ⟨r1_, r2_, r3_⟩ := hF
    have e0 := Zbi _ _ 0 false (Nat.le_refl _) (Int.le_refl _) x9 (Zk9 hpre).1
    have e1 := Zeu z4.2
    have e2 := Zht _ z4.1.2.data.toList 0 false (Nat.le_refl _)
    have e3 : pre.length < z4.1.2.size := Nat.lt_of_lt_of_le (Zk9 hpre).2 e2
    have e4 : tg ≤ pre.length := by rw [r2_]; exact List.length_filter_le _ _
    refine Zg (tsq ?_)
    refine ZW Zaw hJ rfl rfl rfl (lb rfl) fun b11 => ?_
    refine seK [0,1,2,3,4,5] [_,_,_,_,_,_] rfl ?_
    refine nx (Zo (qso tb hJ [0,1,2,3,4,5,1002] [_,_,_] [_,_,_,_,_,_,_] ?_))
    refine Zg (qso tb hJ [0,1,2,3,4,5,6,1002] [_,_,_] [_,_,_,_,_,_,_,_] ?_)
    refine cj 7 (fun hb5 => ?_) fun hb5 => ?_
    ·
     try simp at hb5
     have e9 := item_0 (f := f) (L := L) (lb := z4.1.1) (tg := tg) hb5
     refine Zz (sq (.agg (itC (⟨(0 : Int), [], 0, false⟩ : Itm))) rfl rfl (lb rfl) (fun a _ h => YD (ps := [(0, a.eval (Go.Operand.const (Go.Value.int Go.IntKind.i64 0)))]) (us := [a.eval (Go.Operand.const (Go.Value.int Go.IntKind.i64 0)), .slice none 0 0, .int .i64 0, .bool false]) Qw rfl (by simp) (Zec (lb rfl) rfl ZfG) rfl (Zk (Rel.of_lit (Go.Value.int Go.IntKind.i64 0)) (YL (.nil _ _ (Nat.zero_le _)) (YL (.lit _ True.intro) (YL (.lit _ True.intro) ZK)))) h.x) ?_)
     refine ZE (b := b11) (off := 0) (cs := [.lit (.int .i64 0), Zb ([] : List ByteArray), .lit (.int .i64 0), .lit (.bool false)]) (es := [.lit (.int .i64 (0 : Int)), Zb ([] : List ByteArray), .lit (.int .i64 (0 : Int)), .lit (.bool false)]) (news := [.lit (.int .i64 (0 : Int)), Zb ([] : List ByteArray), .lit (.int .i64 (0 : Int)), .lit (.bool false)]) hJ hJ0 XL rfl rfl rfl (lb rfl) rfl (fun a w h => ⟨(h.get 1 rfl), (h.get 0 rfl)⟩) ?_
     refine seK [1,2,3,4,5,6] [_,_,_,_,_,_] rfl ?_
     refine nx (Zo (tsq ?_))
     refine snK 2 tb rfl ?_
     refine sq (.at b11 3) rfl rfl (lb rfl) (fun _ _ h => Zn Xl rfl (h.get 2 rfl) h.x) ?_
     refine ZI (b := b11) (off := 3) (cs := [.lit (.int .i64 (0 : Int)), Zb ([] : List ByteArray), .lit (.int .i64 (0 : Int)), .lit (.bool false)]) (es := [.lit (.int .i64 (0 : Int)), Zb ([] : List ByteArray), .lit (.int .i64 (0 : Int)), .lit (.bool x9.tagged)]) hJ hJ0 QD rfl rfl rfl (lb rfl) rfl (fun a w h => ⟨(h.get 0 rfl), (h.get 1 rfl)⟩) ?_
     refine seK [3,5,6,7,8] [_,_,_,_,_] rfl ?_
     refine nx (ZN tb hJ [0,1,2,3,4,1001] [.at b11 3,.bool x9.tagged] [0,1] [_,_,_,_,_,_] rfl ⟨fun _ _ _ hx hl _ => Zn Xl rfl (hl.env 0 12 _ rfl rfl) hx, fun _ _ _ hx hl _ => Zq (cs := [.lit (.int .i64 (0 : Int)), Zb ([] : List ByteArray), .lit (.int .i64 (0 : Int)), .lit (.bool x9.tagged)]) Zgj rfl (Zd hx (mo 0 rfl)) (hl.D 0 121 rfl rfl) rfl hx, trivial⟩ ?_)
     refine cj 5 (fun hb9 => ?_) fun hb9 => ?_
     ·
      try simp at hb9
      refine Zz (sq (.int (tg : Nat)) rfl rfl (lb rfl) (fun _ _ h => Zq (cs := [.lit (.int .i64 (tg : Int))]) Zbq rfl (Zd h.x (mo 1 rfl)) (h.get 2 rfl) rfl h.x) ?_)
      refine sq (.int (tg + 1 : Nat)) rfl rfl (lb rfl) (fun _ _ h => Zf6 (i := (tg : Int)) (j := (1 : Int)) rfl (h.get 0 rfl) (Rel.of_lit (Go.Value.int Go.IntKind.i64 1)) (by first | omega | (simp; omega) | grind [Zc]) (by first | omega | (simp; omega) | grind [Zc]) h.x) ?_
      refine kw pm1 ?_
      refine ZI (b := b10) (off := 0) (cs := [.lit (.int .i64 (tg : Int))]) (es := [.lit (.int .i64 ((tg + 1 : Nat) : Int))]) hJ hJ0 QE rfl rfl rfl (lb rfl) rfl (fun a w h => ⟨(h.get 4 rfl), (h.get 0 rfl)⟩) ?_
      refine seK [2,3,4,5,6] [_,_,_,_,_] rfl ?_
      refine nx (tw pm2 ?_)
      refine tw pm3 ?_
      refine fun a w h => YT (OB.var b (mkR d f M wv vs vt n kn y1 y2) :: OB.var b10 [.lit (.int .i64 ((tg + 1 : Nat) : Int))] :: OB.var b11 [.lit (.int .i64 (0 : Int)), Zb ([] : List ByteArray), .lit (.int .i64 (0 : Int)), .lit (.bool x9.tagged)] :: OB.mI M L :: R') (γ := Value) (fun ix' => ([.at b 0, .at b 0, .at b 0, .at b 12, .lit wv, .agg (itC (⟨(0 : Int), ([] : List ByteArray), (0 : Int), x9.tagged⟩ : Itm)), .rd (XC ([(⟨(0 : Int), ([] : List ByteArray), (0 : Int), x9.tagged⟩ : Itm)])), .any, .at b 0, .at b 12, .any] : List AV).getD ix' .any) (fun _ => true) [(9, fun (g : Value) => .ptr [.lit (.int .i64 (f.hyps.length : Int))]), (10, fun (g : Value) => .at b10 0), (6, fun (g : Value) => .ptr [Zb z4.1.1]), (2, fun (g : Value) => .ptr [.lit (.pointer (some ⟨b, 0, none⟩))])] (fun (j' : Nat) (g : Value) => match j' with | 0 => (OB.row wv 89 4 (ys.map itC) :: OB.var b (mkR d f M wv vs vt n kn y1 y2) :: OB.var b10 [.lit (.int .i64 ((tg + 1 : Nat) : Int))] :: OB.var b11 [.lit (.int .i64 (0 : Int)), Zb ([] : List ByteArray), .lit (.int .i64 (0 : Int)), .lit (.bool x9.tagged)] :: OB.mI M L :: R') | 1 => (OB.row g 89 4 ((ys ++ ([(⟨(0 : Int), ([] : List ByteArray), (0 : Int), x9.tagged⟩ : Itm)])).map itC) :: OB.var b (mkR d f M wv vs vt n kn y1 y2) :: OB.var b10 [.lit (.int .i64 ((tg + 1 : Nat) : Int))] :: OB.var b11 [.lit (.int .i64 (0 : Int)), Zb ([] : List ByteArray), .lit (.int .i64 (0 : Int)), .lit (.bool x9.tagged)] :: OB.mI M L :: R') | _ => (OB.row g 89 4 ((ys ++ ([(⟨(0 : Int), ([] : List ByteArray), (0 : Int), x9.tagged⟩ : Itm)])).map itC) :: OB.var b (mkR d f M g vs vt n kn y1 y2) :: OB.var b10 [.lit (.int .i64 ((tg + 1 : Nat) : Int))] :: OB.var b11 [.lit (.int .i64 (0 : Int)), Zb ([] : List ByteArray), .lit (.int .i64 (0 : Int)), .lit (.bool x9.tagged)] :: OB.mI M L :: R')) (fun (k' : Nat) (g : Value) => match k' with | 0 => g | 1 => undef | _ => undef) [7, 10] 1 (.slice none 0 0) (fun _ => rfl) h hJ Ye rfl rfl rfl rfl rfl rfl (fun j' g hj p hp => by rcases j' with _ | _ | _ | j' <;> first | exact hp | exact List.mem_cons_of_mem _ hp | exact List.mem_cons_of_mem _ (List.mem_cons_of_mem _ hp) | (exfalso; omega)) ⟨?_, ⟨?_, ⟨?_, ⟨?_, ⟨?_, ⟨?_, ⟨?_, ⟨?_, ⟨?_, ⟨?_, ⟨?_, trivial⟩⟩⟩⟩⟩⟩⟩⟩⟩⟩⟩ ⟨?e30_2_0, ⟨?e30_2_1, trivial⟩⟩ ⟨.old 1 9 _ rfl rfl, ⟨.old 2 10 _ rfl rfl, ⟨.old 3 6 _ rfl rfl, ⟨.old 4 2 _ rfl rfl, trivial⟩⟩⟩⟩ ?n30_2
      exact oX rfl fun hx hl => Zy Yb rfl (hl.env 4 2 _ rfl rfl) hx
      exact oX rfl fun hx hl => Zy Yb rfl (hl.env 4 2 _ rfl rfl) hx
      exact oX rfl fun hx hl => Zm rfl (hl.D 1 126 rfl rfl) hx
      exact oX rfl fun hx hl => Zn ZO rfl (hl.D 2 127 rfl rfl) hx
      exact fun _ O' hO' => ⟨rfl, fun _ _ _ hx hl _ => Zq (cs := (mkR d f M wv vs vt n kn y1 y2)) Zal rfl (Zd hx (hO' _ (mo 0 rfl))) (hl.D 3 128 rfl rfl) rfl hx⟩
      exact fun _ O' hO' => ⟨rfl, fun _ _ _ hx hl _ => Yd (cs := [.lit (.int .i64 (0 : Int)), Zb ([] : List ByteArray), .lit (.int .i64 (0 : Int)), .lit (.bool x9.tagged)]) (ds := [.lit (.int .i64 (0 : Int)), Zb ([] : List ByteArray), .lit (.int .i64 (0 : Int)), .lit (.bool x9.tagged)]) Xc rfl (Zd hx (hO' _ (mo 2 rfl))) (hl.env 0 12 _ rfl rfl) rfl rfl hx⟩
      exact oY rfl fun hk hx hl => Xu Yw Zab rfl rfl (hl.D 5 130 rfl rfl) (Zr hS _ hk hx _ (Nat.le_refl _)) (jo hJ hx)
      exact Zl rfl
      exact oX rfl fun hx hl => Zm rfl (hl.D 0 125 rfl rfl) hx
      exact oX rfl fun hx hl => Zn ZO rfl (hl.D 8 133 rfl rfl) hx
      exact Zl rfl
      case e30_2_0 => exact ⟨_, rfl, rfl, rfl, rfl, fun _ _ w hk hx hl _ => Zs (YQ (f := itC) ys ([(⟨(0 : Int), ([] : List ByteArray), (0 : Int), x9.tagged⟩ : Itm)]) (fun _ => rfl) XW hJ hJ0 rfl hk hx (hl.D 4 129 rfl rfl).lit (hl.D 6 131 rfl rfl) (by first | omega | (simp; omega) | grind [Zc]) (by first | omega | (simp; omega) | grind [Zc])) fun v w' hp => ⟨v, rfl, fun k' hk' => absurd hk' (Nat.not_lt_zero _), fun _ => rfl, hp⟩⟩
      case e30_2_1 => exact ⟨_, rfl, rfl, rfl, rfl, fun g _ w hk hx hl hs => Zs (X9 (off := 12) (cs := (mkR d f M wv vs vt n kn y1 y2)) (es := (mkR d f M g vs vt n kn y1 y2)) (c := .lit g) hJ hJ0 Xs rfl hk hx (hl.D 9 134 rfl rfl) (by rw [(hs 0 7 _ 132 (by omega) rfl rfl rfl)]; exact Rel.of_lit _ (Xz (hx.2.1 _ (mo 0 rfl)))) (lb rfl) rfl) fun v w' hp => ⟨g, rfl, fun _ _ => rfl, fun e => (by cases e), hp⟩⟩
      clear a w h
      intro v12
      dsimp only [List.map]
      refine kw pm3 ?_
      refine kw ZB ?_
      refine kw pm3 ?_
      refine kw pm1 ?_
      refine kw pm2 ?_
      refine kw pm3 ?_
      refine kw (fun h => Xf (p := (Yn f L z4.1.1 (pre ++ [x9]) 0 = some (ys ++ ([(⟨(0 : Int), ([] : List ByteArray), (0 : Int), x9.tagged⟩ : Itm)]))) ∧ ((tg + 1) = tgN (pre ++ [x9])) ∧ ((ys ++ ([(⟨(0 : Int), ([] : List ByteArray), (0 : Int), x9.tagged⟩ : Itm)])).length = (pre ++ [x9]).length)) (⟨XI r1_ (by rw [← r2_]; exact e9), by rw [QB, r2_]; simp [hb9], by simp [r3_]⟩) h) ?_
      exact fun a w h => ⟨(v12, ys ++ ([(⟨(0 : Int), ([] : List ByteArray), (0 : Int), x9.tagged⟩ : Itm)]), tg + 1), h.keep, h.x⟩
     ·
      try simp at hb9
      refine Zf (nx (tw pm2 ?_))
      refine tw pm3 ?_
      refine fun a w h => YT (OB.var b (mkR d f M wv vs vt n kn y1 y2) :: OB.var b11 [.lit (.int .i64 (0 : Int)), Zb ([] : List ByteArray), .lit (.int .i64 (0 : Int)), .lit (.bool x9.tagged)] :: OB.var b10 [.lit (.int .i64 (tg : Int))] :: OB.mI M L :: R') (γ := Value) (fun ix' => ([.at b 0, .at b 0, .at b 0, .at b 12, .lit wv, .agg (itC (⟨(0 : Int), ([] : List ByteArray), (0 : Int), x9.tagged⟩ : Itm)), .rd (XC ([(⟨(0 : Int), ([] : List ByteArray), (0 : Int), x9.tagged⟩ : Itm)])), .any, .at b 0, .at b 12, .any] : List AV).getD ix' .any) (fun _ => true) [(9, fun (g : Value) => .ptr [.lit (.int .i64 (f.hyps.length : Int))]), (10, fun (g : Value) => .at b10 0), (6, fun (g : Value) => .ptr [Zb z4.1.1]), (2, fun (g : Value) => .ptr [.lit (.pointer (some ⟨b, 0, none⟩))])] (fun (j' : Nat) (g : Value) => match j' with | 0 => (OB.row wv 89 4 (ys.map itC) :: OB.var b (mkR d f M wv vs vt n kn y1 y2) :: OB.var b11 [.lit (.int .i64 (0 : Int)), Zb ([] : List ByteArray), .lit (.int .i64 (0 : Int)), .lit (.bool x9.tagged)] :: OB.var b10 [.lit (.int .i64 (tg : Int))] :: OB.mI M L :: R') | 1 => (OB.row g 89 4 ((ys ++ ([(⟨(0 : Int), ([] : List ByteArray), (0 : Int), x9.tagged⟩ : Itm)])).map itC) :: OB.var b (mkR d f M wv vs vt n kn y1 y2) :: OB.var b11 [.lit (.int .i64 (0 : Int)), Zb ([] : List ByteArray), .lit (.int .i64 (0 : Int)), .lit (.bool x9.tagged)] :: OB.var b10 [.lit (.int .i64 (tg : Int))] :: OB.mI M L :: R') | _ => (OB.row g 89 4 ((ys ++ ([(⟨(0 : Int), ([] : List ByteArray), (0 : Int), x9.tagged⟩ : Itm)])).map itC) :: OB.var b (mkR d f M g vs vt n kn y1 y2) :: OB.var b11 [.lit (.int .i64 (0 : Int)), Zb ([] : List ByteArray), .lit (.int .i64 (0 : Int)), .lit (.bool x9.tagged)] :: OB.var b10 [.lit (.int .i64 (tg : Int))] :: OB.mI M L :: R')) (fun (k' : Nat) (g : Value) => match k' with | 0 => g | 1 => undef | _ => undef) [7, 10] 1 (.slice none 0 0) (fun _ => rfl) h hJ Ye rfl rfl rfl rfl rfl rfl (fun j' g hj p hp => by rcases j' with _ | _ | _ | j' <;> first | exact hp | exact List.mem_cons_of_mem _ hp | exact List.mem_cons_of_mem _ (List.mem_cons_of_mem _ hp) | (exfalso; omega)) ⟨?_, ⟨?_, ⟨?_, ⟨?_, ⟨?_, ⟨?_, ⟨?_, ⟨?_, ⟨?_, ⟨?_, ⟨?_, trivial⟩⟩⟩⟩⟩⟩⟩⟩⟩⟩⟩ ⟨?e30_3_0, ⟨?e30_3_1, trivial⟩⟩ ⟨.old 1 9 _ rfl rfl, ⟨.old 2 10 _ rfl rfl, ⟨.old 3 6 _ rfl rfl, ⟨.old 4 2 _ rfl rfl, trivial⟩⟩⟩⟩ ?n30_3
      exact oX rfl fun hx hl => Zy Yb rfl (hl.env 4 2 _ rfl rfl) hx
      exact oX rfl fun hx hl => Zy Yb rfl (hl.env 4 2 _ rfl rfl) hx
      exact oX rfl fun hx hl => Zm rfl (hl.D 1 126 rfl rfl) hx
      exact oX rfl fun hx hl => Zn ZO rfl (hl.D 2 127 rfl rfl) hx
      exact fun _ O' hO' => ⟨rfl, fun _ _ _ hx hl _ => Zq (cs := (mkR d f M wv vs vt n kn y1 y2)) Zal rfl (Zd hx (hO' _ (mo 0 rfl))) (hl.D 3 128 rfl rfl) rfl hx⟩
      exact fun _ O' hO' => ⟨rfl, fun _ _ _ hx hl _ => Yd (cs := [.lit (.int .i64 (0 : Int)), Zb ([] : List ByteArray), .lit (.int .i64 (0 : Int)), .lit (.bool x9.tagged)]) (ds := [.lit (.int .i64 (0 : Int)), Zb ([] : List ByteArray), .lit (.int .i64 (0 : Int)), .lit (.bool x9.tagged)]) Xc rfl (Zd hx (hO' _ (mo 1 rfl))) (hl.env 0 12 _ rfl rfl) rfl rfl hx⟩
      exact oY rfl fun hk hx hl => Xu Yw Zab rfl rfl (hl.D 5 130 rfl rfl) (Zr hS _ hk hx _ (Nat.le_refl _)) (jo hJ hx)
      exact Zl rfl
      exact oX rfl fun hx hl => Zm rfl (hl.D 0 125 rfl rfl) hx
      exact oX rfl fun hx hl => Zn ZO rfl (hl.D 8 133 rfl rfl) hx
      exact Zl rfl
      case e30_3_0 => exact ⟨_, rfl, rfl, rfl, rfl, fun _ _ w hk hx hl _ => Zs (YQ (f := itC) ys ([(⟨(0 : Int), ([] : List ByteArray), (0 : Int), x9.tagged⟩ : Itm)]) (fun _ => rfl) XW hJ hJ0 rfl hk hx (hl.D 4 129 rfl rfl).lit (hl.D 6 131 rfl rfl) (by first | omega | (simp; omega) | grind [Zc]) (by first | omega | (simp; omega) | grind [Zc])) fun v w' hp => ⟨v, rfl, fun k' hk' => absurd hk' (Nat.not_lt_zero _), fun _ => rfl, hp⟩⟩
      case e30_3_1 => exact ⟨_, rfl, rfl, rfl, rfl, fun g _ w hk hx hl hs => Zs (X9 (off := 12) (cs := (mkR d f M wv vs vt n kn y1 y2)) (es := (mkR d f M g vs vt n kn y1 y2)) (c := .lit g) hJ hJ0 Xs rfl hk hx (hl.D 9 134 rfl rfl) (by rw [(hs 0 7 _ 132 (by omega) rfl rfl rfl)]; exact Rel.of_lit _ (Xz (hx.2.1 _ (mo 0 rfl)))) (lb rfl) rfl) fun v w' hp => ⟨g, rfl, fun _ _ => rfl, fun e => (by cases e), hp⟩⟩
      clear a w h
      intro v13
      dsimp only [List.map]
      refine kw pm2 ?_
      refine kw ZB ?_
      refine kw pm3 ?_
      refine kw pm1 ?_
      refine kw pm2 ?_
      refine kw pm3 ?_
      refine kw (fun h => Xf (p := (Yn f L z4.1.1 (pre ++ [x9]) 0 = some (ys ++ ([(⟨(0 : Int), ([] : List ByteArray), (0 : Int), x9.tagged⟩ : Itm)]))) ∧ (tg = tgN (pre ++ [x9])) ∧ ((ys ++ ([(⟨(0 : Int), ([] : List ByteArray), (0 : Int), x9.tagged⟩ : Itm)])).length = (pre ++ [x9]).length)) (⟨XI r1_ (by rw [← r2_]; exact e9), by rw [QB, r2_]; simp [hb9], by simp [r3_]⟩) h) ?_
      exact fun a w h => ⟨(v13, ys ++ ([(⟨(0 : Int), ([] : List ByteArray), (0 : Int), x9.tagged⟩ : Itm)]), tg), h.keep, h.x⟩
    ·
     try simp at hb5
     refine qso tb hJ [0,1,2,3,4,5,6,1003] [_,_,_,_] [_,_,_,_,_,_,_,_] ?_
     refine cj 7 (fun hb6 => ?_) fun hb6 => ?_
     ·
      try simp at hb6
      have e9 := item_1 (L := L) (lb := z4.1.1) (tg := tg) hb5 (by omega)
      refine Zz (snK 1 tb rfl ?_)
      refine sq (.at b 0) rfl rfl (lb rfl) (fun _ _ h => Zm rfl (h.get 0 rfl) h.x) ?_
      refine sq (.at b 3) rfl rfl (lb rfl) (fun _ _ h => Zn Qo rfl (h.get 0 rfl) h.x) ?_
      refine sq (.at b 5) rfl rfl (lb rfl) (fun _ _ h => Zn Qp rfl (h.get 0 rfl) h.x) ?_
      refine sq (.rd (Z4 f.hyps)) rfl rfl (lb rfl) (fun _ _ h => Zq (cs := (mkR d f M wv vs vt n kn y1 y2)) Zcq rfl (Zd h.x (mo 2 rfl)) (h.get 0 rfl) rfl h.x) ?_
      refine snK 1 tb rfl ?_
      refine sq (.int (x9.number - (1 : Int))) rfl rfl (lb rfl) (fun _ _ h => Zd6 (i := x9.number) (j := (1 : Int)) rfl (h.get 0 rfl) (Rel.of_lit (Go.Value.int Go.IntKind.i64 1)) (by first | omega | (simp; omega) | grind [Zc]) (by first | omega | (simp; omega) | grind [Zc]) h.x) ?_
      refine sq (.ptr (hyC (ge f.hyps (x9.number - (1 : Int)).toNat))) rfl rfl (lb rfl) (fun _ _ h => Yc (i := x9.number - (1 : Int)) ZH rfl (h.get 2 rfl) (h.get 0 rfl) (by first | omega | (simp; omega) | grind [Zc]) (ZeV (xs := f.hyps) (i := x9.number - (1 : Int)) (by first | omega | (simp; omega) | grind [Zc]) (by first | omega | (simp; omega) | grind [Zc])) rfl h.x) ?_
      refine snK 2 tb rfl ?_
      refine sq (.agg (itC (⟨(1 : Int), (ge f.hyps (x9.number - (1 : Int)).toNat).text, 0, false⟩ : Itm))) rfl rfl (lb rfl) (fun a _ h => YD (ps := [(0, a.eval (Go.Operand.const (Go.Value.int Go.IntKind.i64 1))), (1, a.eval (Go.Operand.tmp 83))]) (us := [a.eval (Go.Operand.const (Go.Value.int Go.IntKind.i64 1)), a.eval (Go.Operand.tmp 83), .int .i64 0, .bool false]) Qw rfl (by simp) (Zec (lb rfl) rfl (Zec (lb rfl) (Rel.oneC (h.get 0 rfl)) ZfG)) rfl (Zk (Rel.of_lit (Go.Value.int Go.IntKind.i64 1)) (Zk (h.get 0 rfl) (YL (.lit _ True.intro) (YL (.lit _ True.intro) ZK)))) h.x) ?_
      refine ZE (b := b11) (off := 0) (cs := [.lit (.int .i64 0), Zb ([] : List ByteArray), .lit (.int .i64 0), .lit (.bool false)]) (es := [.lit (.int .i64 (1 : Int)), Zb ((ge f.hyps (x9.number - (1 : Int)).toNat).text), .lit (.int .i64 (0 : Int)), .lit (.bool false)]) (news := [.lit (.int .i64 (1 : Int)), Zb ((ge f.hyps (x9.number - (1 : Int)).toNat).text), .lit (.int .i64 (0 : Int)), .lit (.bool false)]) hJ hJ0 XL rfl rfl rfl (lb rfl) rfl (fun a w h => ⟨(h.get 11 rfl), (h.get 0 rfl)⟩) ?_
      refine seK [1,11,12,13,14,15,16] [_,_,_,_,_,_,_] rfl ?_
      refine nx (ln 0 fun hl4 => ?_)
      refine Zo (tsq ?_)
      refine snK 2 tb rfl ?_
      refine sq (.at b11 3) rfl rfl (lb rfl) (fun _ _ h => Zn Xl rfl (h.get 3 rfl) h.x) ?_
      refine ZI (b := b11) (off := 3) (cs := [.lit (.int .i64 (1 : Int)), Zb ((ge f.hyps (x9.number - (1 : Int)).toNat).text), .lit (.int .i64 (0 : Int)), .lit (.bool false)]) (es := [.lit (.int .i64 (1 : Int)), Zb ((ge f.hyps (x9.number - (1 : Int)).toNat).text), .lit (.int .i64 (0 : Int)), .lit (.bool x9.tagged)]) hJ hJ0 QD rfl rfl rfl (lb rfl) rfl (fun a w h => ⟨(h.get 0 rfl), (h.get 1 rfl)⟩) ?_
      refine seK [4,6,7,8,9] [_,_,_,_,_] rfl ?_
      refine nx (ZN tb hJ [0,1,2,3,4,1001] [.at b11 3,.bool x9.tagged] [0,1] [_,_,_,_,_,_] rfl ⟨fun _ _ _ hx hl _ => Zn Xl rfl (hl.env 0 12 _ rfl rfl) hx, fun _ _ _ hx hl _ => Zq (cs := [.lit (.int .i64 (1 : Int)), Zb ((ge f.hyps (x9.number - (1 : Int)).toNat).text), .lit (.int .i64 (0 : Int)), .lit (.bool x9.tagged)]) Zgj rfl (Zd hx (mo 0 rfl)) (hl.D 0 121 rfl rfl) rfl hx, trivial⟩ ?_)
      refine cj 5 (fun hb9 => ?_) fun hb9 => ?_
      ·
       try simp at hb9
       refine Zz (sq (.int (tg : Nat)) rfl rfl (lb rfl) (fun _ _ h => Zq (cs := [.lit (.int .i64 (tg : Int))]) Zbq rfl (Zd h.x (mo 1 rfl)) (h.get 2 rfl) rfl h.x) ?_)
       refine sq (.int (tg + 1 : Nat)) rfl rfl (lb rfl) (fun _ _ h => Zf6 (i := (tg : Int)) (j := (1 : Int)) rfl (h.get 0 rfl) (Rel.of_lit (Go.Value.int Go.IntKind.i64 1)) (by first | omega | (simp; omega) | grind [Zc]) (by first | omega | (simp; omega) | grind [Zc]) h.x) ?_
       refine kw pm1 ?_
       refine ZI (b := b10) (off := 0) (cs := [.lit (.int .i64 (tg : Int))]) (es := [.lit (.int .i64 ((tg + 1 : Nat) : Int))]) hJ hJ0 QE rfl rfl rfl (lb rfl) rfl (fun a w h => ⟨(h.get 4 rfl), (h.get 0 rfl)⟩) ?_
       refine seK [2,3,4,5,6] [_,_,_,_,_] rfl ?_
       refine nx (tw pm2 ?_)
       refine tw pm3 ?_
       refine fun a w h => YT (OB.var b (mkR d f M wv vs vt n kn y1 y2) :: OB.var b10 [.lit (.int .i64 ((tg + 1 : Nat) : Int))] :: OB.var b11 [.lit (.int .i64 (1 : Int)), Zb ((ge f.hyps (x9.number - (1 : Int)).toNat).text), .lit (.int .i64 (0 : Int)), .lit (.bool x9.tagged)] :: OB.mI M L :: R') (γ := Value) (fun ix' => ([.at b 0, .at b 0, .at b 0, .at b 12, .lit wv, .agg (itC (⟨(1 : Int), (ge f.hyps (x9.number - (1 : Int)).toNat).text, (0 : Int), x9.tagged⟩ : Itm)), .rd (XC ([(⟨(1 : Int), (ge f.hyps (x9.number - (1 : Int)).toNat).text, (0 : Int), x9.tagged⟩ : Itm)])), .any, .at b 0, .at b 12, .any] : List AV).getD ix' .any) (fun _ => true) [(9, fun (g : Value) => .ptr [.lit (.int .i64 (f.hyps.length : Int))]), (10, fun (g : Value) => .at b10 0), (6, fun (g : Value) => .ptr [Zb z4.1.1]), (2, fun (g : Value) => .ptr [.lit (.pointer (some ⟨b, 0, none⟩))])] (fun (j' : Nat) (g : Value) => match j' with | 0 => (OB.row wv 89 4 (ys.map itC) :: OB.var b (mkR d f M wv vs vt n kn y1 y2) :: OB.var b10 [.lit (.int .i64 ((tg + 1 : Nat) : Int))] :: OB.var b11 [.lit (.int .i64 (1 : Int)), Zb ((ge f.hyps (x9.number - (1 : Int)).toNat).text), .lit (.int .i64 (0 : Int)), .lit (.bool x9.tagged)] :: OB.mI M L :: R') | 1 => (OB.row g 89 4 ((ys ++ ([(⟨(1 : Int), (ge f.hyps (x9.number - (1 : Int)).toNat).text, (0 : Int), x9.tagged⟩ : Itm)])).map itC) :: OB.var b (mkR d f M wv vs vt n kn y1 y2) :: OB.var b10 [.lit (.int .i64 ((tg + 1 : Nat) : Int))] :: OB.var b11 [.lit (.int .i64 (1 : Int)), Zb ((ge f.hyps (x9.number - (1 : Int)).toNat).text), .lit (.int .i64 (0 : Int)), .lit (.bool x9.tagged)] :: OB.mI M L :: R') | _ => (OB.row g 89 4 ((ys ++ ([(⟨(1 : Int), (ge f.hyps (x9.number - (1 : Int)).toNat).text, (0 : Int), x9.tagged⟩ : Itm)])).map itC) :: OB.var b (mkR d f M g vs vt n kn y1 y2) :: OB.var b10 [.lit (.int .i64 ((tg + 1 : Nat) : Int))] :: OB.var b11 [.lit (.int .i64 (1 : Int)), Zb ((ge f.hyps (x9.number - (1 : Int)).toNat).text), .lit (.int .i64 (0 : Int)), .lit (.bool x9.tagged)] :: OB.mI M L :: R')) (fun (k' : Nat) (g : Value) => match k' with | 0 => g | 1 => undef | _ => undef) [7, 10] 1 (.slice none 0 0) (fun _ => rfl) h hJ Ye rfl rfl rfl rfl rfl rfl (fun j' g hj p hp => by rcases j' with _ | _ | _ | j' <;> first | exact hp | exact List.mem_cons_of_mem _ hp | exact List.mem_cons_of_mem _ (List.mem_cons_of_mem _ hp) | (exfalso; omega)) ⟨?_, ⟨?_, ⟨?_, ⟨?_, ⟨?_, ⟨?_, ⟨?_, ⟨?_, ⟨?_, ⟨?_, ⟨?_, trivial⟩⟩⟩⟩⟩⟩⟩⟩⟩⟩⟩ ⟨?e30_4_0, ⟨?e30_4_1, trivial⟩⟩ ⟨.old 1 9 _ rfl rfl, ⟨.old 2 10 _ rfl rfl, ⟨.old 3 6 _ rfl rfl, ⟨.old 4 2 _ rfl rfl, trivial⟩⟩⟩⟩ ?n30_4
       exact oX rfl fun hx hl => Zy Yb rfl (hl.env 4 2 _ rfl rfl) hx
       exact oX rfl fun hx hl => Zy Yb rfl (hl.env 4 2 _ rfl rfl) hx
       exact oX rfl fun hx hl => Zm rfl (hl.D 1 126 rfl rfl) hx
       exact oX rfl fun hx hl => Zn ZO rfl (hl.D 2 127 rfl rfl) hx
       exact fun _ O' hO' => ⟨rfl, fun _ _ _ hx hl _ => Zq (cs := (mkR d f M wv vs vt n kn y1 y2)) Zal rfl (Zd hx (hO' _ (mo 0 rfl))) (hl.D 3 128 rfl rfl) rfl hx⟩
       exact fun _ O' hO' => ⟨rfl, fun _ _ _ hx hl _ => Yd (cs := [.lit (.int .i64 (1 : Int)), Zb ((ge f.hyps (x9.number - (1 : Int)).toNat).text), .lit (.int .i64 (0 : Int)), .lit (.bool x9.tagged)]) (ds := [.lit (.int .i64 (1 : Int)), Zb ((ge f.hyps (x9.number - (1 : Int)).toNat).text), .lit (.int .i64 (0 : Int)), .lit (.bool x9.tagged)]) Xc rfl (Zd hx (hO' _ (mo 2 rfl))) (hl.env 0 12 _ rfl rfl) rfl rfl hx⟩
       exact oY rfl fun hk hx hl => Xu Yw Zab rfl rfl (hl.D 5 130 rfl rfl) (Zr hS _ hk hx _ (Nat.le_refl _)) (jo hJ hx)
       exact Zl rfl
       exact oX rfl fun hx hl => Zm rfl (hl.D 0 125 rfl rfl) hx
       exact oX rfl fun hx hl => Zn ZO rfl (hl.D 8 133 rfl rfl) hx
       exact Zl rfl
       case e30_4_0 => exact ⟨_, rfl, rfl, rfl, rfl, fun _ _ w hk hx hl _ => Zs (YQ (f := itC) ys ([(⟨(1 : Int), (ge f.hyps (x9.number - (1 : Int)).toNat).text, (0 : Int), x9.tagged⟩ : Itm)]) (fun _ => rfl) XW hJ hJ0 rfl hk hx (hl.D 4 129 rfl rfl).lit (hl.D 6 131 rfl rfl) (by first | omega | (simp; omega) | grind [Zc]) (by first | omega | (simp; omega) | grind [Zc])) fun v w' hp => ⟨v, rfl, fun k' hk' => absurd hk' (Nat.not_lt_zero _), fun _ => rfl, hp⟩⟩
       case e30_4_1 => exact ⟨_, rfl, rfl, rfl, rfl, fun g _ w hk hx hl hs => Zs (X9 (off := 12) (cs := (mkR d f M wv vs vt n kn y1 y2)) (es := (mkR d f M g vs vt n kn y1 y2)) (c := .lit g) hJ hJ0 Xs rfl hk hx (hl.D 9 134 rfl rfl) (by rw [(hs 0 7 _ 132 (by omega) rfl rfl rfl)]; exact Rel.of_lit _ (Xz (hx.2.1 _ (mo 0 rfl)))) (lb rfl) rfl) fun v w' hp => ⟨g, rfl, fun _ _ => rfl, fun e => (by cases e), hp⟩⟩
       clear a w h
       intro v14
       dsimp only [List.map]
       refine kw pm3 ?_
       refine kw ZB ?_
       refine kw pm3 ?_
       refine kw pm1 ?_
       refine kw pm2 ?_
       refine kw pm3 ?_
       refine kw (fun h => Xf (p := (Yn f L z4.1.1 (pre ++ [x9]) 0 = some (ys ++ ([(⟨(1 : Int), (ge f.hyps (x9.number - (1 : Int)).toNat).text, (0 : Int), x9.tagged⟩ : Itm)]))) ∧ ((tg + 1) = tgN (pre ++ [x9])) ∧ ((ys ++ ([(⟨(1 : Int), (ge f.hyps (x9.number - (1 : Int)).toNat).text, (0 : Int), x9.tagged⟩ : Itm)])).length = (pre ++ [x9]).length)) (⟨XI r1_ (by rw [← r2_]; exact e9), by rw [QB, r2_]; simp [hb9], by simp [r3_]⟩) h) ?_
       exact fun a w h => ⟨(v14, ys ++ ([(⟨(1 : Int), (ge f.hyps (x9.number - (1 : Int)).toNat).text, (0 : Int), x9.tagged⟩ : Itm)]), tg + 1), h.keep, h.x⟩
      ·
       try simp at hb9
       refine Zf (nx (tw pm2 ?_))
       refine tw pm3 ?_
       refine fun a w h => YT (OB.var b (mkR d f M wv vs vt n kn y1 y2) :: OB.var b11 [.lit (.int .i64 (1 : Int)), Zb ((ge f.hyps (x9.number - (1 : Int)).toNat).text), .lit (.int .i64 (0 : Int)), .lit (.bool x9.tagged)] :: OB.var b10 [.lit (.int .i64 (tg : Int))] :: OB.mI M L :: R') (γ := Value) (fun ix' => ([.at b 0, .at b 0, .at b 0, .at b 12, .lit wv, .agg (itC (⟨(1 : Int), (ge f.hyps (x9.number - (1 : Int)).toNat).text, (0 : Int), x9.tagged⟩ : Itm)), .rd (XC ([(⟨(1 : Int), (ge f.hyps (x9.number - (1 : Int)).toNat).text, (0 : Int), x9.tagged⟩ : Itm)])), .any, .at b 0, .at b 12, .any] : List AV).getD ix' .any) (fun _ => true) [(9, fun (g : Value) => .ptr [.lit (.int .i64 (f.hyps.length : Int))]), (10, fun (g : Value) => .at b10 0), (6, fun (g : Value) => .ptr [Zb z4.1.1]), (2, fun (g : Value) => .ptr [.lit (.pointer (some ⟨b, 0, none⟩))])] (fun (j' : Nat) (g : Value) => match j' with | 0 => (OB.row wv 89 4 (ys.map itC) :: OB.var b (mkR d f M wv vs vt n kn y1 y2) :: OB.var b11 [.lit (.int .i64 (1 : Int)), Zb ((ge f.hyps (x9.number - (1 : Int)).toNat).text), .lit (.int .i64 (0 : Int)), .lit (.bool x9.tagged)] :: OB.var b10 [.lit (.int .i64 (tg : Int))] :: OB.mI M L :: R') | 1 => (OB.row g 89 4 ((ys ++ ([(⟨(1 : Int), (ge f.hyps (x9.number - (1 : Int)).toNat).text, (0 : Int), x9.tagged⟩ : Itm)])).map itC) :: OB.var b (mkR d f M wv vs vt n kn y1 y2) :: OB.var b11 [.lit (.int .i64 (1 : Int)), Zb ((ge f.hyps (x9.number - (1 : Int)).toNat).text), .lit (.int .i64 (0 : Int)), .lit (.bool x9.tagged)] :: OB.var b10 [.lit (.int .i64 (tg : Int))] :: OB.mI M L :: R') | _ => (OB.row g 89 4 ((ys ++ ([(⟨(1 : Int), (ge f.hyps (x9.number - (1 : Int)).toNat).text, (0 : Int), x9.tagged⟩ : Itm)])).map itC) :: OB.var b (mkR d f M g vs vt n kn y1 y2) :: OB.var b11 [.lit (.int .i64 (1 : Int)), Zb ((ge f.hyps (x9.number - (1 : Int)).toNat).text), .lit (.int .i64 (0 : Int)), .lit (.bool x9.tagged)] :: OB.var b10 [.lit (.int .i64 (tg : Int))] :: OB.mI M L :: R')) (fun (k' : Nat) (g : Value) => match k' with | 0 => g | 1 => undef | _ => undef) [7, 10] 1 (.slice none 0 0) (fun _ => rfl) h hJ Ye rfl rfl rfl rfl rfl rfl (fun j' g hj p hp => by rcases j' with _ | _ | _ | j' <;> first | exact hp | exact List.mem_cons_of_mem _ hp | exact List.mem_cons_of_mem _ (List.mem_cons_of_mem _ hp) | (exfalso; omega)) ⟨?_, ⟨?_, ⟨?_, ⟨?_, ⟨?_, ⟨?_, ⟨?_, ⟨?_, ⟨?_, ⟨?_, ⟨?_, trivial⟩⟩⟩⟩⟩⟩⟩⟩⟩⟩⟩ ⟨?e30_5_0, ⟨?e30_5_1, trivial⟩⟩ ⟨.old 1 9 _ rfl rfl, ⟨.old 2 10 _ rfl rfl, ⟨.old 3 6 _ rfl rfl, ⟨.old 4 2 _ rfl rfl, trivial⟩⟩⟩⟩ ?n30_5
       exact oX rfl fun hx hl => Zy Yb rfl (hl.env 4 2 _ rfl rfl) hx
       exact oX rfl fun hx hl => Zy Yb rfl (hl.env 4 2 _ rfl rfl) hx
       exact oX rfl fun hx hl => Zm rfl (hl.D 1 126 rfl rfl) hx
       exact oX rfl fun hx hl => Zn ZO rfl (hl.D 2 127 rfl rfl) hx
       exact fun _ O' hO' => ⟨rfl, fun _ _ _ hx hl _ => Zq (cs := (mkR d f M wv vs vt n kn y1 y2)) Zal rfl (Zd hx (hO' _ (mo 0 rfl))) (hl.D 3 128 rfl rfl) rfl hx⟩
       exact fun _ O' hO' => ⟨rfl, fun _ _ _ hx hl _ => Yd (cs := [.lit (.int .i64 (1 : Int)), Zb ((ge f.hyps (x9.number - (1 : Int)).toNat).text), .lit (.int .i64 (0 : Int)), .lit (.bool x9.tagged)]) (ds := [.lit (.int .i64 (1 : Int)), Zb ((ge f.hyps (x9.number - (1 : Int)).toNat).text), .lit (.int .i64 (0 : Int)), .lit (.bool x9.tagged)]) Xc rfl (Zd hx (hO' _ (mo 1 rfl))) (hl.env 0 12 _ rfl rfl) rfl rfl hx⟩
       exact oY rfl fun hk hx hl => Xu Yw Zab rfl rfl (hl.D 5 130 rfl rfl) (Zr hS _ hk hx _ (Nat.le_refl _)) (jo hJ hx)
       exact Zl rfl
       exact oX rfl fun hx hl => Zm rfl (hl.D 0 125 rfl rfl) hx
       exact oX rfl fun hx hl => Zn ZO rfl (hl.D 8 133 rfl rfl) hx
       exact Zl rfl
       case e30_5_0 => exact ⟨_, rfl, rfl, rfl, rfl, fun _ _ w hk hx hl _ => Zs (YQ (f := itC) ys ([(⟨(1 : Int), (ge f.hyps (x9.number - (1 : Int)).toNat).text, (0 : Int), x9.tagged⟩ : Itm)]) (fun _ => rfl) XW hJ hJ0 rfl hk hx (hl.D 4 129 rfl rfl).lit (hl.D 6 131 rfl rfl) (by first | omega | (simp; omega) | grind [Zc]) (by first | omega | (simp; omega) | grind [Zc])) fun v w' hp => ⟨v, rfl, fun k' hk' => absurd hk' (Nat.not_lt_zero _), fun _ => rfl, hp⟩⟩
       case e30_5_1 => exact ⟨_, rfl, rfl, rfl, rfl, fun g _ w hk hx hl hs => Zs (X9 (off := 12) (cs := (mkR d f M wv vs vt n kn y1 y2)) (es := (mkR d f M g vs vt n kn y1 y2)) (c := .lit g) hJ hJ0 Xs rfl hk hx (hl.D 9 134 rfl rfl) (by rw [(hs 0 7 _ 132 (by omega) rfl rfl rfl)]; exact Rel.of_lit _ (Xz (hx.2.1 _ (mo 0 rfl)))) (lb rfl) rfl) fun v w' hp => ⟨g, rfl, fun _ _ => rfl, fun e => (by cases e), hp⟩⟩
       clear a w h
       intro v15
       dsimp only [List.map]
       refine kw pm2 ?_
       refine kw ZB ?_
       refine kw pm3 ?_
       refine kw pm1 ?_
       refine kw pm2 ?_
       refine kw pm3 ?_
       refine kw (fun h => Xf (p := (Yn f L z4.1.1 (pre ++ [x9]) 0 = some (ys ++ ([(⟨(1 : Int), (ge f.hyps (x9.number - (1 : Int)).toNat).text, (0 : Int), x9.tagged⟩ : Itm)]))) ∧ (tg = tgN (pre ++ [x9])) ∧ ((ys ++ ([(⟨(1 : Int), (ge f.hyps (x9.number - (1 : Int)).toNat).text, (0 : Int), x9.tagged⟩ : Itm)])).length = (pre ++ [x9]).length)) (⟨XI r1_ (by rw [← r2_]; exact e9), by rw [QB, r2_]; simp [hb9], by simp [r3_]⟩) h) ?_
       exact fun a w h => ⟨(v15, ys ++ ([(⟨(1 : Int), (ge f.hyps (x9.number - (1 : Int)).toNat).text, (0 : Int), x9.tagged⟩ : Itm)]), tg), h.keep, h.x⟩
     ·
      try simp at hb6
      refine ZN tb hJ [0,1,2,3,4,5,6,1006] [_,_,_,.int (z4.1.1.length : Nat),.int (f.hyps.length + z4.1.1.length : Nat),_,_] [3,4] [_,_,_,_,_,_,_,_] rfl ⟨YE Zw, Yv, trivial⟩ ?_
      refine cj 7 (fun hb7 => ?_) fun hb7 => ?_
      ·
       try simp at hb7
       have e9 := item_2 (f := f) (L := L) (lb := z4.1.1) (tg := tg) hb5 (by omega) (by omega)
       refine fun a w h => YO (γ := Unit) (fun ix' => ([.at b 0, .rd (Zb z4.1.1), .int x9.number, .int (x9.number - (1 : Int)), .int (f.hyps.length : Nat), .int (x9.number - (1 : Int) - (f.hyps.length : Int)), .ptr [.lit (.string (ge z4.1.1 (x9.number - (1 : Int) - (f.hyps.length : Int)).toNat))], .str (ge z4.1.1 (x9.number - (1 : Int) - (f.hyps.length : Int)).toNat), .agg (itC (nmE f L z4.1.1 x9)), .any] : List AV).getD ix' .any) (fun _ => true) [(12, fun (g : Unit) => .at b11 0), (11, fun (g : Unit) => .ptr (ltC x9)), (9, fun (g : Unit) => .ptr [.lit (.int .i64 (f.hyps.length : Int))]), (10, fun (g : Unit) => .at b10 0), (6, fun (g : Unit) => .ptr [Zb z4.1.1]), (2, fun (g : Unit) => .ptr [.lit (.pointer (some ⟨b, 0, none⟩))])] (fun (j' : Nat) (g : Unit) => match j' with | 0 => (OB.var b11 [.lit (.int .i64 0), Zb ([] : List ByteArray), .lit (.int .i64 0), .lit (.bool false)] :: OB.var b10 [.lit (.int .i64 (tg : Int))] :: OB.var b (mkR d f M wv vs vt n kn y1 y2) :: OB.row wv 89 4 (ys.map itC) :: OB.mI M L :: R') | _ => (OB.var b11 [.lit (.int .i64 ((nmE f L z4.1.1 x9).kind)), Zb ((nmE f L z4.1.1 x9).text), .lit (.int .i64 ((nmE f L z4.1.1 x9).number)), .lit (.bool ((nmE f L z4.1.1 x9).tagged))] :: OB.var b10 [.lit (.int .i64 (tg : Int))] :: OB.var b (mkR d f M wv vs vt n kn y1 y2) :: OB.row wv 89 4 (ys.map itC) :: OB.mI M L :: R')) (fun (k' : Nat) (g : Unit) => match k' with | 0 => undef | _ => undef) [9] 0 () (fun _ => rfl) h hJ Ye rfl rfl rfl rfl rfl rfl (fun j' g hj p hp => by rcases j' with _ | _ | _ | j' <;> first | exact hp | exact List.mem_cons_of_mem _ hp | exact List.mem_cons_of_mem _ (List.mem_cons_of_mem _ hp) | (exfalso; omega)) ⟨?_, ⟨?_, ⟨?_, ⟨?_, ⟨?_, ⟨?_, ⟨?_, ⟨?_, ⟨?_, ⟨?_, trivial⟩⟩⟩⟩⟩⟩⟩⟩⟩⟩ ⟨?e24_6_0, trivial⟩ ⟨.old 0 12 _ rfl rfl, ⟨.old 1 11 _ rfl rfl, ⟨.old 2 9 _ rfl rfl, ⟨.old 3 10 _ rfl rfl, ⟨.old 4 6 _ rfl rfl, ⟨.old 5 2 _ rfl rfl, trivial⟩⟩⟩⟩⟩⟩ ?n24_6
       exact oX rfl fun hx hl => Zy Yb rfl (hl.env 5 2 _ rfl rfl) hx
       exact oX rfl fun hx hl => Zy X1 rfl (hl.env 4 6 _ rfl rfl) hx
       exact oX rfl fun hx hl => Ys rfl (hl.env 6 13 _ rfl rfl) hx
       exact oX rfl fun hx hl => Zd6 (i := x9.number) (j := (1 : Int)) rfl (hl.D 2 94 rfl rfl) (Rel.of_lit (Go.Value.int Go.IntKind.i64 1)) (by first | omega | (simp; omega) | grind [Zc]) (by first | omega | (simp; omega) | grind [Zc]) hx
       exact oX rfl fun hx hl => Zy Zbq rfl (hl.env 2 9 _ rfl rfl) hx
       exact oX rfl fun hx hl => Zd6 (i := x9.number - (1 : Int)) (j := (f.hyps.length : Int)) rfl (hl.D 3 95 rfl rfl) (hl.D 4 96 rfl rfl) (by first | omega | (simp; omega) | grind [Zc]) (by first | omega | (simp; omega) | grind [Zc]) hx
       exact oX rfl fun hx hl => Yc (i := x9.number - (1 : Int) - (f.hyps.length : Int)) Zh rfl (hl.D 1 93 rfl rfl) (hl.D 5 97 rfl rfl) (by first | omega | (simp; omega) | grind [Zc]) (ZeV (xs := z4.1.1) (i := x9.number - (1 : Int) - (f.hyps.length : Int)) (by first | omega | (simp; omega) | grind [Zc]) (by first | omega | (simp; omega) | grind [Zc])) rfl hx
       exact oX rfl fun hx hl => Zy Qf rfl (hl.D 6 98 rfl rfl) hx
       exact fun _ O' hO' => ⟨rfl, fun _ _ hk hx hl _ => YV (Zlk hJ (b := b) (d := d) (f := f) (M := M) (L := L) (vi := wv) (vs := vs) (vt := vt) (n := n) (kn := kn) (y1 := y1) (y2 := y2) (s := (ge z4.1.1 (x9.number - (1 : Int) - (f.hyps.length : Int)).toNat)) (by first | omega | (simp; omega) | grind [Zc])) ZmD rfl (Zr hS _ hk hx) (hx.1) (ZG (Zd hx (hO' _ (mo 2 rfl))) (ZG (Zd hx (hO' _ (mo 4 rfl))) Zt)) (Za (hl.D 0 92 rfl rfl) (Za (hl.D 7 99 rfl rfl) Ze)) (jo hJ hx)⟩
       exact Zl rfl
       case e24_6_0 => exact ⟨_, rfl, rfl, rfl, rfl, fun g _ w hk hx hl _ => (by obtain ⟨us2, hv2, hr3⟩ := Zaf (cs := [.lit (.int .i64 ((nmE f L z4.1.1 x9).kind)), Zb ((nmE f L z4.1.1 x9).text), .lit (.int .i64 ((nmE f L z4.1.1 x9).number)), .lit (.bool ((nmE f L z4.1.1 x9).tagged))]) (hl.D 8 100 rfl rfl); exact Zs (Xm (off := 0) (cs := [.lit (.int .i64 0), Zb ([] : List ByteArray), .lit (.int .i64 0), .lit (.bool false)]) (news := [.lit (.int .i64 ((nmE f L z4.1.1 x9).kind)), Zb ((nmE f L z4.1.1 x9).text), .lit (.int .i64 ((nmE f L z4.1.1 x9).number)), .lit (.bool ((nmE f L z4.1.1 x9).tagged))]) (es := [.lit (.int .i64 ((nmE f L z4.1.1 x9).kind)), Zb ((nmE f L z4.1.1 x9).text), .lit (.int .i64 ((nmE f L z4.1.1 x9).number)), .lit (.bool ((nmE f L z4.1.1 x9).tagged))]) (us := us2) hJ hJ0 XL rfl hk hx (hl.env 0 12 _ rfl rfl) (by rw [hv2]; rfl) hr3 (lb rfl) rfl) fun v w' hp => ⟨g, rfl, fun _ _ => rfl, fun e => (by cases e), hp⟩)⟩
       clear a w h
       intro _
       dsimp only [List.map]
       refine nx (Zo (tsq ?_))
       refine snK 2 tb rfl ?_
       refine sq (.at b11 3) rfl rfl (lb rfl) (fun _ _ h => Zn Xl rfl (h.get 2 rfl) h.x) ?_
       refine ZI (b := b11) (off := 3) (cs := [.lit (.int .i64 ((nmE f L z4.1.1 x9).kind)), Zb ((nmE f L z4.1.1 x9).text), .lit (.int .i64 ((nmE f L z4.1.1 x9).number)), .lit (.bool ((nmE f L z4.1.1 x9).tagged))]) (es := [.lit (.int .i64 ((nmE f L z4.1.1 x9).kind)), Zb ((nmE f L z4.1.1 x9).text), .lit (.int .i64 ((nmE f L z4.1.1 x9).number)), .lit (.bool x9.tagged)]) hJ hJ0 QD rfl rfl rfl (lb rfl) rfl (fun a w h => ⟨(h.get 0 rfl), (h.get 1 rfl)⟩) ?_
       refine seK [3,5,6,7,8] [_,_,_,_,_] rfl ?_
       refine nx (ZN tb hJ [0,1,2,3,4,1001] [.at b11 3,.bool x9.tagged] [0,1] [_,_,_,_,_,_] rfl ⟨fun _ _ _ hx hl _ => Zn Xl rfl (hl.env 0 12 _ rfl rfl) hx, fun _ _ _ hx hl _ => Zq (cs := [.lit (.int .i64 ((nmE f L z4.1.1 x9).kind)), Zb ((nmE f L z4.1.1 x9).text), .lit (.int .i64 ((nmE f L z4.1.1 x9).number)), .lit (.bool x9.tagged)]) Zgj rfl (Zd hx (mo 0 rfl)) (hl.D 0 121 rfl rfl) rfl hx, trivial⟩ ?_)
       refine cj 5 (fun hb9 => ?_) fun hb9 => ?_
       ·
        try simp at hb9
        refine Zz (sq (.int (tg : Nat)) rfl rfl (lb rfl) (fun _ _ h => Zq (cs := [.lit (.int .i64 (tg : Int))]) Zbq rfl (Zd h.x (mo 1 rfl)) (h.get 2 rfl) rfl h.x) ?_)
        refine sq (.int (tg + 1 : Nat)) rfl rfl (lb rfl) (fun _ _ h => Zf6 (i := (tg : Int)) (j := (1 : Int)) rfl (h.get 0 rfl) (Rel.of_lit (Go.Value.int Go.IntKind.i64 1)) (by first | omega | (simp; omega) | grind [Zc]) (by first | omega | (simp; omega) | grind [Zc]) h.x) ?_
        refine kw pm1 ?_
        refine ZI (b := b10) (off := 0) (cs := [.lit (.int .i64 (tg : Int))]) (es := [.lit (.int .i64 ((tg + 1 : Nat) : Int))]) hJ hJ0 QE rfl rfl rfl (lb rfl) rfl (fun a w h => ⟨(h.get 4 rfl), (h.get 0 rfl)⟩) ?_
        refine seK [2,3,4,5,6] [_,_,_,_,_] rfl ?_
        refine nx (tw pm2 ?_)
        refine tw pm3 ?_
        refine fun a w h => YT (OB.var b (mkR d f M wv vs vt n kn y1 y2) :: OB.var b10 [.lit (.int .i64 ((tg + 1 : Nat) : Int))] :: OB.var b11 [.lit (.int .i64 ((nmE f L z4.1.1 x9).kind)), Zb ((nmE f L z4.1.1 x9).text), .lit (.int .i64 ((nmE f L z4.1.1 x9).number)), .lit (.bool x9.tagged)] :: OB.mI M L :: R') (γ := Value) (fun ix' => ([.at b 0, .at b 0, .at b 0, .at b 12, .lit wv, .agg (itC (⟨(nmE f L z4.1.1 x9).kind, (nmE f L z4.1.1 x9).text, (nmE f L z4.1.1 x9).number, x9.tagged⟩ : Itm)), .rd (XC ([(⟨(nmE f L z4.1.1 x9).kind, (nmE f L z4.1.1 x9).text, (nmE f L z4.1.1 x9).number, x9.tagged⟩ : Itm)])), .any, .at b 0, .at b 12, .any] : List AV).getD ix' .any) (fun _ => true) [(9, fun (g : Value) => .ptr [.lit (.int .i64 (f.hyps.length : Int))]), (10, fun (g : Value) => .at b10 0), (6, fun (g : Value) => .ptr [Zb z4.1.1]), (2, fun (g : Value) => .ptr [.lit (.pointer (some ⟨b, 0, none⟩))])] (fun (j' : Nat) (g : Value) => match j' with | 0 => (OB.row wv 89 4 (ys.map itC) :: OB.var b (mkR d f M wv vs vt n kn y1 y2) :: OB.var b10 [.lit (.int .i64 ((tg + 1 : Nat) : Int))] :: OB.var b11 [.lit (.int .i64 ((nmE f L z4.1.1 x9).kind)), Zb ((nmE f L z4.1.1 x9).text), .lit (.int .i64 ((nmE f L z4.1.1 x9).number)), .lit (.bool x9.tagged)] :: OB.mI M L :: R') | 1 => (OB.row g 89 4 ((ys ++ ([(⟨(nmE f L z4.1.1 x9).kind, (nmE f L z4.1.1 x9).text, (nmE f L z4.1.1 x9).number, x9.tagged⟩ : Itm)])).map itC) :: OB.var b (mkR d f M wv vs vt n kn y1 y2) :: OB.var b10 [.lit (.int .i64 ((tg + 1 : Nat) : Int))] :: OB.var b11 [.lit (.int .i64 ((nmE f L z4.1.1 x9).kind)), Zb ((nmE f L z4.1.1 x9).text), .lit (.int .i64 ((nmE f L z4.1.1 x9).number)), .lit (.bool x9.tagged)] :: OB.mI M L :: R') | _ => (OB.row g 89 4 ((ys ++ ([(⟨(nmE f L z4.1.1 x9).kind, (nmE f L z4.1.1 x9).text, (nmE f L z4.1.1 x9).number, x9.tagged⟩ : Itm)])).map itC) :: OB.var b (mkR d f M g vs vt n kn y1 y2) :: OB.var b10 [.lit (.int .i64 ((tg + 1 : Nat) : Int))] :: OB.var b11 [.lit (.int .i64 ((nmE f L z4.1.1 x9).kind)), Zb ((nmE f L z4.1.1 x9).text), .lit (.int .i64 ((nmE f L z4.1.1 x9).number)), .lit (.bool x9.tagged)] :: OB.mI M L :: R')) (fun (k' : Nat) (g : Value) => match k' with | 0 => g | 1 => undef | _ => undef) [7, 10] 1 (.slice none 0 0) (fun _ => rfl) h hJ Ye rfl rfl rfl rfl rfl rfl (fun j' g hj p hp => by rcases j' with _ | _ | _ | j' <;> first | exact hp | exact List.mem_cons_of_mem _ hp | exact List.mem_cons_of_mem _ (List.mem_cons_of_mem _ hp) | (exfalso; omega)) ⟨?_, ⟨?_, ⟨?_, ⟨?_, ⟨?_, ⟨?_, ⟨?_, ⟨?_, ⟨?_, ⟨?_, ⟨?_, trivial⟩⟩⟩⟩⟩⟩⟩⟩⟩⟩⟩ ⟨?e30_7_0, ⟨?e30_7_1, trivial⟩⟩ ⟨.old 1 9 _ rfl rfl, ⟨.old 2 10 _ rfl rfl, ⟨.old 3 6 _ rfl rfl, ⟨.old 4 2 _ rfl rfl, trivial⟩⟩⟩⟩ ?n30_7
        exact oX rfl fun hx hl => Zy Yb rfl (hl.env 4 2 _ rfl rfl) hx
        exact oX rfl fun hx hl => Zy Yb rfl (hl.env 4 2 _ rfl rfl) hx
        exact oX rfl fun hx hl => Zm rfl (hl.D 1 126 rfl rfl) hx
        exact oX rfl fun hx hl => Zn ZO rfl (hl.D 2 127 rfl rfl) hx
        exact fun _ O' hO' => ⟨rfl, fun _ _ _ hx hl _ => Zq (cs := (mkR d f M wv vs vt n kn y1 y2)) Zal rfl (Zd hx (hO' _ (mo 0 rfl))) (hl.D 3 128 rfl rfl) rfl hx⟩
        exact fun _ O' hO' => ⟨rfl, fun _ _ _ hx hl _ => Yd (cs := [.lit (.int .i64 ((nmE f L z4.1.1 x9).kind)), Zb ((nmE f L z4.1.1 x9).text), .lit (.int .i64 ((nmE f L z4.1.1 x9).number)), .lit (.bool x9.tagged)]) (ds := [.lit (.int .i64 ((nmE f L z4.1.1 x9).kind)), Zb ((nmE f L z4.1.1 x9).text), .lit (.int .i64 ((nmE f L z4.1.1 x9).number)), .lit (.bool x9.tagged)]) Xc rfl (Zd hx (hO' _ (mo 2 rfl))) (hl.env 0 12 _ rfl rfl) rfl rfl hx⟩
        exact oY rfl fun hk hx hl => Xu Yw Zab rfl rfl (hl.D 5 130 rfl rfl) (Zr hS _ hk hx _ (Nat.le_refl _)) (jo hJ hx)
        exact Zl rfl
        exact oX rfl fun hx hl => Zm rfl (hl.D 0 125 rfl rfl) hx
        exact oX rfl fun hx hl => Zn ZO rfl (hl.D 8 133 rfl rfl) hx
        exact Zl rfl
        case e30_7_0 => exact ⟨_, rfl, rfl, rfl, rfl, fun _ _ w hk hx hl _ => Zs (YQ (f := itC) ys ([(⟨(nmE f L z4.1.1 x9).kind, (nmE f L z4.1.1 x9).text, (nmE f L z4.1.1 x9).number, x9.tagged⟩ : Itm)]) (fun _ => rfl) XW hJ hJ0 rfl hk hx (hl.D 4 129 rfl rfl).lit (hl.D 6 131 rfl rfl) (by first | omega | (simp; omega) | grind [Zc]) (by first | omega | (simp; omega) | grind [Zc])) fun v w' hp => ⟨v, rfl, fun k' hk' => absurd hk' (Nat.not_lt_zero _), fun _ => rfl, hp⟩⟩
        case e30_7_1 => exact ⟨_, rfl, rfl, rfl, rfl, fun g _ w hk hx hl hs => Zs (X9 (off := 12) (cs := (mkR d f M wv vs vt n kn y1 y2)) (es := (mkR d f M g vs vt n kn y1 y2)) (c := .lit g) hJ hJ0 Xs rfl hk hx (hl.D 9 134 rfl rfl) (by rw [(hs 0 7 _ 132 (by omega) rfl rfl rfl)]; exact Rel.of_lit _ (Xz (hx.2.1 _ (mo 0 rfl)))) (lb rfl) rfl) fun v w' hp => ⟨g, rfl, fun _ _ => rfl, fun e => (by cases e), hp⟩⟩
        clear a w h
        intro v16
        dsimp only [List.map]
        refine kw pm3 ?_
        refine kw ZB ?_
        refine kw pm3 ?_
        refine kw pm1 ?_
        refine kw pm2 ?_
        refine kw pm3 ?_
        refine kw (fun h => Xf (p := (Yn f L z4.1.1 (pre ++ [x9]) 0 = some (ys ++ ([(⟨(nmE f L z4.1.1 x9).kind, (nmE f L z4.1.1 x9).text, (nmE f L z4.1.1 x9).number, x9.tagged⟩ : Itm)]))) ∧ ((tg + 1) = tgN (pre ++ [x9])) ∧ ((ys ++ ([(⟨(nmE f L z4.1.1 x9).kind, (nmE f L z4.1.1 x9).text, (nmE f L z4.1.1 x9).number, x9.tagged⟩ : Itm)])).length = (pre ++ [x9]).length)) (⟨XI r1_ (by rw [← r2_]; exact e9), by rw [QB, r2_]; simp [hb9], by simp [r3_]⟩) h) ?_
        exact fun a w h => ⟨(v16, ys ++ ([(⟨(nmE f L z4.1.1 x9).kind, (nmE f L z4.1.1 x9).text, (nmE f L z4.1.1 x9).number, x9.tagged⟩ : Itm)]), tg + 1), h.keep, h.x⟩
       ·
        try simp at hb9
        refine Zf (nx (tw pm2 ?_))
        refine tw pm3 ?_
        refine fun a w h => YT (OB.var b (mkR d f M wv vs vt n kn y1 y2) :: OB.var b11 [.lit (.int .i64 ((nmE f L z4.1.1 x9).kind)), Zb ((nmE f L z4.1.1 x9).text), .lit (.int .i64 ((nmE f L z4.1.1 x9).number)), .lit (.bool x9.tagged)] :: OB.var b10 [.lit (.int .i64 (tg : Int))] :: OB.mI M L :: R') (γ := Value) (fun ix' => ([.at b 0, .at b 0, .at b 0, .at b 12, .lit wv, .agg (itC (⟨(nmE f L z4.1.1 x9).kind, (nmE f L z4.1.1 x9).text, (nmE f L z4.1.1 x9).number, x9.tagged⟩ : Itm)), .rd (XC ([(⟨(nmE f L z4.1.1 x9).kind, (nmE f L z4.1.1 x9).text, (nmE f L z4.1.1 x9).number, x9.tagged⟩ : Itm)])), .any, .at b 0, .at b 12, .any] : List AV).getD ix' .any) (fun _ => true) [(9, fun (g : Value) => .ptr [.lit (.int .i64 (f.hyps.length : Int))]), (10, fun (g : Value) => .at b10 0), (6, fun (g : Value) => .ptr [Zb z4.1.1]), (2, fun (g : Value) => .ptr [.lit (.pointer (some ⟨b, 0, none⟩))])] (fun (j' : Nat) (g : Value) => match j' with | 0 => (OB.row wv 89 4 (ys.map itC) :: OB.var b (mkR d f M wv vs vt n kn y1 y2) :: OB.var b11 [.lit (.int .i64 ((nmE f L z4.1.1 x9).kind)), Zb ((nmE f L z4.1.1 x9).text), .lit (.int .i64 ((nmE f L z4.1.1 x9).number)), .lit (.bool x9.tagged)] :: OB.var b10 [.lit (.int .i64 (tg : Int))] :: OB.mI M L :: R') | 1 => (OB.row g 89 4 ((ys ++ ([(⟨(nmE f L z4.1.1 x9).kind, (nmE f L z4.1.1 x9).text, (nmE f L z4.1.1 x9).number, x9.tagged⟩ : Itm)])).map itC) :: OB.var b (mkR d f M wv vs vt n kn y1 y2) :: OB.var b11 [.lit (.int .i64 ((nmE f L z4.1.1 x9).kind)), Zb ((nmE f L z4.1.1 x9).text), .lit (.int .i64 ((nmE f L z4.1.1 x9).number)), .lit (.bool x9.tagged)] :: OB.var b10 [.lit (.int .i64 (tg : Int))] :: OB.mI M L :: R') | _ => (OB.row g 89 4 ((ys ++ ([(⟨(nmE f L z4.1.1 x9).kind, (nmE f L z4.1.1 x9).text, (nmE f L z4.1.1 x9).number, x9.tagged⟩ : Itm)])).map itC) :: OB.var b (mkR d f M g vs vt n kn y1 y2) :: OB.var b11 [.lit (.int .i64 ((nmE f L z4.1.1 x9).kind)), Zb ((nmE f L z4.1.1 x9).text), .lit (.int .i64 ((nmE f L z4.1.1 x9).number)), .lit (.bool x9.tagged)] :: OB.var b10 [.lit (.int .i64 (tg : Int))] :: OB.mI M L :: R')) (fun (k' : Nat) (g : Value) => match k' with | 0 => g | 1 => undef | _ => undef) [7, 10] 1 (.slice none 0 0) (fun _ => rfl) h hJ Ye rfl rfl rfl rfl rfl rfl (fun j' g hj p hp => by rcases j' with _ | _ | _ | j' <;> first | exact hp | exact List.mem_cons_of_mem _ hp | exact List.mem_cons_of_mem _ (List.mem_cons_of_mem _ hp) | (exfalso; omega)) ⟨?_, ⟨?_, ⟨?_, ⟨?_, ⟨?_, ⟨?_, ⟨?_, ⟨?_, ⟨?_, ⟨?_, ⟨?_, trivial⟩⟩⟩⟩⟩⟩⟩⟩⟩⟩⟩ ⟨?e30_8_0, ⟨?e30_8_1, trivial⟩⟩ ⟨.old 1 9 _ rfl rfl, ⟨.old 2 10 _ rfl rfl, ⟨.old 3 6 _ rfl rfl, ⟨.old 4 2 _ rfl rfl, trivial⟩⟩⟩⟩ ?n30_8
        exact oX rfl fun hx hl => Zy Yb rfl (hl.env 4 2 _ rfl rfl) hx
        exact oX rfl fun hx hl => Zy Yb rfl (hl.env 4 2 _ rfl rfl) hx
        exact oX rfl fun hx hl => Zm rfl (hl.D 1 126 rfl rfl) hx
        exact oX rfl fun hx hl => Zn ZO rfl (hl.D 2 127 rfl rfl) hx
        exact fun _ O' hO' => ⟨rfl, fun _ _ _ hx hl _ => Zq (cs := (mkR d f M wv vs vt n kn y1 y2)) Zal rfl (Zd hx (hO' _ (mo 0 rfl))) (hl.D 3 128 rfl rfl) rfl hx⟩
        exact fun _ O' hO' => ⟨rfl, fun _ _ _ hx hl _ => Yd (cs := [.lit (.int .i64 ((nmE f L z4.1.1 x9).kind)), Zb ((nmE f L z4.1.1 x9).text), .lit (.int .i64 ((nmE f L z4.1.1 x9).number)), .lit (.bool x9.tagged)]) (ds := [.lit (.int .i64 ((nmE f L z4.1.1 x9).kind)), Zb ((nmE f L z4.1.1 x9).text), .lit (.int .i64 ((nmE f L z4.1.1 x9).number)), .lit (.bool x9.tagged)]) Xc rfl (Zd hx (hO' _ (mo 1 rfl))) (hl.env 0 12 _ rfl rfl) rfl rfl hx⟩
        exact oY rfl fun hk hx hl => Xu Yw Zab rfl rfl (hl.D 5 130 rfl rfl) (Zr hS _ hk hx _ (Nat.le_refl _)) (jo hJ hx)
        exact Zl rfl
        exact oX rfl fun hx hl => Zm rfl (hl.D 0 125 rfl rfl) hx
        exact oX rfl fun hx hl => Zn ZO rfl (hl.D 8 133 rfl rfl) hx
        exact Zl rfl
        case e30_8_0 => exact ⟨_, rfl, rfl, rfl, rfl, fun _ _ w hk hx hl _ => Zs (YQ (f := itC) ys ([(⟨(nmE f L z4.1.1 x9).kind, (nmE f L z4.1.1 x9).text, (nmE f L z4.1.1 x9).number, x9.tagged⟩ : Itm)]) (fun _ => rfl) XW hJ hJ0 rfl hk hx (hl.D 4 129 rfl rfl).lit (hl.D 6 131 rfl rfl) (by first | omega | (simp; omega) | grind [Zc]) (by first | omega | (simp; omega) | grind [Zc])) fun v w' hp => ⟨v, rfl, fun k' hk' => absurd hk' (Nat.not_lt_zero _), fun _ => rfl, hp⟩⟩
        case e30_8_1 => exact ⟨_, rfl, rfl, rfl, rfl, fun g _ w hk hx hl hs => Zs (X9 (off := 12) (cs := (mkR d f M wv vs vt n kn y1 y2)) (es := (mkR d f M g vs vt n kn y1 y2)) (c := .lit g) hJ hJ0 Xs rfl hk hx (hl.D 9 134 rfl rfl) (by rw [(hs 0 7 _ 132 (by omega) rfl rfl rfl)]; exact Rel.of_lit _ (Xz (hx.2.1 _ (mo 0 rfl)))) (lb rfl) rfl) fun v w' hp => ⟨g, rfl, fun _ _ => rfl, fun e => (by cases e), hp⟩⟩
        clear a w h
        intro v17
        dsimp only [List.map]
        refine kw pm2 ?_
        refine kw ZB ?_
        refine kw pm3 ?_
        refine kw pm1 ?_
        refine kw pm2 ?_
        refine kw pm3 ?_
        refine kw (fun h => Xf (p := (Yn f L z4.1.1 (pre ++ [x9]) 0 = some (ys ++ ([(⟨(nmE f L z4.1.1 x9).kind, (nmE f L z4.1.1 x9).text, (nmE f L z4.1.1 x9).number, x9.tagged⟩ : Itm)]))) ∧ (tg = tgN (pre ++ [x9])) ∧ ((ys ++ ([(⟨(nmE f L z4.1.1 x9).kind, (nmE f L z4.1.1 x9).text, (nmE f L z4.1.1 x9).number, x9.tagged⟩ : Itm)])).length = (pre ++ [x9]).length)) (⟨XI r1_ (by rw [← r2_]; exact e9), by rw [QB, r2_]; simp [hb9], by simp [r3_]⟩) h) ?_
        exact fun a w h => ⟨(v17, ys ++ ([(⟨(nmE f L z4.1.1 x9).kind, (nmE f L z4.1.1 x9).text, (nmE f L z4.1.1 x9).number, x9.tagged⟩ : Itm)]), tg), h.keep, h.x⟩
      ·
       try simp at hb7
       refine ZN tb hJ [0,1,2,3,4,5,6,1008] [_,_,_,.int (z4.1.1.length : Nat),.int (f.hyps.length + z4.1.1.length : Nat),.int (tg : Nat),.int (f.hyps.length + z4.1.1.length + tg : Nat),_,_] [3,4,5,6] [_,_,_,_,_,_,_,_] rfl ⟨YE Zw, Yv, fun _ _ _ hx hl _ => Zq (cs := [.lit (.int .i64 (tg : Int))]) Zbq rfl (Zd hx (mo 1 rfl)) (hl.env 3 10 _ rfl rfl) rfl hx, Yv, trivial⟩ ?_
       refine cj 7 (fun hb8 => ?_) fun hb8 => ?_
       ·
        try simp at hb8
        have e9 := item_4 (f := f) (L := L) (lb := z4.1.1) (tg := tg) hb5 (by omega) (by omega) (by omega)
        refine Zz (snK 1 tb rfl ?_)
        refine sq (.int (x9.number - (1 : Int))) rfl rfl (lb rfl) (fun _ _ h => Zd6 (i := x9.number) (j := (1 : Int)) rfl (h.get 0 rfl) (Rel.of_lit (Go.Value.int Go.IntKind.i64 1)) (by first | omega | (simp; omega) | grind [Zc]) (by first | omega | (simp; omega) | grind [Zc]) h.x) ?_
        refine snK 1 tb rfl ?_
        refine sq (.int (x9.number - (1 : Int) - (f.hyps.length : Int))) rfl rfl (lb rfl) (fun _ _ h => Zd6 (i := x9.number - (1 : Int)) (j := (f.hyps.length : Int)) rfl (h.get 1 rfl) (h.get 0 rfl) (by first | omega | (simp; omega) | grind [Zc]) (by first | omega | (simp; omega) | grind [Zc]) h.x) ?_
        refine snK 1 tb rfl ?_
        refine sq (.int (z4.1.1.length : Nat)) rfl rfl (lb rfl) (fun _ _ h => Zbg Zw rfl (h.get 0 rfl) h.x) ?_
        refine sq (.int (x9.number - (1 : Int) - (f.hyps.length : Int) - (z4.1.1.length : Int))) rfl rfl (lb rfl) (fun _ _ h => Zd6 (i := x9.number - (1 : Int) - (f.hyps.length : Int)) (j := (z4.1.1.length : Int)) rfl (h.get 2 rfl) (h.get 0 rfl) (by first | omega | (simp; omega) | grind [Zc]) (by first | omega | (simp; omega) | grind [Zc]) h.x) ?_
        refine sq (.agg (itC (⟨(4 : Int), [], x9.number - (1 : Int) - (f.hyps.length : Int) - (z4.1.1.length : Int), false⟩ : Itm))) rfl rfl (lb rfl) (fun a _ h => YD (ps := [(0, a.eval (Go.Operand.const (Go.Value.int Go.IntKind.i64 4))), (2, a.eval (Go.Operand.tmp 116))]) (us := [a.eval (Go.Operand.const (Go.Value.int Go.IntKind.i64 4)), .slice none 0 0, a.eval (Go.Operand.tmp 116), .bool false]) Qw rfl (by simp) (Zec (lb rfl) rfl (Zec (lb rfl) (Rel.oneC (h.get 0 rfl)) ZfG)) rfl (Zk (Rel.of_lit (Go.Value.int Go.IntKind.i64 4)) (YL (.nil _ _ (Nat.zero_le _)) (Zk (h.get 0 rfl) (YL (.lit _ True.intro) ZK)))) h.x) ?_
        refine ZE (b := b11) (off := 0) (cs := [.lit (.int .i64 0), Zb ([] : List ByteArray), .lit (.int .i64 0), .lit (.bool false)]) (es := [.lit (.int .i64 (4 : Int)), Zb ([] : List ByteArray), .lit (.int .i64 (x9.number - (1 : Int) - (f.hyps.length : Int) - (z4.1.1.length : Int))), .lit (.bool false)]) (news := [.lit (.int .i64 (4 : Int)), Zb ([] : List ByteArray), .lit (.int .i64 (x9.number - (1 : Int) - (f.hyps.length : Int) - (z4.1.1.length : Int))), .lit (.bool false)]) hJ hJ0 XL rfl rfl rfl (lb rfl) rfl (fun a w h => ⟨(h.get 8 rfl), (h.get 0 rfl)⟩) ?_
        refine seK [8,9,10,11,12,13] [_,_,_,_,_,_] rfl ?_
        refine nx (Zo (tsq ?_))
        refine snK 2 tb rfl ?_
        refine sq (.at b11 3) rfl rfl (lb rfl) (fun _ _ h => Zn Xl rfl (h.get 2 rfl) h.x) ?_
        refine ZI (b := b11) (off := 3) (cs := [.lit (.int .i64 (4 : Int)), Zb ([] : List ByteArray), .lit (.int .i64 (x9.number - (1 : Int) - (f.hyps.length : Int) - (z4.1.1.length : Int))), .lit (.bool false)]) (es := [.lit (.int .i64 (4 : Int)), Zb ([] : List ByteArray), .lit (.int .i64 (x9.number - (1 : Int) - (f.hyps.length : Int) - (z4.1.1.length : Int))), .lit (.bool x9.tagged)]) hJ hJ0 QD rfl rfl rfl (lb rfl) rfl (fun a w h => ⟨(h.get 0 rfl), (h.get 1 rfl)⟩) ?_
        refine seK [3,5,6,7,8] [_,_,_,_,_] rfl ?_
        refine nx (ZN tb hJ [0,1,2,3,4,1001] [.at b11 3,.bool x9.tagged] [0,1] [_,_,_,_,_,_] rfl ⟨fun _ _ _ hx hl _ => Zn Xl rfl (hl.env 0 12 _ rfl rfl) hx, fun _ _ _ hx hl _ => Zq (cs := [.lit (.int .i64 (4 : Int)), Zb ([] : List ByteArray), .lit (.int .i64 (x9.number - (1 : Int) - (f.hyps.length : Int) - (z4.1.1.length : Int))), .lit (.bool x9.tagged)]) Zgj rfl (Zd hx (mo 0 rfl)) (hl.D 0 121 rfl rfl) rfl hx, trivial⟩ ?_)
        refine cj 5 (fun hb9 => ?_) fun hb9 => ?_
        ·
         try simp at hb9
         refine Zz (sq (.int (tg : Nat)) rfl rfl (lb rfl) (fun _ _ h => Zq (cs := [.lit (.int .i64 (tg : Int))]) Zbq rfl (Zd h.x (mo 1 rfl)) (h.get 2 rfl) rfl h.x) ?_)
         refine sq (.int (tg + 1 : Nat)) rfl rfl (lb rfl) (fun _ _ h => Zf6 (i := (tg : Int)) (j := (1 : Int)) rfl (h.get 0 rfl) (Rel.of_lit (Go.Value.int Go.IntKind.i64 1)) (by first | omega | (simp; omega) | grind [Zc]) (by first | omega | (simp; omega) | grind [Zc]) h.x) ?_
         refine kw pm1 ?_
         refine ZI (b := b10) (off := 0) (cs := [.lit (.int .i64 (tg : Int))]) (es := [.lit (.int .i64 ((tg + 1 : Nat) : Int))]) hJ hJ0 QE rfl rfl rfl (lb rfl) rfl (fun a w h => ⟨(h.get 4 rfl), (h.get 0 rfl)⟩) ?_
         refine seK [2,3,4,5,6] [_,_,_,_,_] rfl ?_
         refine nx (tw pm2 ?_)
         refine tw pm3 ?_
         refine fun a w h => YT (OB.var b (mkR d f M wv vs vt n kn y1 y2) :: OB.var b10 [.lit (.int .i64 ((tg + 1 : Nat) : Int))] :: OB.var b11 [.lit (.int .i64 (4 : Int)), Zb ([] : List ByteArray), .lit (.int .i64 (x9.number - (1 : Int) - (f.hyps.length : Int) - (z4.1.1.length : Int))), .lit (.bool x9.tagged)] :: OB.mI M L :: R') (γ := Value) (fun ix' => ([.at b 0, .at b 0, .at b 0, .at b 12, .lit wv, .agg (itC (⟨(4 : Int), ([] : List ByteArray), x9.number - (1 : Int) - (f.hyps.length : Int) - (z4.1.1.length : Int), x9.tagged⟩ : Itm)), .rd (XC ([(⟨(4 : Int), ([] : List ByteArray), x9.number - (1 : Int) - (f.hyps.length : Int) - (z4.1.1.length : Int), x9.tagged⟩ : Itm)])), .any, .at b 0, .at b 12, .any] : List AV).getD ix' .any) (fun _ => true) [(9, fun (g : Value) => .ptr [.lit (.int .i64 (f.hyps.length : Int))]), (10, fun (g : Value) => .at b10 0), (6, fun (g : Value) => .ptr [Zb z4.1.1]), (2, fun (g : Value) => .ptr [.lit (.pointer (some ⟨b, 0, none⟩))])] (fun (j' : Nat) (g : Value) => match j' with | 0 => (OB.row wv 89 4 (ys.map itC) :: OB.var b (mkR d f M wv vs vt n kn y1 y2) :: OB.var b10 [.lit (.int .i64 ((tg + 1 : Nat) : Int))] :: OB.var b11 [.lit (.int .i64 (4 : Int)), Zb ([] : List ByteArray), .lit (.int .i64 (x9.number - (1 : Int) - (f.hyps.length : Int) - (z4.1.1.length : Int))), .lit (.bool x9.tagged)] :: OB.mI M L :: R') | 1 => (OB.row g 89 4 ((ys ++ ([(⟨(4 : Int), ([] : List ByteArray), x9.number - (1 : Int) - (f.hyps.length : Int) - (z4.1.1.length : Int), x9.tagged⟩ : Itm)])).map itC) :: OB.var b (mkR d f M wv vs vt n kn y1 y2) :: OB.var b10 [.lit (.int .i64 ((tg + 1 : Nat) : Int))] :: OB.var b11 [.lit (.int .i64 (4 : Int)), Zb ([] : List ByteArray), .lit (.int .i64 (x9.number - (1 : Int) - (f.hyps.length : Int) - (z4.1.1.length : Int))), .lit (.bool x9.tagged)] :: OB.mI M L :: R') | _ => (OB.row g 89 4 ((ys ++ ([(⟨(4 : Int), ([] : List ByteArray), x9.number - (1 : Int) - (f.hyps.length : Int) - (z4.1.1.length : Int), x9.tagged⟩ : Itm)])).map itC) :: OB.var b (mkR d f M g vs vt n kn y1 y2) :: OB.var b10 [.lit (.int .i64 ((tg + 1 : Nat) : Int))] :: OB.var b11 [.lit (.int .i64 (4 : Int)), Zb ([] : List ByteArray), .lit (.int .i64 (x9.number - (1 : Int) - (f.hyps.length : Int) - (z4.1.1.length : Int))), .lit (.bool x9.tagged)] :: OB.mI M L :: R')) (fun (k' : Nat) (g : Value) => match k' with | 0 => g | 1 => undef | _ => undef) [7, 10] 1 (.slice none 0 0) (fun _ => rfl) h hJ Ye rfl rfl rfl rfl rfl rfl (fun j' g hj p hp => by rcases j' with _ | _ | _ | j' <;> first | exact hp | exact List.mem_cons_of_mem _ hp | exact List.mem_cons_of_mem _ (List.mem_cons_of_mem _ hp) | (exfalso; omega)) ⟨?_, ⟨?_, ⟨?_, ⟨?_, ⟨?_, ⟨?_, ⟨?_, ⟨?_, ⟨?_, ⟨?_, ⟨?_, trivial⟩⟩⟩⟩⟩⟩⟩⟩⟩⟩⟩ ⟨?e30_9_0, ⟨?e30_9_1, trivial⟩⟩ ⟨.old 1 9 _ rfl rfl, ⟨.old 2 10 _ rfl rfl, ⟨.old 3 6 _ rfl rfl, ⟨.old 4 2 _ rfl rfl, trivial⟩⟩⟩⟩ ?n30_9
         exact oX rfl fun hx hl => Zy Yb rfl (hl.env 4 2 _ rfl rfl) hx
         exact oX rfl fun hx hl => Zy Yb rfl (hl.env 4 2 _ rfl rfl) hx
         exact oX rfl fun hx hl => Zm rfl (hl.D 1 126 rfl rfl) hx
         exact oX rfl fun hx hl => Zn ZO rfl (hl.D 2 127 rfl rfl) hx
         exact fun _ O' hO' => ⟨rfl, fun _ _ _ hx hl _ => Zq (cs := (mkR d f M wv vs vt n kn y1 y2)) Zal rfl (Zd hx (hO' _ (mo 0 rfl))) (hl.D 3 128 rfl rfl) rfl hx⟩
         exact fun _ O' hO' => ⟨rfl, fun _ _ _ hx hl _ => Yd (cs := [.lit (.int .i64 (4 : Int)), Zb ([] : List ByteArray), .lit (.int .i64 (x9.number - (1 : Int) - (f.hyps.length : Int) - (z4.1.1.length : Int))), .lit (.bool x9.tagged)]) (ds := [.lit (.int .i64 (4 : Int)), Zb ([] : List ByteArray), .lit (.int .i64 (x9.number - (1 : Int) - (f.hyps.length : Int) - (z4.1.1.length : Int))), .lit (.bool x9.tagged)]) Xc rfl (Zd hx (hO' _ (mo 2 rfl))) (hl.env 0 12 _ rfl rfl) rfl rfl hx⟩
         exact oY rfl fun hk hx hl => Xu Yw Zab rfl rfl (hl.D 5 130 rfl rfl) (Zr hS _ hk hx _ (Nat.le_refl _)) (jo hJ hx)
         exact Zl rfl
         exact oX rfl fun hx hl => Zm rfl (hl.D 0 125 rfl rfl) hx
         exact oX rfl fun hx hl => Zn ZO rfl (hl.D 8 133 rfl rfl) hx
         exact Zl rfl
         case e30_9_0 => exact ⟨_, rfl, rfl, rfl, rfl, fun _ _ w hk hx hl _ => Zs (YQ (f := itC) ys ([(⟨(4 : Int), ([] : List ByteArray), x9.number - (1 : Int) - (f.hyps.length : Int) - (z4.1.1.length : Int), x9.tagged⟩ : Itm)]) (fun _ => rfl) XW hJ hJ0 rfl hk hx (hl.D 4 129 rfl rfl).lit (hl.D 6 131 rfl rfl) (by first | omega | (simp; omega) | grind [Zc]) (by first | omega | (simp; omega) | grind [Zc])) fun v w' hp => ⟨v, rfl, fun k' hk' => absurd hk' (Nat.not_lt_zero _), fun _ => rfl, hp⟩⟩
         case e30_9_1 => exact ⟨_, rfl, rfl, rfl, rfl, fun g _ w hk hx hl hs => Zs (X9 (off := 12) (cs := (mkR d f M wv vs vt n kn y1 y2)) (es := (mkR d f M g vs vt n kn y1 y2)) (c := .lit g) hJ hJ0 Xs rfl hk hx (hl.D 9 134 rfl rfl) (by rw [(hs 0 7 _ 132 (by omega) rfl rfl rfl)]; exact Rel.of_lit _ (Xz (hx.2.1 _ (mo 0 rfl)))) (lb rfl) rfl) fun v w' hp => ⟨g, rfl, fun _ _ => rfl, fun e => (by cases e), hp⟩⟩
         clear a w h
         intro v18
         dsimp only [List.map]
         refine kw pm3 ?_
         refine kw ZB ?_
         refine kw pm3 ?_
         refine kw pm1 ?_
         refine kw pm2 ?_
         refine kw pm3 ?_
         refine kw (fun h => Xf (p := (Yn f L z4.1.1 (pre ++ [x9]) 0 = some (ys ++ ([(⟨(4 : Int), ([] : List ByteArray), x9.number - (1 : Int) - (f.hyps.length : Int) - (z4.1.1.length : Int), x9.tagged⟩ : Itm)]))) ∧ ((tg + 1) = tgN (pre ++ [x9])) ∧ ((ys ++ ([(⟨(4 : Int), ([] : List ByteArray), x9.number - (1 : Int) - (f.hyps.length : Int) - (z4.1.1.length : Int), x9.tagged⟩ : Itm)])).length = (pre ++ [x9]).length)) (⟨XI r1_ (by rw [← r2_]; exact e9), by rw [QB, r2_]; simp [hb9], by simp [r3_]⟩) h) ?_
         exact fun a w h => ⟨(v18, ys ++ ([(⟨(4 : Int), ([] : List ByteArray), x9.number - (1 : Int) - (f.hyps.length : Int) - (z4.1.1.length : Int), x9.tagged⟩ : Itm)]), tg + 1), h.keep, h.x⟩
        ·
         try simp at hb9
         refine Zf (nx (tw pm2 ?_))
         refine tw pm3 ?_
         refine fun a w h => YT (OB.var b (mkR d f M wv vs vt n kn y1 y2) :: OB.var b11 [.lit (.int .i64 (4 : Int)), Zb ([] : List ByteArray), .lit (.int .i64 (x9.number - (1 : Int) - (f.hyps.length : Int) - (z4.1.1.length : Int))), .lit (.bool x9.tagged)] :: OB.var b10 [.lit (.int .i64 (tg : Int))] :: OB.mI M L :: R') (γ := Value) (fun ix' => ([.at b 0, .at b 0, .at b 0, .at b 12, .lit wv, .agg (itC (⟨(4 : Int), ([] : List ByteArray), x9.number - (1 : Int) - (f.hyps.length : Int) - (z4.1.1.length : Int), x9.tagged⟩ : Itm)), .rd (XC ([(⟨(4 : Int), ([] : List ByteArray), x9.number - (1 : Int) - (f.hyps.length : Int) - (z4.1.1.length : Int), x9.tagged⟩ : Itm)])), .any, .at b 0, .at b 12, .any] : List AV).getD ix' .any) (fun _ => true) [(9, fun (g : Value) => .ptr [.lit (.int .i64 (f.hyps.length : Int))]), (10, fun (g : Value) => .at b10 0), (6, fun (g : Value) => .ptr [Zb z4.1.1]), (2, fun (g : Value) => .ptr [.lit (.pointer (some ⟨b, 0, none⟩))])] (fun (j' : Nat) (g : Value) => match j' with | 0 => (OB.row wv 89 4 (ys.map itC) :: OB.var b (mkR d f M wv vs vt n kn y1 y2) :: OB.var b11 [.lit (.int .i64 (4 : Int)), Zb ([] : List ByteArray), .lit (.int .i64 (x9.number - (1 : Int) - (f.hyps.length : Int) - (z4.1.1.length : Int))), .lit (.bool x9.tagged)] :: OB.var b10 [.lit (.int .i64 (tg : Int))] :: OB.mI M L :: R') | 1 => (OB.row g 89 4 ((ys ++ ([(⟨(4 : Int), ([] : List ByteArray), x9.number - (1 : Int) - (f.hyps.length : Int) - (z4.1.1.length : Int), x9.tagged⟩ : Itm)])).map itC) :: OB.var b (mkR d f M wv vs vt n kn y1 y2) :: OB.var b11 [.lit (.int .i64 (4 : Int)), Zb ([] : List ByteArray), .lit (.int .i64 (x9.number - (1 : Int) - (f.hyps.length : Int) - (z4.1.1.length : Int))), .lit (.bool x9.tagged)] :: OB.var b10 [.lit (.int .i64 (tg : Int))] :: OB.mI M L :: R') | _ => (OB.row g 89 4 ((ys ++ ([(⟨(4 : Int), ([] : List ByteArray), x9.number - (1 : Int) - (f.hyps.length : Int) - (z4.1.1.length : Int), x9.tagged⟩ : Itm)])).map itC) :: OB.var b (mkR d f M g vs vt n kn y1 y2) :: OB.var b11 [.lit (.int .i64 (4 : Int)), Zb ([] : List ByteArray), .lit (.int .i64 (x9.number - (1 : Int) - (f.hyps.length : Int) - (z4.1.1.length : Int))), .lit (.bool x9.tagged)] :: OB.var b10 [.lit (.int .i64 (tg : Int))] :: OB.mI M L :: R')) (fun (k' : Nat) (g : Value) => match k' with | 0 => g | 1 => undef | _ => undef) [7, 10] 1 (.slice none 0 0) (fun _ => rfl) h hJ Ye rfl rfl rfl rfl rfl rfl (fun j' g hj p hp => by rcases j' with _ | _ | _ | j' <;> first | exact hp | exact List.mem_cons_of_mem _ hp | exact List.mem_cons_of_mem _ (List.mem_cons_of_mem _ hp) | (exfalso; omega)) ⟨?_, ⟨?_, ⟨?_, ⟨?_, ⟨?_, ⟨?_, ⟨?_, ⟨?_, ⟨?_, ⟨?_, ⟨?_, trivial⟩⟩⟩⟩⟩⟩⟩⟩⟩⟩⟩ ⟨?e30_10_0, ⟨?e30_10_1, trivial⟩⟩ ⟨.old 1 9 _ rfl rfl, ⟨.old 2 10 _ rfl rfl, ⟨.old 3 6 _ rfl rfl, ⟨.old 4 2 _ rfl rfl, trivial⟩⟩⟩⟩ ?n30_10
         exact oX rfl fun hx hl => Zy Yb rfl (hl.env 4 2 _ rfl rfl) hx
         exact oX rfl fun hx hl => Zy Yb rfl (hl.env 4 2 _ rfl rfl) hx
         exact oX rfl fun hx hl => Zm rfl (hl.D 1 126 rfl rfl) hx
         exact oX rfl fun hx hl => Zn ZO rfl (hl.D 2 127 rfl rfl) hx
         exact fun _ O' hO' => ⟨rfl, fun _ _ _ hx hl _ => Zq (cs := (mkR d f M wv vs vt n kn y1 y2)) Zal rfl (Zd hx (hO' _ (mo 0 rfl))) (hl.D 3 128 rfl rfl) rfl hx⟩
         exact fun _ O' hO' => ⟨rfl, fun _ _ _ hx hl _ => Yd (cs := [.lit (.int .i64 (4 : Int)), Zb ([] : List ByteArray), .lit (.int .i64 (x9.number - (1 : Int) - (f.hyps.length : Int) - (z4.1.1.length : Int))), .lit (.bool x9.tagged)]) (ds := [.lit (.int .i64 (4 : Int)), Zb ([] : List ByteArray), .lit (.int .i64 (x9.number - (1 : Int) - (f.hyps.length : Int) - (z4.1.1.length : Int))), .lit (.bool x9.tagged)]) Xc rfl (Zd hx (hO' _ (mo 1 rfl))) (hl.env 0 12 _ rfl rfl) rfl rfl hx⟩
         exact oY rfl fun hk hx hl => Xu Yw Zab rfl rfl (hl.D 5 130 rfl rfl) (Zr hS _ hk hx _ (Nat.le_refl _)) (jo hJ hx)
         exact Zl rfl
         exact oX rfl fun hx hl => Zm rfl (hl.D 0 125 rfl rfl) hx
         exact oX rfl fun hx hl => Zn ZO rfl (hl.D 8 133 rfl rfl) hx
         exact Zl rfl
         case e30_10_0 => exact ⟨_, rfl, rfl, rfl, rfl, fun _ _ w hk hx hl _ => Zs (YQ (f := itC) ys ([(⟨(4 : Int), ([] : List ByteArray), x9.number - (1 : Int) - (f.hyps.length : Int) - (z4.1.1.length : Int), x9.tagged⟩ : Itm)]) (fun _ => rfl) XW hJ hJ0 rfl hk hx (hl.D 4 129 rfl rfl).lit (hl.D 6 131 rfl rfl) (by first | omega | (simp; omega) | grind [Zc]) (by first | omega | (simp; omega) | grind [Zc])) fun v w' hp => ⟨v, rfl, fun k' hk' => absurd hk' (Nat.not_lt_zero _), fun _ => rfl, hp⟩⟩
         case e30_10_1 => exact ⟨_, rfl, rfl, rfl, rfl, fun g _ w hk hx hl hs => Zs (X9 (off := 12) (cs := (mkR d f M wv vs vt n kn y1 y2)) (es := (mkR d f M g vs vt n kn y1 y2)) (c := .lit g) hJ hJ0 Xs rfl hk hx (hl.D 9 134 rfl rfl) (by rw [(hs 0 7 _ 132 (by omega) rfl rfl rfl)]; exact Rel.of_lit _ (Xz (hx.2.1 _ (mo 0 rfl)))) (lb rfl) rfl) fun v w' hp => ⟨g, rfl, fun _ _ => rfl, fun e => (by cases e), hp⟩⟩
         clear a w h
         intro v19
         dsimp only [List.map]
         refine kw pm2 ?_
         refine kw ZB ?_
         refine kw pm3 ?_
         refine kw pm1 ?_
         refine kw pm2 ?_
         refine kw pm3 ?_
         refine kw (fun h => Xf (p := (Yn f L z4.1.1 (pre ++ [x9]) 0 = some (ys ++ ([(⟨(4 : Int), ([] : List ByteArray), x9.number - (1 : Int) - (f.hyps.length : Int) - (z4.1.1.length : Int), x9.tagged⟩ : Itm)]))) ∧ (tg = tgN (pre ++ [x9])) ∧ ((ys ++ ([(⟨(4 : Int), ([] : List ByteArray), x9.number - (1 : Int) - (f.hyps.length : Int) - (z4.1.1.length : Int), x9.tagged⟩ : Itm)])).length = (pre ++ [x9]).length)) (⟨XI r1_ (by rw [← r2_]; exact e9), by rw [QB, r2_]; simp [hb9], by simp [r3_]⟩) h) ?_
         exact fun a w h => ⟨(v19, ys ++ ([(⟨(4 : Int), ([] : List ByteArray), x9.number - (1 : Int) - (f.hyps.length : Int) - (z4.1.1.length : Int), x9.tagged⟩ : Itm)]), tg), h.keep, h.x⟩
       ·
        try simp at hb8
        refine Zz (XK (O := []) (R := (OB.var b11 [.lit (.int .i64 0), Zb ([] : List ByteArray), .lit (.int .i64 0), .lit (.bool false)] :: OB.var b10 [.lit (.int .i64 (tg : Int))] :: OB.var b (mkR d f M wv vs vt n kn y1 y2) :: OB.row wv 89 4 (ys.map itC) :: OB.mI M L :: R')) (Qb hJ (c := (21 : Int)) ) Xh rfl rfl rfl (lb rfl) hS hJ0 Zt (fun a w h => (Za (Rel.of_lit (Go.Value.int Go.IntKind.i64 21)) Ze)) (fun _ => ?_) (fun i => i.elim))
        refine kw ZB ?_
        refine kw ZB ?_
        exact fun a w h => ⟨(⟨(21, wv, ys), Znt hb1 z4.2 hb4 (ZlW hpre r1_ (by rw [← r2_]; exact Zru hb5 (by omega) (by omega) (by omega)))⟩ : {q : Int × Value × List Itm // Yy f L t = .error q.1}), rfl, h.defs, h.keep, h.x⟩
   ·
    rintro hfl ⟨wv, ys, tg⟩ D
    refine kw pm1 ?_
    refine ZkH fun hF => ?_
    obtain ⟨r1_, r2_, r3_⟩ := hF
    have h9 : (YI z4.1.2).2 = false := by cases h8 : (YI z4.1.2).2 <;> simp_all
    refine nxAD (m := 5) ?_
    refine Zp2 ?_
    refine Zmj ?_
    refine snK 1 tb rfl ?_
    refine sq (.at b 0) rfl rfl (lb rfl) (fun _ _ h => Zm rfl (h.get 0 rfl) h.x) ?_
    refine sq (.at b 12) rfl rfl (lb rfl) (fun _ _ h => Zn ZO rfl (h.get 0 rfl) h.x) ?_
    refine sq (.lit wv) rfl rfl (lb rfl) (fun _ _ h => Zq (cs := (mkR d f M wv vs vt n kn y1 y2)) Zal rfl (Zd h.x (mo 2 rfl)) (h.get 0 rfl) rfl h.x) ?_
    refine sq (.int (ys.length : Nat)) rfl rfl (lb rfl) (fun _ _ h => Za3 (by rw [List.length_map]) Zej rfl (Zd h.x (mo 3 rfl)) (h.get 0 rfl) h.x) ?_
    refine snK 1 tb rfl ?_
    refine seK [0] [_] rfl ?_
    refine nxD ?_
    refine d_cj 0 (fun hb10 => ?_) fun hb10 => ?_
    ·
     try simp at hb10
     refine Zmj ?_
     refine XK (O := []) (R := (OB.dfr D :: OB.var b10 [.lit (.int .i64 (tg : Int))] :: OB.var b (mkR d f M wv vs vt n kn y1 y2) :: OB.row wv 89 4 (ys.map itC) :: OB.mI M L :: R)) (Qb hJ (c := (10 : Int)) ) Xh rfl rfl rfl (lb rfl) hS hJ0 Zt (fun a w h => (Za (Rel.of_lit (Go.Value.int Go.IntKind.i64 10)) Ze)) (fun _ => ?_) (fun i => i.elim)
     refine Zrc hJ hJ0 ?_
     refine kw ZB ?_
     exact fun a w h => pnP (⟨(10, wv, ys), ZkY hb1 z4.2 hb4 r1_ h9 (by omega)⟩ : {q : Int × Value × List Itm // Yy f L t = .error q.1}) rfl a w h
    ·
     try simp at hb10
     refine d_skip ?_
     refine outDn hJ hJ0 ?_
     refine kw ZB ?_
     exact fun a w h => lvP (XV  ⟨(wv, ys), by first | (rw [f1_2, ZJ (by omega)]; exact Zeo hb1 (by omega)) | exact Zid (ys := ys) hb1 z4.2 hb4 r1_ h9 (by omega)⟩ rfl h rfl)
   · exact fun s => s.elim
   ·
    rintro v9 hfl ⟨wv, ys, tg⟩ D
    refine kw pm1 ?_
    refine ZkH fun hF => ?_
    obtain ⟨r1_, r2_, r3_⟩ := hF
    obtain ⟨h9, rfl⟩ : (YI z4.1.2).2 = true ∧ flV 21 = v9 := by cases h8 : (YI z4.1.2).2 <;> simp_all
    refine Zrc hJ hJ0 ?_
    refine kw ZB ?_
    exact fun a w h => pnP (⟨(21, wv, ys), ZkZ hb1 z4.2 hb4 r1_ h9⟩ : {q : Int × Value × List Itm // Yy f L t = .error q.1}) rfl a w h
   ·
    rintro q' D
    refine Zrc hJ hJ0 ?_
    exact fun a w h => pnP q' rfl a w h
theorem ZjB {J : World → Prop} (hJ : Stab J) (bm : Nat) (bt : Nat) (b : Nat) (d : Db) (f : Fr) (M : Nat) (L : List (ByteArray × Int)) (vi : Value) (vs : Value) (vt : Value) (n : Nat) (kn : Bool) (y1 : Int) (y2 : Int) (t : List ByteArray) (ht : ∀ h ∈ f.hyps ++ f.dummies, h.text.length ≤ 2000) (hh : f.hyps.length ≤ 2000) (hn : t.length ≤ 100000) (hs : ZbG t ≤ 1000000000) : FnP (ι := {q' : Value × List Itm // Yy f L t = .ok q'.2}) (κ := {q : Int × Value × List Itm // Yy f L t = .error q.1}) Tryz.prog J 48 [] [.at bm 0, .at bt 0] [OB.var bm [.lit (.pointer (some ⟨b, 0, none⟩))], OB.var bt [Zb t], OB.var b (mkR d f M vi vs vt n kn y1 y2), OB.row vi 89 4 (([] : List Itm).map itC), OB.mI M L] (fun _ => .tup []) (fun i' => [OB.var bm [.lit (.pointer (some ⟨b, 0, none⟩))], OB.var bt [Zb t], OB.var b (mkC d f [.lit (.map (some M)), .lit (i'.1.1), .lit vs, .lit vt, .lit (.int .i64 (n : Int)), .lit (.bool kn), .lit (.int .i64 y1), .lit (.int .i64 y2)]), OB.row i'.1.1 89 4 ((i'.1.2).map itC), OB.mI M L]) (fun k' => flV k'.1.1) (fun k' => [OB.var bm [.lit (.pointer (some ⟨b, 0, none⟩))], OB.var bt [Zb t], OB.var b (mkC d f [.lit (.map (some M)), .lit (k'.1.2.1), .lit vs, .lit vt, .lit (.int .i64 (n : Int)), .lit (.bool kn), .lit (.int .i64 y1), .lit (.int .i64 y2)]), OB.row k'.1.2.1 89 4 ((k'.1.2.2).map itC), OB.mI M L]) := by
 refine Qd (N := 5) Tryz.func48 rfl rfl (lb rfl) fun S w0 R hS hJ0 hH => ?_
 refine Ya (B := St All (SO S (OB.var bm [.lit (.pointer (some ⟨b, 0, none⟩))] :: OB.var bt [Zb t] :: OB.var b (mkR d f M vi vs vt n kn y1 y2) :: OB.row vi 89 4 (([] : List Itm).map itC) :: OB.mI M L :: R)) w0 5 [(0, .at bm 0), (1, .at bt 0)] (XO J S w0.heap.size (OB.var bm [.lit (.pointer (some ⟨b, 0, none⟩))] :: OB.var bt [Zb t] :: OB.var b (mkR d f M vi vs vt n kn y1 y2) :: OB.row vi 89 4 (([] : List Itm).map itC) :: OB.mI M L :: R))) ?_ fun a w h => h
 refine Zz (sq (.at b 0) rfl rfl (lb rfl) (fun _ _ h => Zq (cs := [.lit (.pointer (some ⟨b, 0, none⟩))]) Yb rfl (Zd h.x (mo 0 rfl)) (h.get 0 rfl) rfl h.x) ?_)
 refine sq (.rd (Zb t)) rfl rfl (lb rfl) (fun _ _ h => Zq (cs := [Zb t]) X1 rfl (Zd h.x (mo 1 rfl)) (h.get 2 rfl) rfl h.x) ?_
 refine kw pm1 ?_
 refine kw pm1 ?_
 refine kw pm4 ?_
 refine kw pm4 ?_
 refine kw pm4 ?_
 refine XK (O := [OB.var b (mkR d f M vi vs vt n kn y1 y2), OB.row vi 89 4 (([] : List Itm).map itC), OB.mI M L]) (R := (OB.var bm [.lit (.pointer (some ⟨b, 0, none⟩))] :: OB.var bt [Zb t] :: R)) (p_read hJ (b := b) (d := d) (f := f) (M := M) (L := L) (vi := vi) (vs := vs) (vt := vt) (n := n) (kn := kn) (y1 := y1) (y2 := y2) (t := t) (by first | omega | (simp; omega) | grind [Zc]) (by first | omega | (simp; omega) | grind [Zc]) (by first | omega | (simp; omega) | grind [Zc]) (by first | omega | (simp; omega) | grind [Zc])) Zsf rfl rfl rfl (lb rfl) hS hJ0 Zt (fun a w h => (Za (h.get 1 rfl) (Za (h.get 0 rfl) Ze))) (fun k2 => ?_) fun z1 => ?_
 refine kw pm2 ?_
 refine kw pm2 ?_
 refine kw pm2 ?_
 refine kw pm4 ?_
 refine kw pm4 ?_
 exact fun a w h => pnP (⟨(k2.1.1, k2.1.2.1, k2.1.2.2), k2.2⟩ : {q : Int × Value × List Itm // Yy f L t = .error q.1}) rfl a w h
 refine seK [1] [_] rfl ?_
 refine kw pm2 ?_
 refine kw pm2 ?_
 refine kw pm2 ?_
 refine kw pm4 ?_
 refine kw pm4 ?_
 exact fun a w h => lvP (XV  ⟨(z1.1.1, z1.1.2), z1.2⟩ rfl h rfl)
abbrev GR (f : Fr) (L : List (ByteArray × Int)) (t : List ByteArray) : Type := {q : Int × Value × List Itm // (q.1 = 0 ∧ Yy f L t = .ok q.2.2) ∨ (q.1 ≠ 0 ∧ Yy f L t = .error q.1)}
theorem Znu {f : Fr} {L : List (ByteArray × Int)} {t : List ByteArray} {c : Int} (h : Yy f L t = .error c) : c ≠ 0 := by
 unfold Yy at h
 split at h
 · split at h
   · injection h with h; omega
   · cases h
 split at h
 · injection h with h; omega
 split at h
 · injection h with h; omega
 split at h
 · injection h with h; omega
 split at h
 · injection h with h; omega
 split at h
 · injection h with h; omega
 · cases h
theorem Zq0 {J : World → Prop} (hJ : Stab J) (bm bt : Nat) (b : Nat) (d : Db) (f : Fr) (M : Nat) (L : List (ByteArray × Int)) (vi : Value) (vs : Value) (vt : Value) (n : Nat) (kn : Bool) (y1 : Int) (y2 : Int) (t : List ByteArray) (ht : ∀ h ∈ f.hyps ++ f.dummies, h.text.length ≤ 2000) (hh : f.hyps.length ≤ 2000) (hn : t.length ≤ 100000) (hs : ZbG t ≤ 1000000000) :
 FnM (ι := (GR f L t)) Tryz.prog J 47 [] [.lit (.func (.func 48) #[] #[.pointer (some ⟨bm, 0, none⟩), .pointer (some ⟨bt, 0, none⟩)])] [OB.var bm [.lit (.pointer (some ⟨b, 0, none⟩))], OB.var bt [Zb t], OB.var b (mkR d f M vi vs vt n kn y1 y2), OB.row vi 89 4 (([] : List Itm).map itC), OB.mI M L] (fun i' => .int i'.1.1) (fun i' => [OB.var bm [.lit (.pointer (some ⟨b, 0, none⟩))], OB.var bt [Zb t], OB.var b (mkC d f [.lit (.map (some M)), .lit (i'.1.2.1), .lit vs, .lit vt, .lit (.int .i64 (n : Int)), .lit (.bool kn), .lit (.int .i64 y1), .lit (.int .i64 y2)]), OB.row i'.1.2.1 89 4 ((i'.1.2.2).map itC), OB.mI M L]) := by
 have h4 := Zga (F := 48) (caps := [.pointer (some ⟨bm, 0, none⟩), .pointer (some ⟨bt, 0, none⟩)]) (pc := fun k : {q : Int × Value × List Itm // Yy f L t = .error q.1} => k.1.1) hJ (ZjB hJ bm bt b d f M L vi vs vt n kn y1 y2 t ht hh hn hs) (Zu Tryz.func48 rfl rfl) (by intro v hv; simp at hv; rcases hv with rfl | rfl <;> exact True.intro)
 refine (h4.map (ι' := (GR f L t)) (fun r => match r with | .inl i => ⟨(0, i.1), .inl ⟨rfl, i.2⟩⟩ | .inr k => ⟨k.1, .inr ⟨Znu k.2, k.2⟩⟩) ?_ ?_)
 · rintro (i | k) <;> rfl
 · rintro (i | k) <;> rfl
def Zqc (P : Program) (t : TypeId) : Prop := ∀ (x1 x2 x3 y1 y2 y3 y4 y5 y6 y7 y8 : Value) (m : Nat), P.built t [(0, .agg #[x1, x2, x3]), (1, .agg #[y1, y2, y3, y4, y5, y6, y7, y8]), (2, .map (some m))] =
 some #[x1, x2, x3, y1, y2, y3, y4, y5, y6, y7, y8, .map (some m), .slice none 0 0, .slice none 0 0, .slice none 0 0, .int .i64 0, .bool false, .int .i64 0, .int .i64 0]
abbrev mzC (m : Nat) : List CD := [.lit (.map (some m)), .lit (.slice none 0 0), .lit (.slice none 0 0), .lit (.slice none 0 0), .lit (.int .i64 0), .lit (.bool false), .lit (.int .i64 0), .lit (.int .i64 0)]
theorem ZnC {P : Program} {n : Rn} {S : Nat → Prop} {X : World → Prop} {o : Oper} {a : Act} {w : World} {t : TypeId} {x y z : Operand} {d : Db} {f : Fr} {m : Nat} (ht : Zqc P t) (hop : o.op = .build t #[(0, x), (1, y), (2, z)]) (h : Rel S w (.agg (dbC d)) (a.eval x)) (h2 : Rel S w (.agg (frC f)) (a.eval y)) (hz : a.eval z = .map (some m)) (hx : X w) :
 Z5 n P o a w (Yq S X (.agg (dbC d ++ (frC f ++ mzC m))) w) := by
 simp only [Rel] at h h2
 obtain ⟨us, hv, hr⟩ := h
 obtain ⟨vs, hw, hq⟩ := h2
 match us, hr, vs, hq with
 | [u1, u2, u3], hr, [y1, y2, y3, y4, y5, y6, y7, y8], hq =>
  refine Zv (v := .agg (([u1, u2, u3] : List Value) ++ (([y1, y2, y3, y4, y5, y6, y7, y8] : List Value) ++ [Value.map (some m), .slice none 0 0, .slice none 0 0, .slice none 0 0, .int .i64 0, .bool false, .int .i64 0, .int .i64 0])).toArray) ?_ (by simp only [Rel]; exact ⟨_, rfl, hr.append (hq.append (ds := mzC m) ⟨.lit _ True.intro, .lit _ True.intro, .lit _ True.intro, .lit _ True.intro, .lit _ True.intro, .lit _ True.intro, .lit _ True.intro, .lit _ True.intro, trivial⟩)⟩) hx
  have hrun := run_build (P := P) w t #[(0, a.eval x), (1, a.eval y), (2, a.eval z)] #[u1, u2, u3, y1, y2, y3, y4, y5, y6, y7, y8, .map (some m), .slice none 0 0, .slice none 0 0, .slice none 0 0, .int .i64 0, .bool false, .int .i64 0, .int .i64 0] (by rw [hv, hw, hz]; exact ht u1 u2 u3 y1 y2 y3 y4 y5 y6 y7 y8 m)
  rw [execOp, hop]
  simp only [List.map_toArray, List.map_cons, List.map_nil, Sem.run_bind, hrun]
  rfl
theorem d_map {κ α : Type} [DecidableEq κ] {n : Rn} {P : Program} {J : World → Prop} {S : Nat → Prop} {O : List OB} {w0 w : World} {o : Oper} {a : Act} {t : TypeId} (Kd : Keyed κ) (f : α → AV) (hJ : Stab J) (hop : o.op = .makeMap t none) (hk0 : Keeps All w0 w) (hx : XO J S w0.heap.size O w) :
 Z5 n P o a w fun v w' => ∃ M : Nat, v = .map (some M) ∧ Zaa J S w0 O w (OB.map Kd f M [] :: O) w' := by
 have hk : Keeps All w (w.alloc (.map #[] 0)) := (Keeps.refl _ _).alloc _
 refine ZR (v := .map (some w.heap.size)) (w' := w.alloc (.map #[] 0)) ?_ ⟨w.heap.size, rfl, X8 hJ hk0 hx hk (fun b hb => Nat.le_of_eq hb.symm) ⟨hk0.size, [], IsMap.new w, trivial⟩⟩
 simp [execOp, hop, Instr.makeMap, newObj, Sem.run]
theorem perm_3 {a b c : OB} {l : List OB} : (a :: b :: c :: l).Perm (c :: a :: b :: l) := List.perm_middle (l₁ := [a, b]) (l₂ := l) (a := c)
section
variable {n : Rn} {P : Program} {l : List Oper} {Q : Exit → Act → World → Prop}
variable {N : Nat} {J : World → Prop} {S : Nat → Prop} {O : List OB} {w0 : World} {env : List (Nat × AV)} {avs : Nat → AV} {conds : Nat → Bool} {T : Array Value} {γ : Type}
def ZfD (D : Nat → Bool) (k : Nat) : Nat → Bool := fun j => if j = k then true else D j
def EffR (n : Rn) (P : Program) (J : World → Prop) (S : Nat → Prop) (w0 : World) (env : List (Nat × AV)) (l : List Oper) (avs : Nat → AV) (conds : Nat → Bool) (Stg : (Nat → Bool) → γ → List OB) (sv : Nat → γ → Value) (ch : List Nat) (k i : Nat) : Prop :=
 ∃ o, l[i]? = some o ∧ o.guard = none ∧ conds i = true ∧
  ∀ D g a w, D k = false → (∀ k' i', ch[k']? = some i' → Zap l l.length i i' = true → D k' = true) → (∀ k1 k2 i1 i2, ch[k1]? = some i1 → ch[k2]? = some i2 → D k1 = true → Zap l l.length i1 i2 = true → D k2 = true) →
   Keeps All w0 w → XO J S w0.heap.size (Stg D g) w → Look (SO S (Stg D g)) w env l avs conds i a → (∀ (k' i' : Nat) (o' : Oper) (d : Nat), D k' = true → ch[k']? = some i' → l[i']? = some o' → o'.dst = some d → a.eval (.tmp d) = sv k' g) →
   Z5 n P o a w fun v w' => ∃ g', (∀ k', D k' = true → sv k' g' = sv k' g) ∧ (o.dst.isSome = true → v = sv k g') ∧ Rel (SO S (Stg (ZfD D k) g')) w' (avs i) v ∧ Zaa J S w0 (Stg D g) w (Stg (ZfD D k) g') w'
structure DInv (J : World → Prop) (S : Nat → Prop) (w0 : World) (N : Nat) (env : List (Nat × AV)) (l : List Oper) (avs : Nat → AV) (conds : Nat → Bool) (T : Array Value) (Stg : (Nat → Bool) → γ → List OB) (sv : Nat → γ → Value) (ch : List Nat) (D : Nat → Bool) (g : γ) (b : Nat → Bool) (a : Act) (w : World) : Prop where
 inv : RInv All (SO S (Stg D g)) (SO S (Stg D g)) w0 N env (XO J S w0.heap.size (Stg D g)) l avs conds T b a w
 done : ∀ (k i : Nat), ch[k]? = some i → b i = D k
 out : ∀ k, ch.length ≤ k → D k = false
 slot : ∀ (k i : Nat) (o : Oper) (d : Nat), D k = true → ch[k]? = some i → l[i]? = some o → o.dst = some d → a.tmps.getD d undef = sv k g
theorem ZeY (Or : List OB) {id : Nat} {draw : Bool} {a : Act} {w : World} (avs : Nat → AV) (conds : Nat → Bool) (env' : List (Nat × (γ → AV))) (Stg : (Nat → Bool) → γ → List OB) (sv : Nat → γ → Value) (ch : List Nat) (g0 : γ) (h0 : ∀ g, Stg (fun _ => false) g = O)
 (h : St All (SO S O) w0 N env (XO J S w0.heap.size O) a w) (hJ : Stab J) (hm : P.follows .mixedOrders = true) (hu : YY l = true) (hN : Zai l N = true) (hback : Zbe l = true) (hnd : Ziu ch = true)
 (hsub : ∀ D g p, p ∈ Or → p ∈ Stg D g) (ob : Obs (ObP n P J S Or w0 env l avs conds ch) 0 l) (eff : Effs (EffR n P J S w0 env l avs conds Stg sv ch) 0 ch) (hf : FromGs env l avs conds sv ch env')
 (hq : ∀ g a w, St All (SO S (Stg (fun k => decide (k < ch.length)) g)) w0 N (env'.map fun p => (p.1, p.2 g)) (XO J S w0.heap.size (Stg (fun k => decide (k < ch.length)) g)) a w → Q .normal a w) : (Code.region id l.toArray draw).wpIn n.F n.d P Q a w := by
 have start : ∀ w', Keeps All w w' → DInv J S w0 N env l avs conds a.tmps Stg sv ch (fun _ => false) g0 (fun _ => false) a w' := fun w' hk =>
  ⟨by
   rw [h0]
   exact ⟨h.defs, h.size, h.keep.trans hk, Yl hJ _ _ hk h.x, fun _ _ => rfl, fun _ _ _ _ _ e _ => (by cases e), fun _ _ _ _ _ e _ => (by cases e), fun _ _ _ e => (by cases e), fun _ h => h, fun p hp => ⟨(h.env p hp).1, (h.env p hp).2.on hk⟩⟩,
   fun _ _ _ => rfl, fun _ _ => rfl, fun _ _ _ _ hk => by cases hk⟩
 have hnodup : ∀ (k k' i : Nat), ch[k]? = some i → ch[k']? = some i → k = k' := fun k k' i h1 h2 => by
  have g1 := List.all_eq_true.1 hnd (i, k) (by rw [List.mem_zipIdx_iff_getElem?]; simpa using h1)
  have g2 := List.all_eq_true.1 g1 (i, k') (by rw [List.mem_zipIdx_iff_getElem?]; simpa using h2)
  simpa using g2
 refine ZeZ (I := fun b a' w' => ∃ D g, DInv J S w0 N env l avs conds a.tmps Stg sv ch D g b a' w') hm hback ?_ ?_ ⟨_, g0, start w (Keeps.refl _ _)⟩ ⟨_, g0, start _ (Keeps.refl _ _).drew⟩
 · rintro Q b a1 w1 i o rest hi hb hd ⟨D, g, hg⟩ hK
   by_cases hin : ∃ k : Nat, ch[k]? = some i
   · obtain ⟨k, hk⟩ := hin
     obtain ⟨o', ho', hgd, hc, hob⟩ := eff.get k i hk
     rw [hi] at ho'; cases ho'
     simp only [Nat.zero_add] at hob
     refine wpListIn_plain hgd fun K' hKr => ?_
     refine hob D g a1 w1 (by rw [← hg.done k i hk]; exact hb) (fun k' i' hk' hun => ?_) (fun k1 k2 i1 i2 h1 h2 hD hun => ?_) hg.inv.keep hg.inv.x (hg.inv.look hi hb hd) (fun k' i' o' d hk' hi' hl' hd' => hg.slot k' i' o' d hk' hi' hl' hd') K' Q fun u w2 ⟨g', e2, e3, e4, hs⟩ => ?_
     · rw [← hg.done k' i' hk']
       exact XF hg.inv.closed _ i _ o hi hd hun
     · rw [← hg.done k2 i2 h2]
       rw [← hg.done k1 i1 h1] at hD
       cases hl : l[i1]? with
       | none =>
        have : ∀ f, Zap l f i1 i2 = false := fun f => by cases f <;> simp [Zap, hl]
        rw [this] at hun; cases hun
       | some p => exact XF hg.inv.closed _ _ _ p hl (hg.inv.closed _ p hl hD) hun
     refine hKr _ _ (hK _ _ ⟨ZfD D k, g', hg.inv.step3 hu hN hi hd u hs.1 hs.2.2 hs.2.1 hc e4, fun k' i' hk' => ?_, fun k' hk' => ?_, fun k' i' o' d hk' hi' hl' hd' => ?_⟩)
     · by_cases e : i' = i
       · subst e
         have := hnodup k' k i' hk' hk
         subst this
         simp [ZZ, ZfD]
       · simp only [ZZ, if_neg e]
         rw [hg.done k' i' hk']
         have : k' ≠ k := fun e' => by subst e'; rw [hk] at hk'; cases hk'; exact e rfl
         simp [ZfD, this]
     · have hkl : k < ch.length := (List.getElem?_eq_some_iff.1 hk).1
       have : k' ≠ k := by omega
       simp [ZfD, this, hg.out k' hk']
     · by_cases e : k' = k
       · subst e
         rw [hk] at hi'; cases hi'
         rw [hi] at hl'; cases hl'
         rw [hd', Xk _ _ _ (by rw [hg.inv.size]; exact Z0 hN hi hd')]
         exact e3 (by simp [hd'])
       · have hne : i' ≠ i := fun e' => e (by subst e'; exact hnodup k' k i' hi' hk)
         have hk'' : D k' = true := by simpa [ZfD, e] using hk'
         rw [Yk _ _ _ _ (fun e' => hne (Z1 hu hl' hi hd' e'))]
         rw [hg.slot k' i' o' d hk'' hi' hl' hd', e2 k' hk'']
   · have hnin : ch.contains i = false := by
      simp only [List.contains_eq_mem, decide_eq_false_iff_not]
      intro hmem
      obtain ⟨k, hk, he⟩ := List.getElem_of_mem hmem
      exact hin ⟨k, by rw [List.getElem?_eq_getElem hk, he]⟩
     have hobi := ZaJ l 0 ob i o hi
     rw [Nat.zero_add] at hobi
     refine hg.inv.does2 hu hN hi hb hd (hobi hnin _ (hsub D g)) fun a' w' h' hsl => hK _ _ ⟨D, g, h', fun k' i' hk' => ?_, hg.out, fun k' i' o' d hk' hi' hl' hd' => ?_⟩
     · have : i' ≠ i := fun e => hin ⟨k', e ▸ hk'⟩
       simp only [ZZ, if_neg this]
       exact hg.done k' i' hk'
     · have hne : i' ≠ i := fun e => hin ⟨k', e ▸ hi'⟩
       rw [hsl d (fun e' => hne (Z1 hu hl' hi hd' e'))]
       exact hg.slot k' i' o' d hk' hi' hl' hd'
 · rintro a1 w1 ⟨D, g, hg⟩
   have hall : ∀ k, k < ch.length → D k = true := fun k hk => by
    have hget : ch[k]? = some (ch[k]'hk) := List.getElem?_eq_getElem _
    obtain ⟨o', ho', _⟩ := eff.get k _ hget
    have hb := hg.done k _ hget
    have hlt2 : ch[k] < l.length := (List.getElem?_eq_some_iff.1 ho').1
    simpa [hlt2] using hb.symm
   have hD : D = fun k => decide (k < ch.length) := by
    funext k
    by_cases hk : k < ch.length
    · rw [hall k hk]; simp [hk]
    · rw [hg.out k (by omega)]; simp [hk]
   subst hD
   refine hq g a1 w1 ⟨hg.inv.defs, hg.inv.size, hg.inv.keep, hg.inv.x, fun p hp => ?_⟩
   obtain ⟨q, hq', rfl⟩ := List.mem_map.1 hp
   cases hf.mem q hq' with
   | old m s av he hn =>
    have h1 := hg.inv.env (s, av) (List.mem_of_getElem? he)
    refine ⟨h1.1, ?_⟩
    show Rel _ w1 av (a1.tmps.getD s undef)
    rw [hg.inv.old s fun i o hi ho => by
     have := List.all_eq_true.1 hn o (List.mem_of_getElem? hi)
     simp [ho] at this]
    exact h1.2
   | new i s av hs hc he =>
    cases hi : l[i]? with
    | none => rw [hi] at hs; cases hs
    | some o =>
     rw [hi] at hs
     have hs' : o.dst = some s := hs
     have hlt : i < l.length := (List.getElem?_eq_some_iff.1 hi).1
     refine ⟨Z0 hN hi hs', ?_⟩
     have hr := hg.inv.new i o s hi hs' (by simpa using hlt) hc
     rw [he] at hr
     exact hr
   | eff k i s f hk hs hf ho =>
    cases hi : l[i]? with
    | none => rw [hi] at hs; cases hs
    | some o =>
     rw [hi] at hs
     have hs' : o.dst = some s := hs
     refine ⟨Z0 hN hi hs', ?_⟩
     have hr := hg.slot k i o s (by simpa using (List.getElem?_eq_some_iff.1 hk).1) hk hi hs'
     simp only
     rw [hr, hf]
     exact Rel.of_lit _ (ho g)
def EffD (n : Rn) (P : Program) (J : World → Prop) (S : Nat → Prop) (w0 : World) (env : List (Nat × AV)) (l : List Oper) (avs : Nat → AV) (conds : Nat → Bool) (Stg : (Nat → Bool) → γ → List OB) (sv : Nat → γ → Value) (ch : List Nat) (k i : Nat) : Prop :=
 ∃ o, l[i]? = some o ∧ o.guard = none ∧ avs i = .any ∧ conds i = true ∧
  ∀ D g a w, D k = false → (∀ k' i', ch[k']? = some i' → Zap l l.length i i' = true → D k' = true) → (∀ k1 k2 i1 i2, ch[k1]? = some i1 → ch[k2]? = some i2 → D k1 = true → Zap l l.length i1 i2 = true → D k2 = true) →
   Keeps All w0 w → XO J S w0.heap.size (Stg D g) w → Look (SO S (Stg D g)) w env l avs conds i a → (∀ (k' i' : Nat) (o' : Oper) (d : Nat), D k' = true → ch[k']? = some i' → l[i']? = some o' → o'.dst = some d → a.eval (.tmp d) = sv k' g) →
   Z5 n P o a w fun v w' => ∃ g', (∀ k', D k' = true → sv k' g' = sv k' g) ∧ (o.dst.isSome = true → v = sv k g') ∧ Zaa J S w0 (Stg D g) w (Stg (ZfD D k) g') w'
theorem Zp1 {Stg : (Nat → Bool) → γ → List OB} {sv : Nat → γ → Value} {ch : List Nat} : ∀ {k : Nat} {l' : List Nat}, Effs (EffD n P J S w0 env l avs conds Stg sv ch) k l' → Effs (EffR n P J S w0 env l avs conds Stg sv ch) k l'
 | _, [], _ => trivial
 | _, _ :: _, ⟨⟨o, h1, h2, h3, h4, h5⟩, hr⟩ => ⟨⟨o, h1, h2, h4, fun D g a w q1 q2 q3 q4 q5 q6 q7 => Zs (h5 D g a w q1 q2 q3 q4 q5 q6 q7) fun _ _ ⟨g', e1, e2, e3⟩ => ⟨g', e1, e2, by rw [h3]; simp only [Rel], e3⟩⟩, Zp1 hr⟩
theorem Znr {id : Nat} {draw : Bool} {a : Act} {w : World} (avs : Nat → AV) (conds : Nat → Bool) (env' : List (Nat × (γ → AV))) (Stg : (Nat → Bool) → γ → List OB) (sv : Nat → γ → Value) (ch : List Nat) (g0 : γ) (h0 : ∀ g, Stg (fun _ => false) g = O)
 (h : St All (SO S O) w0 N env (XO J S w0.heap.size O) a w) (hJ : Stab J) (hm : P.follows .mixedOrders = true) (hu : YY l = true) (hN : Zai l N = true) (hback : Zbe l = true) (hnd : Ziu ch = true)
 (hsub : ∀ D g p, p ∈ O → p ∈ Stg D g) (ob : Obs (ObP n P J S O w0 env l avs conds ch) 0 l) (eff : Effs (EffD n P J S w0 env l avs conds Stg sv ch) 0 ch) (hf : FromGs env l avs conds sv ch env')
 (hq : ∀ g a w, St All (SO S (Stg (fun k => decide (k < ch.length)) g)) w0 N (env'.map fun p => (p.1, p.2 g)) (XO J S w0.heap.size (Stg (fun k => decide (k < ch.length)) g)) a w → Q .normal a w) : (Code.region id l.toArray draw).wpIn n.F n.d P Q a w :=
 ZeY O avs conds env' Stg sv ch g0 h0 h hJ hm hu hN hback hnd hsub ob (Zp1 eff) hf hq
end
theorem ZmM : Zqc Tryz.prog 77 := fun x1 x2 x3 y1 y2 y3 y4 y5 y6 y7 y8 m => by kernel_rfl
theorem Zll {J : World → Prop} (hJ : Stab J) (d : Db) (n : Nat) (t : List ByteArray) (hn : n < d.frames.length) (hfl : d.frames.length ≤ 400) (ht : ∀ h ∈ (ge d.frames n).hyps ++ (ge d.frames n).dummies, h.text.length ≤ 2000) (hh : (ge d.frames n).hyps.length ≤ 2000) (hl : t.length ≤ 100000) (hs : ZbG t ≤ 1000000000) : FnM (ι := Nat × Value × Value × Value) Tryz.prog J 38 [] [.agg (dbC d), .int (n : Nat), .rd (Zb t)] [] (fun i' => .at (i'.1) 0) (fun i' => [OB.var (i'.1) (mkC d (ge d.frames n) [.lit (i'.2.1), XC (QX d n t), .lit (i'.2.2.1), .lit (i'.2.2.2), .lit (.int .i64 (((Zar d n t).n : Nat) : Int)), .lit (.bool ((Zar d n t).kn)), .lit (.int .i64 ((Zar d n t).v.1)), .lit (.int .i64 ((Zar d n t).v.2))]), OB.row i'.2.2.1 22 1 (((Zar d n t).sk).map Zj), OB.row i'.2.2.2 22 1 (((Zar d n t).tg).map Zj)]) := by
 refine Z6 (N := 49) Tryz.func38 rfl rfl (lb rfl) fun S w0 R hS hJ0 hH => ?_
 refine Ya (B := St All (SO S (R)) w0 49 [(0, .agg (dbC d)), (1, .int (n : Nat)), (2, .rd (Zb t))] (XO J S w0.heap.size (R))) ?_ fun a w h => h
 refine ln 2 fun hl1 => ?_
 obtain ⟨ui, hui⟩ : ∃ v, v = Value.slice none 0 0 := ⟨_, rfl⟩
 obtain ⟨us, hus⟩ : ∃ v, v = Value.slice none 0 0 := ⟨_, rfl⟩
 obtain ⟨ut, hut⟩ : ∃ v, v = Value.slice none 0 0 := ⟨_, rfl⟩
 refine tsq ?_
 refine sq (.ptr (dbC d)) rfl rfl (lb rfl) (fun _ _ h => Y1 rfl (h.get 0 rfl) (Zr hS _ h.keep h.x _ (Nat.le_refl _)) (jo hJ h.x)) ?_
 refine ZkM (c := Zb t) hJ rfl rfl rfl (lb rfl) (fun a w h => (h.get 3 rfl)) fun b1 => ?_
 refine snK 1 tb rfl ?_
 refine seK [1,2,4] [_,_,_] rfl ?_
 refine nx (Zo (fun a w h => Znr (γ := Nat × Value × Nat × Nat) (fun ix' => ([.agg (dbC d), .ptr [Zan d.frames], .rd (Zan d.frames), .int (n : Nat), .ptr (frC (ge d.frames n)), .agg (frC (ge d.frames n)), .any, .any, .any, .any, .any] : List AV).getD ix' .any) (fun _ => true) [(5, fun (g : Nat × Value × Nat × Nat) => .at b1 0), (3, fun (g : Nat × Value × Nat × Nat) => .ptr (dbC d)), (1, fun (g : Nat × Value × Nat × Nat) => .int (n : Nat)), (7, fun (g : Nat × Value × Nat × Nat) => .at g.2.2.2 0)] (fun (D : Nat → Bool) (g : Nat × Value × Nat × Nat) => (if D 2 then [OB.var g.2.2.1 (mkC d (ge d.frames n) [.lit (.map (some g.1)), .lit (.slice none 0 0), .lit (.slice none 0 0), .lit (.slice none 0 0), .lit (.int .i64 (0 : Int)), .lit (.bool false), .lit (.int .i64 (0 : Int)), .lit (.int .i64 (0 : Int))])] else if D 1 then [Zqg (mkC d (ge d.frames n) [.lit (.map (some g.1)), .lit (.slice none 0 0), .lit (.slice none 0 0), .lit (.slice none 0 0), .lit (.int .i64 (0 : Int)), .lit (.bool false), .lit (.int .i64 (0 : Int)), .lit (.int .i64 (0 : Int))]) g.2.1] else []) ++ ((if D 0 then [OB.mI g.1 []] else []) ++ ((if D 4 then [OB.var g.2.2.2 [.lit (.pointer (some ⟨g.2.2.1, 0, none⟩))]] else if D 3 then [OB.var g.2.2.2 [.lit (.pointer none)]] else []) ++ (OB.var b1 [Zb t] :: R)))) (fun (k' : Nat) (g : Nat × Value × Nat × Nat) => match k' with | 0 => .map (some g.1) | 1 => g.2.1 | 2 => .pointer (some ⟨g.2.2.1, 0, none⟩) | 3 => .pointer (some ⟨g.2.2.2, 0, none⟩) | _ => undef) [6, 7, 8, 9, 10] (0, undef, 0, 0) (fun _ => rfl) h hJ Ye rfl rfl rfl rfl (fun D g p hp => List.mem_append_right _ (List.mem_append_right _ (List.mem_append_right _ hp))) ⟨?o0, ⟨?o1, ⟨?o2, ⟨?o3, ⟨?o4, ⟨?o5, ⟨?o6, ⟨?o7, ⟨?o8, ⟨?o9, ⟨?o10, trivial⟩⟩⟩⟩⟩⟩⟩⟩⟩⟩⟩ ⟨?e0, ⟨?e1, ⟨?e2, ⟨?e3, ⟨?e4, trivial⟩⟩⟩⟩⟩ ⟨.old 0 5 _ rfl rfl, ⟨.old 1 3 _ rfl rfl, ⟨.old 2 1 _ rfl rfl, ⟨.eff 3 9 7 (fun (g : Nat × Value × Nat × Nat) => .pointer (some ⟨g.2.2.2, 0, none⟩)) rfl rfl (fun _ => rfl) (fun _ => True.intro), trivial⟩⟩⟩⟩ ?n1))
 exact oX rfl fun hx hl => Zbn ZcS rfl (hl.env 1 3 _ rfl rfl) (Nat.le_refl _) hx
 exact oX rfl fun hx hl => ZU Qq rfl (hl.env 1 3 _ rfl rfl) hx
 exact oX rfl fun hx hl => Zy Zgk rfl (hl.D 1 11 rfl rfl) hx
 exact oX rfl fun hx hl => Ys rfl (hl.env 2 1 _ rfl rfl) hx
 exact oX rfl fun hx hl => Yc (i := (n : Int)) Yh rfl (hl.D 2 12 rfl rfl) (hl.D 3 13 rfl rfl) (Int.natCast_nonneg _) (Yo (xs := d.frames) (k := n) (by first | omega | (simp; omega) | grind [Zc])) rfl hx
 exact oX rfl fun hx hl => Zbn ZfA rfl (hl.D 4 14 rfl rfl) (Nat.le_refl _) hx
 exact Zl rfl
 exact Zl rfl
 exact Zl rfl
 exact Zl rfl
 exact Zl rfl
 case e0 =>
  refine ⟨_, rfl, rfl, rfl, rfl, fun D g a w hD hpre hcl hk hx hl hs => ?_⟩
  have d0 := hD
  have d1 : D 1 = false := by cases hq : D 1 with | false => rfl | true => exact absurd (hcl 1 0 7 6 rfl rfl hq (by decide)) (by simp [d0])
  have d2 : D 2 = false := by cases hq : D 2 with | false => rfl | true => exact absurd (hcl 2 1 8 7 rfl rfl hq (by decide)) (by simp [d1])
  have d4 : D 4 = false := by cases hq : D 4 with | false => rfl | true => exact absurd (hcl 4 2 10 8 rfl rfl hq (by decide)) (by simp [d2])
  simp only [ZfD, d0, d1, d2, d4, if_true, if_false, Bool.false_eq_true, List.nil_append, Nat.reduceEqDiff, List.cons_append] at hx hl ⊢
  exact Zs (d_map keyS (fun z' : Int => AV.int z') hJ rfl hk hx) fun v w' ⟨M', hv, hp⟩ => ⟨(M', g.2), (fun k' hk' => by rcases k' with _ | _ | _ | _ | k' <;> first | rfl | simp_all), fun _ => hv, hp⟩
 case e1 =>
  refine ⟨_, rfl, rfl, rfl, rfl, fun D g a w hD hpre hcl hk hx hl hs => ?_⟩
  have d1 := hD
  have d0 : D 0 = true := hpre 0 6 rfl (by decide)
  have d2 : D 2 = false := by cases hq : D 2 with | false => rfl | true => exact absurd (hcl 2 1 8 7 rfl rfl hq (by decide)) (by simp [d1])
  have d4 : D 4 = false := by cases hq : D 4 with | false => rfl | true => exact absurd (hcl 4 2 10 8 rfl rfl hq (by decide)) (by simp [d2])
  simp only [ZfD, d0, d1, d2, d4, if_true, if_false, Bool.false_eq_true, List.nil_append, Nat.reduceEqDiff, List.cons_append] at hx hl ⊢
  exact Zs (Zos (cs := (mkC d (ge d.frames n) [.lit (.map (some g.1)), .lit (.slice none 0 0), .lit (.slice none 0 0), .lit (.slice none 0 0), .lit (.int .i64 (0 : Int)), .lit (.bool false), .lit (.int .i64 (0 : Int)), .lit (.int .i64 (0 : Int))])) hk (ZnC (d := d) (f := (ge d.frames n)) (m := g.1) ZmM rfl (hl.D 0 10 rfl rfl) (hl.D 5 15 rfl rfl) (hs 0 6 _ 16 d0 rfl rfl rfl) hx)) fun v w' hp => ⟨(g.1, v, g.2.2), (fun k' hk' => by rcases k' with _ | _ | _ | _ | k' <;> first | rfl | simp_all), fun _ => rfl, hp⟩
 case e2 =>
  refine ⟨_, rfl, rfl, rfl, rfl, fun D g a w hD hpre hcl hk hx hl hs => ?_⟩
  have d2 := hD
  have d1 : D 1 = true := hpre 1 7 rfl (by decide)
  have d0 : D 0 = true := hpre 0 6 rfl (by decide)
  have d4 : D 4 = false := by cases hq : D 4 with | false => rfl | true => exact absurd (hcl 4 2 10 8 rfl rfl hq (by decide)) (by simp [d2])
  simp only [ZfD, d0, d1, d2, d4, if_true, if_false, Bool.false_eq_true, List.nil_append, Nat.reduceEqDiff, List.cons_append] at hx hl ⊢
  exact Zs (d_boxW (cs := (mkC d (ge d.frames n) [.lit (.map (some g.1)), .lit (.slice none 0 0), .lit (.slice none 0 0), .lit (.slice none 0 0), .lit (.int .i64 (0 : Int)), .lit (.bool false), .lit (.int .i64 (0 : Int)), .lit (.int .i64 (0 : Int))])) hJ rfl (hs 1 7 _ 17 d1 rfl rfl rfl) hk hx) fun v w' ⟨b', hv, hp⟩ => ⟨(g.1, g.2.1, b', g.2.2.2), (fun k' hk' => by rcases k' with _ | _ | _ | _ | k' <;> first | rfl | simp_all), fun _ => hv, hp⟩
 case e3 =>
  refine ⟨_, rfl, rfl, rfl, rfl, fun D g a w hD hpre hcl hk hx hl hs => ?_⟩
  have d3 := hD
  have d4 : D 4 = false := by cases hq : D 4 with | false => rfl | true => exact absurd (hcl 4 3 10 9 rfl rfl hq (by decide)) (by simp [d3])
  simp only [ZfD, d3, d4, if_true, if_false, Bool.false_eq_true, List.nil_append, Nat.reduceEqDiff, List.cons_append] at hx hl ⊢
  simp only [← List.append_assoc] at hx ⊢
  exact Zs (Zbu Zkn hJ rfl hk hx) fun v w' ⟨b', hv, hp⟩ => ⟨(g.1, g.2.1, g.2.2.1, b'), (fun k' hk' => by rcases k' with _ | _ | _ | _ | k' <;> first | rfl | simp_all), fun _ => hv, Zc3 (.refl _) perm_mid.symm hp⟩
 case e4 =>
  refine ⟨_, rfl, rfl, rfl, rfl, fun D g a w hD hpre hcl hk hx hl hs => ?_⟩
  have d4 := hD
  have d3 : D 3 = true := hpre 3 9 rfl (by decide)
  have d2 : D 2 = true := hpre 2 8 rfl (by decide)
  have d1 : D 1 = true := hpre 1 7 rfl (by decide)
  have d0 : D 0 = true := hpre 0 6 rfl (by decide)
  simp only [ZfD, d0, d1, d2, d3, d4, if_true, if_false, Bool.false_eq_true, List.nil_append, Nat.reduceEqDiff, List.cons_append] at hx hl ⊢
  refine Zs (Xm (S' := S) (off := 0) (cs := [.lit (.pointer none)]) (news := [.lit (.pointer (some ⟨g.2.2.1, 0, none⟩))]) (es := [.lit (.pointer (some ⟨g.2.2.1, 0, none⟩))]) (us := [.pointer (some ⟨g.2.2.1, 0, none⟩)]) hJ hJ0 ZkQ rfl hk (Ym perm_3 hx) (Zc8 (hs 3 9 _ 7 d3 rfl rfl rfl)) (by rw [hs 2 8 _ 18 d2 rfl rfl rfl]; rfl) ⟨.lit _ True.intro, trivial⟩ (lb rfl) rfl) fun v w' hp => ⟨g, fun _ _ => rfl, fun e => (by cases e), Zc3 perm_3.symm perm_3.symm hp⟩
 clear a w h
 rintro ⟨m3, x5, b2, b4⟩
 dsimp only [List.map]
 refine kw (ob0 (show OB.var b2 (mkC d (ge d.frames n) [.lit (.map (some m3)), .lit (.slice none 0 0), .lit (.slice none 0 0), .lit (.slice none 0 0), .lit (.int .i64 (0 : Int)), .lit (.bool false), .lit (.int .i64 (0 : Int)), .lit (.int .i64 (0 : Int))]) = OB.var b2 (mkC d (ge d.frames n) [.lit (.map (some m3)), .lit ui, .lit us, .lit ut, .lit (.int .i64 (0 : Int)), .lit (.bool false), .lit (.int .i64 (0 : Int)), .lit (.int .i64 (0 : Int))]) from by rw [hui, hus, hut])) ?_
 refine kw (Yf 89 4 hJ) ?_
 refine kw (ob0 (show OB.row (.slice none 0 0) 89 4 [] = OB.row ui 89 4 (([] : List Itm).map itC) from by rw [hui]; rfl)) ?_
 refine kw (Yf 22 1 hJ) ?_
 refine kw (ob0 (show OB.row (.slice none 0 0) 22 1 [] = OB.row us 22 1 (([] : List (List ByteArray)).map Zj) from by rw [hus]; rfl)) ?_
 refine kw (Yf 22 1 hJ) ?_
 refine kw (ob0 (show OB.row (.slice none 0 0) 22 1 [] = OB.row ut 22 1 (([] : List (List ByteArray)).map Zj) from by rw [hut]; rfl)) ?_
 refine nx (Zo (qso tb hJ [0,1,3,1000,1001] [_,_] [_,_,_,_,_] ?_))
 refine Zg (lpo (ι := Nat × (List (ByteArray × Int))) (fun (k, L) => (k ≤ n) ∧ (L = ZaK (d.frames.take k))) (fun (_, L) => (OB.row ut 22 1 (([] : List (List ByteArray)).map Zj) :: OB.row us 22 1 (([] : List (List ByteArray)).map Zj) :: OB.row ui 89 4 (([] : List Itm).map itC) :: OB.var b2 (mkC d (ge d.frames n) [.lit (.map (some m3)), .lit ui, .lit us, .lit ut, .lit (.int .i64 (0 : Int)), .lit (.bool false), .lit (.int .i64 (0 : Int)), .lit (.int .i64 (0 : Int))]) :: OB.mI m3 L :: OB.var b4 [.lit (.pointer (some ⟨b2, 0, none⟩))] :: OB.var b1 [Zb t] :: R)) (fun (k, _) => [(20, .int (k : Nat))]) (fun (k, _) => n - k) [0,1,2,3,4] [_,_,_,_] (0, ([] : List (ByteArray × Int))) ⟨Nat.zero_le _, namL_nil.symm⟩ ?_)
 rintro ⟨k, L⟩ ⟨f1_1, f1_2⟩
 refine qso tb hJ [0,1,2,3,4,1000] [_] [_,_,_,_,_,_] ?_
 refine cjS 5 (fun hb1 => ?_) fun hb1 => ?_
 ·
  try simp at hb1
  refine Zf (nx (Zo (Zg (qso tb hJ [0,1,2,3,4,1001] [_,_] [_,_,_,_,_,_] ?_))))
  refine tw pm4 ?_
  refine fun a w h => YO (γ := Unit) (fun ix' => ([.at b2 0, .at b2 0, .at b2 11, .lit (.map (some m3)), .ptr [Zan d.frames], .rd (Zan d.frames), .int (k : Nat), .ptr (frC (ge d.frames k)), .ptr (frC (ge d.frames k)), .str ((ge d.frames k).label), .int (k : Nat), .any] : List AV).getD ix' .any) (fun _ => true) [(5, fun (g : Unit) => .at b1 0), (3, fun (g : Unit) => .ptr (dbC d)), (7, fun (g : Unit) => .at b4 0), (19, fun (g : Unit) => .int (n : Nat)), (20, fun (g : Unit) => .int (k : Nat))] (fun (j' : Nat) (g : Unit) => match j' with | 0 => (OB.mI m3 L :: OB.row ut 22 1 (([] : List (List ByteArray)).map Zj) :: OB.row us 22 1 (([] : List (List ByteArray)).map Zj) :: OB.row ui 89 4 (([] : List Itm).map itC) :: OB.var b2 (mkC d (ge d.frames n) [.lit (.map (some m3)), .lit ui, .lit us, .lit ut, .lit (.int .i64 (0 : Int)), .lit (.bool false), .lit (.int .i64 (0 : Int)), .lit (.int .i64 (0 : Int))]) :: OB.var b4 [.lit (.pointer (some ⟨b2, 0, none⟩))] :: OB.var b1 [Zb t] :: R) | _ => (OB.mI m3 (QV L ((ge d.frames k).label) (k : Int)) :: OB.row ut 22 1 (([] : List (List ByteArray)).map Zj) :: OB.row us 22 1 (([] : List (List ByteArray)).map Zj) :: OB.row ui 89 4 (([] : List Itm).map itC) :: OB.var b2 (mkC d (ge d.frames n) [.lit (.map (some m3)), .lit ui, .lit us, .lit ut, .lit (.int .i64 (0 : Int)), .lit (.bool false), .lit (.int .i64 (0 : Int)), .lit (.int .i64 (0 : Int))]) :: OB.var b4 [.lit (.pointer (some ⟨b2, 0, none⟩))] :: OB.var b1 [Zb t] :: R)) (fun (k' : Nat) (g : Unit) => match k' with | 0 => undef | _ => undef) [11] 0 () (fun _ => rfl) h hJ Ye rfl rfl rfl rfl rfl rfl (fun j' g hj p hp => by rcases j' with _ | _ | _ | j' <;> first | exact hp | exact List.mem_cons_of_mem _ hp | exact List.mem_cons_of_mem _ (List.mem_cons_of_mem _ hp) | (exfalso; omega)) ⟨?_, ⟨?_, ⟨?_, ⟨?_, ⟨?_, ⟨?_, ⟨?_, ⟨?_, ⟨?_, ⟨?_, ⟨?_, ⟨?_, trivial⟩⟩⟩⟩⟩⟩⟩⟩⟩⟩⟩⟩ ⟨?e5_1_0, trivial⟩ ⟨.old 0 5 _ rfl rfl, ⟨.old 1 3 _ rfl rfl, ⟨.old 2 7 _ rfl rfl, ⟨.old 3 19 _ rfl rfl, ⟨.old 4 20 _ rfl rfl, trivial⟩⟩⟩⟩⟩ ?n5_1
  exact fun _ O' hO' => ⟨rfl, fun _ _ _ hx hl _ => Zq (cs := [.lit (.pointer (some ⟨b2, 0, none⟩))]) Yb rfl (Zd hx (hO' _ (mo 5 rfl))) (hl.env 2 7 _ rfl rfl) rfl hx⟩
  exact oX rfl fun hx hl => Zm rfl (hl.D 0 23 rfl rfl) hx
  exact oX rfl fun hx hl => Zn Zdz rfl (hl.D 1 24 rfl rfl) hx
  exact fun _ O' hO' => ⟨rfl, fun _ _ _ hx hl _ => Zq (cs := (mkC d (ge d.frames n) [.lit (.map (some m3)), .lit ui, .lit us, .lit ut, .lit (.int .i64 (0 : Int)), .lit (.bool false), .lit (.int .i64 (0 : Int)), .lit (.int .i64 (0 : Int))])) ZpQ rfl (Zd hx (hO' _ (mo 4 rfl))) (hl.D 2 25 rfl rfl) rfl hx⟩
  exact oX rfl fun hx hl => ZU Qq rfl (hl.env 1 3 _ rfl rfl) hx
  exact oX rfl fun hx hl => Zy Zgk rfl (hl.D 4 27 rfl rfl) hx
  exact oX rfl fun hx hl => Ys rfl (hl.env 5 8 _ rfl rfl) hx
  exact oX rfl fun hx hl => Yc (i := (k : Int)) Yh rfl (hl.D 5 28 rfl rfl) (hl.D 6 29 rfl rfl) (Int.natCast_nonneg _) (Yo (xs := d.frames) (k := k) (by first | omega | (simp; omega) | grind [Zc])) rfl hx
  exact oX rfl fun hx hl => ZU Zcg rfl (hl.D 7 30 rfl rfl) hx
  exact oX rfl fun hx hl => Zy Qf rfl (hl.D 8 31 rfl rfl) hx
  exact oX rfl fun hx hl => Ys rfl (hl.env 5 8 _ rfl rfl) hx
  exact Zl rfl
  case e5_1_0 => exact ⟨_, rfl, rfl, rfl, rfl, fun g _ w hk hx hl _ => Zs (Zmk (f := (fun z' : Int => AV.int z')) Zdn hJ hJ0 ((ge d.frames k).label) (k : Int) (.inl rfl) hk hx (hl.D 3 26 rfl rfl) (hl.D 9 32 rfl rfl) (hl.D 10 33 rfl rfl)) fun v w' ⟨_, hp⟩ => ⟨g, rfl, fun _ _ => rfl, fun e => (by cases e), hp⟩⟩
  clear a w h
  intro _
  dsimp only [List.map]
  refine nx (YW tb hJ [0,1,2,3,1001] [.int (k + 1 : Nat),_] [0] [_,_,_,_,_] rfl ⟨Yv, trivial⟩ ?_)
  refine kw pm6 ?_
  refine kw pm6 ?_
  refine kw pm2 ?_
  refine kw pm6 ?_
  refine kw pm6 ?_
  refine kw pm6 ?_
  refine kw pm6 ?_
  exact Xp (k + 1, QV L ((ge d.frames k).label) (k : Int)) [0,1,2,3,4] ⟨by omega, by rw [f1_2]; exact (Zgm (by omega)).symm⟩
 ·
  try simp at hb1
  have hL : L = ZaK (d.frames.take n) := by rw [f1_2, show k = n by omega]
  refine ZA (nx (Zo (tsq ?_)))
  refine sq (.lit (.func (.func 48) #[] #[.pointer (some ⟨b4, 0, none⟩), .pointer (some ⟨b1, 0, none⟩)])) rfl rfl (lb rfl) (fun _ _ h => Zda (caps := [(Go.Operand.tmp 7), (Go.Operand.tmp 5)]) rfl (map_cons (h.get 2 rfl).lit (map_cons (h.get 0 rfl).lit map_nil)) h.x) ?_
  refine kw pm1 ?_
  refine kw pm1 ?_
  refine kw pm4 ?_
  refine kw pm3 ?_
  refine kw pm4 ?_
  refine kw pm6 ?_
  refine kw pm6 ?_
  refine Xr (O := [OB.var b4 [.lit (.pointer (some ⟨b2, 0, none⟩))], OB.var b1 [Zb t], OB.var b2 (mkC d (ge d.frames n) [.lit (.map (some m3)), .lit ui, .lit us, .lit ut, .lit (.int .i64 (0 : Int)), .lit (.bool false), .lit (.int .i64 (0 : Int)), .lit (.int .i64 (0 : Int))]), OB.row ui 89 4 (([] : List Itm).map itC), OB.mI m3 L]) (R := (OB.row ut 22 1 (([] : List (List ByteArray)).map Zj) :: OB.row us 22 1 (([] : List (List ByteArray)).map Zj) :: R)) (Zq0 hJ (bm := b4) (bt := b1) (b := b2) (d := d) (f := (ge d.frames n)) (M := m3) (L := L) (vi := ui) (vs := us) (vt := ut) (n := 0) (kn := false) (y1 := (0 : Int)) (y2 := (0 : Int)) (t := t) (by exact ht) (by exact hh) (by exact hl) (by exact hs)) ZmF rfl rfl rfl (lb rfl) hS hJ0 Zt (fun a w h => (Za (h.get 0 rfl) Ze)) fun z6 => ?_
  refine snK 1 tb rfl ?_
  refine seK [0,5] [_,_] rfl ?_
  refine nx (qso tb hJ [0,1,1001] [_,_] [_,_,_] ?_)
  refine cj 2 (fun hb2 => ?_) fun hb2 => ?_
  ·
   try simp at hb2
   have e5 := Zrk (d := d) (n := n) (t := t) (c := z6.1.1) (by rcases z6.2 with h9 | h9; exact absurd h9.1 hb2; rw [← hL]; exact h9.2)
   refine tsq ?_
   refine sq (.at b2 0) rfl rfl (lb rfl) (fun _ _ h => Zq (cs := [.lit (.pointer (some ⟨b2, 0, none⟩))]) Yb rfl (Zd h.x (mo 0 rfl)) (h.get 1 rfl) rfl h.x) ?_
   refine sq (.at b2 0) rfl rfl (lb rfl) (fun _ _ h => Zm rfl (h.get 0 rfl) h.x) ?_
   refine sq (.at b2 12) rfl rfl (lb rfl) (fun _ _ h => Zn ZO rfl (h.get 0 rfl) h.x) ?_
   refine kw pm2 ?_
   refine ZI (b := b2) (off := 12) (cs := (mkC d (ge d.frames n) [.lit (.map (some m3)), .lit z6.1.2.1, .lit us, .lit ut, .lit (.int .i64 ((0 : Nat) : Int)), .lit (.bool false), .lit (.int .i64 (0 : Int)), .lit (.int .i64 (0 : Int))])) (es := (mkC d (ge d.frames n) [.lit (.map (some m3)), XC ([] : List Itm), .lit us, .lit ut, .lit (.int .i64 ((0 : Nat) : Int)), .lit (.bool false), .lit (.int .i64 (0 : Int)), .lit (.int .i64 (0 : Int))])) hJ hJ0 Xs rfl rfl rfl (lb rfl) rfl (fun a w h => ⟨(h.get 0 rfl), (Ziv (Rel.of_lit (Go.Value.slice none 0 0)))⟩) ?_
   refine seK [3,4] [_,_] rfl ?_
   refine nx (tsq ?_)
   refine sq (.at b2 0) rfl rfl (lb rfl) (fun _ _ h => Zq (cs := [.lit (.pointer (some ⟨b2, 0, none⟩))]) Yb rfl (Zd h.x (mo 1 rfl)) (h.get 1 rfl) rfl h.x) ?_
   refine snK 1 tb rfl ?_
   refine Xr (O := [OB.var b2 (mkC d (ge d.frames n) [.lit (.map (some m3)), XC ([] : List Itm), .lit us, .lit ut, .lit (.int .i64 ((0 : Nat) : Int)), .lit (.bool false), .lit (.int .i64 (0 : Int)), .lit (.int .i64 (0 : Int))])]) (R := (OB.var b4 [.lit (.pointer (some ⟨b2, 0, none⟩))] :: OB.var b1 [Zb t] :: OB.row z6.1.2.1 89 4 (z6.1.2.2.map itC) :: OB.mI m3 L :: OB.row ut 22 1 (([] : List (List ByteArray)).map Zj) :: OB.row us 22 1 (([] : List (List ByteArray)).map Zj) :: R)) (Zf9 hJ (b := b2) (d := d) (f := (ge d.frames n)) (nm := (.map (some m3))) (xs := ([] : List Itm)) (n := 0) (vs := us) (vt := ut) (kn := false) (y1 := (0 : Int)) (y2 := (0 : Int)) (e := z6.1.1) (p := (0 : Int)) ) ZdS rfl rfl rfl (lb rfl) hS hJ0 Zt (fun a w h => (Za (h.get 1 rfl) (Za (h.get 0 rfl) (Za (Rel.of_lit (Go.Value.int Go.IntKind.i64 0)) Ze)))) fun _ => ?_
   refine seK [4] [_] rfl ?_
   refine nx (ZN tb hJ [1001] [.at b2 0,_] [0] [_] rfl ⟨fun _ _ _ hx hl _ => Zq (cs := [.lit (.pointer (some ⟨b2, 0, none⟩))]) Yb rfl (Zd hx (mo 1 rfl)) (hl.env 0 7 _ rfl rfl) rfl hx, trivial⟩ ?_)
   refine tw pm1 ?_
   refine tw ZB ?_
   refine tw pm1 ?_
   refine tw ZB ?_
   refine tw pm1 ?_
   refine tw ZB ?_
   refine tw pm1 ?_
   refine tw ZB ?_
   refine tw pm1 ?_
   refine tw pm2 ?_
   refine tw pm2 ?_
   refine tw (ob0 (show OB.var b2 (mkC d (ge d.frames n) [.lit (.map (some m3)), XC ([] : List Itm), .lit us, .lit ut, .lit (.int .i64 ((0 : Nat) : Int)), .lit (.bool true), .lit (.int .i64 z6.1.1), .lit (.int .i64 (0 : Int))]) = OB.var b2 (mkC d (ge d.frames n) [.lit (.map (some m3)), XC (QX d n t), .lit us, .lit ut, .lit (.int .i64 (((Zar d n t).n : Nat) : Int)), .lit (.bool ((Zar d n t).kn)), .lit (.int .i64 ((Zar d n t).v.1)), .lit (.int .i64 ((Zar d n t).v.2))]) from by first | (rw [e5.1, e5.2.2.2.1, e5.2.2.2.2.1, e5.2.2.2.2.2.1, e5.2.2.2.2.2.2]; done) | (rw [e5.1, e5.2.2.2.1, e5.2.2.2.2.1, e5.2.2.2.2.2.1, e5.2.2.2.2.2.2]; rfl) | (rw [e5.2.1]) | (rw [e5.2.2.1]))) ?_
   refine tw (ob1 (congrArg (fun z' => OB.row us 22 1 ((z').map Zj)) (show ([] : List (List ByteArray)) = ((Zar d n t).sk) from by first | (rw [e5.1, e5.2.2.2.1, e5.2.2.2.2.1, e5.2.2.2.2.2.1, e5.2.2.2.2.2.2]; done) | (rw [e5.1, e5.2.2.2.1, e5.2.2.2.2.1, e5.2.2.2.2.2.1, e5.2.2.2.2.2.2]; rfl) | (rw [e5.2.1]) | (rw [e5.2.2.1])))) ?_
   refine tw (ob2 (congrArg (fun z' => OB.row ut 22 1 ((z').map Zj)) (show ([] : List (List ByteArray)) = ((Zar d n t).tg) from by first | (rw [e5.1, e5.2.2.2.1, e5.2.2.2.2.1, e5.2.2.2.2.2.1, e5.2.2.2.2.2.2]; done) | (rw [e5.1, e5.2.2.2.1, e5.2.2.2.2.1, e5.2.2.2.2.2.1, e5.2.2.2.2.2.2]; rfl) | (rw [e5.2.1]) | (rw [e5.2.2.1])))) ?_
   exact Zi (fun a w h => ZP  (m := 0) (b2, (.map (some m3)), us, ut) rfl h rfl rfl)
  ·
   try simp at hb2
   have e5 := mch_ok (d := d) (n := n) (t := t) (xs := z6.1.2.2) (by rcases z6.2 with h9 | h9; rw [← hL]; exact h9.2; exact absurd hb2 h9.1)
   refine Zf (nx (tw pm2 ?_))
   refine tw pm3 ?_
   refine tw (fun h => Zae (j := 12) (cs' := (mkC d (ge d.frames n) [.lit (.map (some m3)), XC z6.1.2.2, .lit us, .lit ut, .lit (.int .i64 ((0 : Nat) : Int)), .lit (.bool false), .lit (.int .i64 (0 : Int)), .lit (.int .i64 (0 : Int))])) hS rfl rfl h) ?_
   refine tsq ?_
   refine sq (.at b2 0) rfl rfl (lb rfl) (fun _ _ h => Zq (cs := [.lit (.pointer (some ⟨b2, 0, none⟩))]) Yb rfl (Zd h.x (mo 1 rfl)) (h.get 1 rfl) rfl h.x) ?_
   refine kw pm4 ?_
   refine kw pm4 ?_
   refine kw pm4 ?_
   refine kw pm4 ?_
   refine kw pm5 ?_
   refine kw pm5 ?_
   refine Xr (O := [OB.var b2 (mkC d (ge d.frames n) [.lit (.map (some m3)), XC z6.1.2.2, .lit us, .lit ut, .lit (.int .i64 ((0 : Nat) : Int)), .lit (.bool false), .lit (.int .i64 (0 : Int)), .lit (.int .i64 (0 : Int))]), OB.row us 22 1 (([] : List (List ByteArray)).map Zj)]) (R := (OB.var b4 [.lit (.pointer (some ⟨b2, 0, none⟩))] :: OB.var b1 [Zb t] :: OB.mI m3 L :: OB.row ut 22 1 (([] : List (List ByteArray)).map Zj) :: R)) (Zq2 hJ (b := b2) (d := d) (f := (ge d.frames n)) (nm := (.map (some m3))) (xs := z6.1.2.2) (vs := us) (vt := ut) (n := 0) (kn := false) (y1 := (0 : Int)) (y2 := (0 : Int)) (sk := ([] : List (List ByteArray))) ) ZhK rfl rfl rfl (lb rfl) hS hJ0 Zt (fun a w h => (Za (h.get 0 rfl) Ze)) fun _ => ?_
   refine seK [3] [_] rfl ?_
   refine nx (ZN tb hJ [1001] [.at b2 0,_] [0] [_] rfl ⟨fun _ _ _ hx hl _ => Zq (cs := [.lit (.pointer (some ⟨b2, 0, none⟩))]) Yb rfl (Zd hx (mo 2 rfl)) (hl.env 0 7 _ rfl rfl) rfl hx, trivial⟩ ?_)
   refine tw pm2 ?_
   refine tw ZB ?_
   refine tw pm2 ?_
   refine tw ZB ?_
   refine tw pm2 ?_
   refine tw ZB ?_
   refine tw (ob0 (show OB.var b2 (mkC d (ge d.frames n) [.lit (.map (some m3)), XC z6.1.2.2, .lit us, .lit ut, .lit (.int .i64 ((0 : Nat) : Int)), .lit (.bool (false || !decide (0 < z6.1.2.2.length))), .lit (.int .i64 (if 0 < z6.1.2.2.length then (0 : Int) else (Zd2 (ge d.frames n) ([] : List (List ByteArray)) 0).1)), .lit (.int .i64 (if 0 < z6.1.2.2.length then (0 : Int) else (Zd2 (ge d.frames n) ([] : List (List ByteArray)) 0).2))]) = OB.var b2 (mkC d (ge d.frames n) [.lit (.map (some m3)), XC (QX d n t), .lit us, .lit ut, .lit (.int .i64 (((Zar d n t).n : Nat) : Int)), .lit (.bool ((Zar d n t).kn)), .lit (.int .i64 ((Zar d n t).v.1)), .lit (.int .i64 ((Zar d n t).v.2))]) from by first | (rw [e5.1, e5.2.2.2.1, e5.2.2.2.2.1, e5.2.2.2.2.2.1, e5.2.2.2.2.2.2]; done) | (rw [e5.1, e5.2.2.2.1, e5.2.2.2.2.1, e5.2.2.2.2.2.1, e5.2.2.2.2.2.2]; rfl) | (rw [e5.2.1]) | (rw [e5.2.2.1]))) ?_
   refine tw (ob1 (congrArg (fun z' => OB.row us 22 1 ((z').map Zj)) (show ([] : List (List ByteArray)) = ((Zar d n t).sk) from by first | (rw [e5.1, e5.2.2.2.1, e5.2.2.2.2.1, e5.2.2.2.2.2.1, e5.2.2.2.2.2.2]; done) | (rw [e5.1, e5.2.2.2.1, e5.2.2.2.2.1, e5.2.2.2.2.2.1, e5.2.2.2.2.2.2]; rfl) | (rw [e5.2.1]) | (rw [e5.2.2.1])))) ?_
   refine tw (ob2 (congrArg (fun z' => OB.row ut 22 1 ((z').map Zj)) (show ([] : List (List ByteArray)) = ((Zar d n t).tg) from by first | (rw [e5.1, e5.2.2.2.1, e5.2.2.2.2.1, e5.2.2.2.2.2.1, e5.2.2.2.2.2.2]; done) | (rw [e5.1, e5.2.2.2.1, e5.2.2.2.2.1, e5.2.2.2.2.2.1, e5.2.2.2.2.2.2]; rfl) | (rw [e5.2.1]) | (rw [e5.2.2.1])))) ?_
   exact Zi (fun a w h => ZP  (m := 0) (b2, (.map (some m3)), us, ut) rfl h rfl rfl)
theorem Zlh {J : World → Prop} (hJ : Stab J) (d : Db) (n : Nat) (t : List ByteArray) (hn : n < d.frames.length) (hfl : d.frames.length ≤ 400) (hfr : ∀ g ∈ d.frames, okF g ∧ okT g) (hM : Zeb (ZaK (d.frames.take n)) d.frames.length) (hf : Zfd (ge d.frames n)) (hw : ∀ g ∈ d.frames, g.wide.length * 32 ≤ 140737488351232) (hl : t.length ≤ 100000) (hs : ZbG t ≤ 1000000000) : Fn Tryz.prog J 37 [.agg (dbC d), .int (n : Nat), .rd (Zb t)] (.agg (vdC (ZcX d.frames d.vars (ge d.frames n) (ZaK (d.frames.take n)) t))) := by
 refine Zx (N := 19) Tryz.func37 rfl rfl (lb rfl) fun S w0 hS hJ0 => ?_
 refine tw Yr ?_
 refine ln 2 fun hl1 => ?_
 obtain ⟨h0, h00⟩ := startV (t := t) hM hf
 refine tsq ?_
 refine sq (.ptr (dbC d)) rfl rfl (lb rfl) (fun _ _ h => Y1 rfl (h.get 0 rfl) (Zr hS _ h.keep h.x _ (Nat.le_refl _)) (jo hJ h.x)) ?_
 refine ZW Zb5 hJ rfl rfl rfl (lb rfl) fun b1 => ?_
 refine seK [0,1,3,4] [_,_,_,_] rfl ?_
 refine nx (Zh3 (tsq ?_))
 refine snK 3 tb rfl ?_
 refine Xr (O := []) (R := [OB.var b1 [.lit (.int .i64 0), .lit (.int .i64 0)]]) (Zll hJ (d := d) (n := n) (t := t) (by first | omega | (simp; omega) | grind [Zc]) (by first | omega | (simp; omega) | grind [Zc]) (by exact fun h hh => (hf h hh).2) (by exact (hfr _ (Zc hn)).1.1) (by exact hl) (by exact hs)) Zsj rfl rfl rfl (lb rfl) hS hJ0 Zt (fun a w h => (Za (h.get 2 rfl) (Za (h.get 1 rfl) (Za (h.get 0 rfl) Ze)))) fun z2 => ?_
 refine snK 1 tb rfl ?_
 refine seK [0,5] [_,_] rfl ?_
 refine nx (Zo (Zh4 (nx (Zo (Zg (lpo (ι := Ms × Value × Value) (fun (m9, _, _) => (InvM (QX d n t) m9) ∧ ((Zd1 d.frames d.vars (ge d.frames n) (QX d n t) ((QX d n t).length + 1) (Zar d n t)).v = (Zd1 d.frames d.vars (ge d.frames n) (QX d n t) ((QX d n t).length + 1 - m9.n) m9).v)) (fun (m9, vs, vt) => [OB.var z2.1 (mkC d (ge d.frames n) [.lit z2.2.1, XC (QX d n t), .lit vs, .lit vt, .lit (.int .i64 (m9.n : Int)), .lit (.bool m9.kn), .lit (.int .i64 m9.v.1), .lit (.int .i64 m9.v.2)]), OB.row vs 22 1 (m9.sk.map Zj), OB.row vt 22 1 (m9.tg.map Zj), OB.var b1 [.lit (.int .i64 0), .lit (.int .i64 0)]]) (fun (_, _, _) => []) (fun (m9, _, _) => (QX d n t).length - m9.n) [0,1] [_,_] ((Zar d n t), z2.2.2.1, z2.2.2.2) ⟨h00, by rw [show (Zar d n t).n = 0 from Zqw]; rfl⟩ ?_))))))
 rintro ⟨m9, vs, vt⟩ ⟨f1_1, f1_2⟩
 refine Zg (tsq ?_)
 refine snK 1 tb rfl ?_
 refine Xr (O := [OB.var z2.1 (mkC d (ge d.frames n) [.lit z2.2.1, XC (QX d n t), .lit vs, .lit vt, .lit (.int .i64 (m9.n : Int)), .lit (.bool m9.kn), .lit (.int .i64 m9.v.1), .lit (.int .i64 m9.v.2)]), OB.row vs 22 1 (m9.sk.map Zj), OB.row vt 22 1 (m9.tg.map Zj)]) (R := [OB.var b1 [.lit (.int .i64 0), .lit (.int .i64 0)]]) (p_step hJ (b := z2.1) (d := d) (f := (ge d.frames n)) (nm := z2.2.1) (xs := (QX d n t)) (vs := vs) (vt := vt) (n := m9.n) (kn := m9.kn) (y1 := m9.v.1) (y2 := m9.v.2) (sk := m9.sk) (tg := m9.tg) (by exact inv_i h0 f1_1) (by exact f1_1.sk) (by exact (Zrx h0 f1_1).1) (by exact (Zrx h0 f1_1).2.1) (by exact (Zrx h0 f1_1).2.2) (by exact fun g hg => (hfr g hg).1) (by exact hw _ (Zc hn))) Zsi rfl rfl rfl (lb rfl) hS hJ0 Zt (fun a w h => (Za (h.get 0 rfl) Ze)) fun z3 => ?_
 refine snK 1 tb rfl ?_
 refine seK [0,3,4] [_,_,_] rfl ?_
 refine nx (cj 0 (fun hb1 => ?_) fun hb1 => ?_)
 try simp at hb1
 have e5 := f1_2.trans (Znp (fs := d.frames) (vars := d.vars) (f := ge d.frames n) f1_1 (by rw [← Zh6]; exact hb1))
 refine ZA (nx (tsq ?_))
 refine snK 1 tb rfl ?_
 refine sq (.at z2.1 0) rfl rfl (lb rfl) (fun _ _ h => Zm rfl (h.get 0 rfl) h.x) ?_
 refine sq (.at z2.1 17) rfl rfl (lb rfl) (fun _ _ h => Zn Zdx rfl (h.get 0 rfl) h.x) ?_
 refine sq (.agg [.lit (.int .i64 ((ZS d.frames d.vars (ge d.frames n) (QX d n t) ⟨m9.sk, m9.tg, m9.n, m9.kn, (m9.v.1, m9.v.2), false⟩).v.1)), .lit (.int .i64 ((ZS d.frames d.vars (ge d.frames n) (QX d n t) ⟨m9.sk, m9.tg, m9.n, m9.kn, (m9.v.1, m9.v.2), false⟩).v.2))]) rfl rfl (lb rfl) (fun _ _ h => Yd (cs := (mkC d (ge d.frames n) [.lit z2.2.1, XC (QX d n t), .lit z3.1, .lit z3.2, .lit (.int .i64 (((ZS d.frames d.vars (ge d.frames n) (QX d n t) ⟨m9.sk, m9.tg, m9.n, m9.kn, (m9.v.1, m9.v.2), false⟩).n : Nat) : Int)), .lit (.bool ((ZS d.frames d.vars (ge d.frames n) (QX d n t) ⟨m9.sk, m9.tg, m9.n, m9.kn, (m9.v.1, m9.v.2), false⟩).kn)), .lit (.int .i64 ((ZS d.frames d.vars (ge d.frames n) (QX d n t) ⟨m9.sk, m9.tg, m9.n, m9.kn, (m9.v.1, m9.v.2), false⟩).v.1)), .lit (.int .i64 ((ZS d.frames d.vars (ge d.frames n) (QX d n t) ⟨m9.sk, m9.tg, m9.n, m9.kn, (m9.v.1, m9.v.2), false⟩).v.2))])) (ds := [.lit (.int .i64 ((ZS d.frames d.vars (ge d.frames n) (QX d n t) ⟨m9.sk, m9.tg, m9.n, m9.kn, (m9.v.1, m9.v.2), false⟩).v.1)), .lit (.int .i64 ((ZS d.frames d.vars (ge d.frames n) (QX d n t) ⟨m9.sk, m9.tg, m9.n, m9.kn, (m9.v.1, m9.v.2), false⟩).v.2))]) Zbb rfl (Zd h.x (mo 0 rfl)) (h.get 0 rfl) rfl rfl h.x) ?_
 refine kw pm3 ?_
 refine ZE (b := b1) (off := 0) (cs := [.lit (.int .i64 0), .lit (.int .i64 0)]) (es := [.lit (.int .i64 ((ZS d.frames d.vars (ge d.frames n) (QX d n t) ⟨m9.sk, m9.tg, m9.n, m9.kn, (m9.v.1, m9.v.2), false⟩).v.1)), .lit (.int .i64 ((ZS d.frames d.vars (ge d.frames n) (QX d n t) ⟨m9.sk, m9.tg, m9.n, m9.kn, (m9.v.1, m9.v.2), false⟩).v.2))]) (news := [.lit (.int .i64 ((ZS d.frames d.vars (ge d.frames n) (QX d n t) ⟨m9.sk, m9.tg, m9.n, m9.kn, (m9.v.1, m9.v.2), false⟩).v.1)), .lit (.int .i64 ((ZS d.frames d.vars (ge d.frames n) (QX d n t) ⟨m9.sk, m9.tg, m9.n, m9.kn, (m9.v.1, m9.v.2), false⟩).v.2))]) hJ hJ0 QU rfl rfl rfl (lb rfl) rfl (fun a w h => ⟨(h.get 6 rfl), (h.get 0 rfl)⟩) ?_
 refine seK [6] [_] rfl ?_
 exact nx (Zi (fun a w h => Zam (cs := [.lit (.int .i64 ((ZS d.frames d.vars (ge d.frames n) (QX d n t) ⟨m9.sk, m9.tg, m9.n, m9.kn, (m9.v.1, m9.v.2), false⟩).v.1)), .lit (.int .i64 ((ZS d.frames d.vars (ge d.frames n) (QX d n t) ⟨m9.sk, m9.tg, m9.n, m9.kn, (m9.v.1, m9.v.2), false⟩).v.2))]) (m := 0) rfl Zbb h rfl rfl (show ([.lit (.int .i64 ((ZS d.frames d.vars (ge d.frames n) (QX d n t) ⟨m9.sk, m9.tg, m9.n, m9.kn, (m9.v.1, m9.v.2), false⟩).v.1)), .lit (.int .i64 ((ZS d.frames d.vars (ge d.frames n) (QX d n t) ⟨m9.sk, m9.tg, m9.n, m9.kn, (m9.v.1, m9.v.2), false⟩).v.2))] : List CD) = [.lit (.int .i64 ((ZcX d.frames d.vars (ge d.frames n) (ZaK (d.frames.take n)) t).1)), .lit (.int .i64 ((ZcX d.frames d.vars (ge d.frames n) (ZaK (d.frames.take n)) t).2))] from by rw [verV, e5]; rfl)))
 try simp at hb1
 have e6 := Zno (fs := d.frames) (vars := d.vars) (f := ge d.frames n) f1_1 (by rw [← Zh6]; exact hb1)
 exact Zf (Xp ((ZS d.frames d.vars (ge d.frames n) (QX d n t) m9), z3.1, z3.2) [1,2] ⟨Znl (fun g hg => (hfr g hg).2) h0 f1_1, f1_2.trans e6.1⟩ (hm := (show (QX d n t).length - (ZS d.frames d.vars (ge d.frames n) (QX d n t) m9).n < (QX d n t).length - m9.n from by rw [e6.2.1]; omega)))
end Go.Proofs.YtgifeodnngodiaaGreatDoor
