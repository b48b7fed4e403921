/-
  DERIVED: THE SHELF's CONTRACTS AT THIS DUMP, IN PLAIN WORDS (tools/lay-plain.mjs out of 'TryzShelf.lean', which tools/lay-shelf.mjs wrote): THE SAME DECLARATIONS UNDER THE SAME NAMES: 'import', 'namespace', 'open', 'def', 'theorem' AND NOTHING ELSE: no command of the shelf's: FOR A HAND-IN. Each laying: the table of numbers ('.._ren') and one theorem, a field a fact of the dump's own or the kernel's comparison; each contract: ONE APPLICATION.
  CHAINS OF USES: the shortest, of several ones the least; a search that meets the assertions in the order of their least chains.
  CONTRACTS of the program: a least chain.
  CHAINS, CUT AND JOINED: a least one there is; what must be on every chain is on it, and parts it in two least ones.
  THE LAW DependMust returns true.
  THE ENGINE: rows of a row, each one grown by itself.
  HOW FAR IT IS: the reference's table of distances; its way along it is the least chain.
  PLAIN LAW: what the reference's Chain and Must compute; levels.
  PLAIN LAW: the levels.
  CONTRACTS of the program: levels.
  CONTRACTS: an order by priorities by the reference.
  CONTRACTS: chains by the reference.
  CONTRACTS: levels by the reference.
  THE LAW DependChains returns true.
-/
import Derived.Shelf.Small.Utf8
import Derived.Shelf.Small.Bits
import Derived.Shelf.Small.Strs
import Derived.Shelf.Strconv.Itoa0
import Derived.Shelf.Strings.Search1
import Derived.Shelf.Sort.Plain
import Derived.Shelf.GgClosure.StringsIndexFunc
import Derived.Ground.GgwProg
import Derived.Shelf.GgClosure.StringsIndexFuncTop
import Derived.Shelf.GgClosure.StringsRunes
import Derived.Shelf.Strings.Prefix
import Derived.Shelf.Strings.Runes
import Derived.Shelf.Strings.FuncGrows
import Derived.Shelf.Slices.Turned
import Derived.Shelf.Slices.Reverse
import Derived.Shelf.Slices.Equal
import Derived.Ground.Names2Prog
import Derived.Shelf.Slices.Clone
import Derived.Shelf.Slices.SearchI
import Derived.Shelf.Slices.Cells
import Derived.Shelf.Slices.In.SortNone
import Derived.Shelf.Slices.Empties2
import Derived.Ground.SlgnProg
import Derived.Shelf.SlicesE.Clone
import Derived.Test.YtnpgmdffjemnbaaGreatDoorProg
import Derived.Test.YtnpgmdffjemnbaaGreatDoorJV
import Derived.Test.YtnpgmdffjemnbaaGreatDoorJK
import Derived.Test.YtnpgmdffjemnbaaGreatDoorJW
import Derived.Test.YtnpgmdffjemnbaaGreatDoorJP
namespace Go.Proofs
open Go.Shelf
def Tryz.lays112_ren : Go.Shelf.Ren := ⟨fun | 112 => 55 | n => n, fun | 28 => 28 | 3 => 3 | 4 => 4 | 0 => 0 | n => n, fun | n => n⟩
theorem Tryz.lays112 : Go.Proofs.Lays.n112 Tryz.prog Tryz.lays112_ren := {
  mixed := by kernel_rfl
  f112 := Tryz.func55.trans (congrArg some (by kernel_rfl))
  t0 := Tryz.underlying0
  a0 := Tryz.isAgg0
  z0 := Tryz.sizeOf0
  v0 := Tryz.zeroValue0
  t3 := Tryz.underlying3
  a3 := Tryz.isAgg3
  z3 := Tryz.sizeOf3
  v3 := Tryz.zeroValue3
  t4 := Tryz.underlying4
  a4 := Tryz.isAgg4
  z4 := Tryz.sizeOf4
  v4 := Tryz.zeroValue4
  t28 := Tryz.underlying28
  a28 := Tryz.isAgg28
  z28 := Tryz.sizeOf28
  v28 := Tryz.zeroValue28 }
open Go.RowKit Go.Lib Go.Sort in
theorem Tryz.slices_Reverse_int_cells (b off n c : Nat) (zs : List Int) (w : World) (hz : n ≤ zs.length) (hbig : n ≤ 9223372036854775807) (hc : ∀ j, j < zs.length → w.cell? ⟨b, off + j, none⟩ = some (.int .i64 (zs.getD j 0))) (hf : ∀ j, j < n → w.frozen? ⟨b, off + j, none⟩ = false) :
    Calls Tryz.prog 55 #[.slice (some ⟨b, off, none⟩) n c] w fun e w' => e = .returned (.tuple #[]) ∧ ∃ q, w' = (w.drewN q).setCells b off ((zs.take n).reverse.map (Value.int .i64)) := Any.slices_Reverse_int_cells Tryz.lays112 b off n c zs w hz hbig hc hf
end Go.Proofs
namespace Go.Proofs.YtnpgmdffjemnbaaGreatDoor

inductive IsCh (us : List (List Int)) (f : Int) : Int → List Int → Prop where
  | one : IsCh us f f [f]
  | snoc (b c : Int) (l : List Int) (h : IsCh us f b l) (hc : c ∈ ge us b.toNat) : IsCh us f c (l ++ [c])
def LL (a b : List Int) : Prop := a.length < b.length ∨ (a.length = b.length ∧ a < b)
theorem ZdR : ∀ {a b : List Int} {x y : Int}, a.length = b.length → (a < b ∨ (a = b ∧ x < y)) → a ++ [x] < b ++ [y]
  | [], [], x, y, _, h => by
    rcases h with h | ⟨_, h⟩
    · exact absurd h (by simp)
    · simpa [List.cons_lt_cons_iff] using h
  | p :: a, q :: b, x, y, hl, h => by
    simp only [List.cons_append, List.cons_lt_cons_iff]
    have hl' : a.length = b.length := by simpa using hl
    rcases h with h | ⟨h, hxy⟩
    · rw [List.cons_lt_cons_iff] at h
      rcases h with h | ⟨h, h2⟩
      · exact .inl h
      · exact .inr ⟨h, ZdR hl' (.inl h2)⟩
    · injection h with h1 h2
      exact .inr ⟨h1, ZdR hl' (.inr ⟨h2, hxy⟩)⟩
theorem LL.snoc {a b : List Int} (h : LL a b) (x y : Int) : LL (a ++ [x]) (b ++ [y]) := by
  rcases h with h | ⟨h1, h2⟩
  · exact .inl (by simpa using h)
  · exact .inr ⟨by simpa using h1, ZdR h1 (.inl h2)⟩
theorem LL.snoc_same {a : List Int} {x y : Int} (h : x < y) : LL (a ++ [x]) (a ++ [y]) := .inr ⟨by simp, ZdR rfl (.inr ⟨rfl, h⟩)⟩
theorem LL.irr {a : List Int} (h : LL a a) : False := by
  rcases h with h | ⟨_, h⟩
  · omega
  · exact List.lt_irrefl a h
theorem LL.trans {a b c : List Int} (h : LL a b) (k : LL b c) : LL a c := by
  rcases h with h | ⟨h1, h2⟩ <;> rcases k with k | ⟨k1, k2⟩
  · exact .inl (by omega)
  · exact .inl (by omega)
  · exact .inl (by omega)
  · exact .inr ⟨by omega, List.lt_trans h2 k2⟩
theorem LL.le {a b : List Int} (h : LL a b) : a.length ≤ b.length := by
  rcases h with h | ⟨h, _⟩ <;> omega
def IsLeast (us : List (List Int)) (f t : Int) (l : List Int) : Prop := IsCh us f t l ∧ ∀ l', IsCh us f t l' → l' = l ∨ LL l l'
theorem IsLeast.uniq {us : List (List Int)} {f t : Int} {a b : List Int} (ha : IsLeast us f t a) (hb : IsLeast us f t b) : a = b := by
  rcases ha.2 b hb.1 with h | h
  · exact h.symm
  · rcases hb.2 a ha.1 with k | k
    · exact k
    · exact (LL.irr (h.trans k)).elim
section
variable {us : List (List Int)} {f t : Int}
theorem IsCh.rch {l : List Int} (h : IsCh us f t l) : Rch us f t := by
  induction h with
  | one => exact .refl _
  | snoc b c l _ hc ih => exact ih.trans (.one hc)
theorem IsCh.pos {l : List Int} (h : IsCh us f t l) : 1 ≤ l.length := by
  cases h with
  | one => exact Nat.le_refl _
  | snoc => simp
theorem YW : IsLeast us f f [f] := by
  refine ⟨.one, fun l' h => ?_⟩
  cases h with
  | one => exact .inl rfl
  | snoc b c l h hc => exact .inr (.inl (by have := h.pos; simp; omega))
theorem IsCh.leaves {K : List Int} {l : List Int} (h : IsCh us f t l) (hf : f ∈ K) (ht : t ∉ K) : ∃ w x l0, IsCh us f w l0 ∧ w ∈ K ∧ x ∈ ge us w.toNat ∧ x ∉ K ∧ l0.length < l.length := by
  induction h with
  | one => exact absurd hf ht
  | snoc b c l h hc ih =>
    by_cases hb : b ∈ K
    · exact ⟨b, c, l, h, hb, hc, ht, by simp⟩
    · obtain ⟨w, x, l0, h1, h2, h3, h4, h5⟩ := ih hb
      exact ⟨w, x, l0, h1, h2, h3, h4, by simp; omega⟩
inductive Pth (L : List (Int × Int)) (f : Int) : Int → List Int → Prop where
  | one : Pth L f f [f]
  | snoc (v u : Int) (l : List Int) (hv : v ≠ f) (hm : Zq L v = some u) (h : Pth L f u l) : Pth L f v (l ++ [v])
theorem Pth.uniq {L : List (Int × Int)} {v : Int} {a : List Int} (h : Pth L f v a) : ∀ {b}, Pth L f v b → a = b := by
  induction h with
  | one =>
    intro b k
    cases k with
    | one => rfl
    | snoc v u l hv => exact absurd rfl hv
  | snoc v u l hv hm _ ih =>
    intro b k
    cases k with
    | one => exact absurd rfl hv
    | snoc v u' l' hv' hm' h' =>
      rw [hm] at hm'
      cases hm'
      rw [ih h']
theorem Pth.put {L : List (Int × Int)} {v k i : Int} {l : List Int} (h : Pth L f v l) (hk : Zq L k = none) : Pth (Ql L k i) f v l := by
  induction h with
  | one => exact .one
  | snoc v u l hv hm _ ih =>
    refine .snoc v u l hv ?_ ih
    rw [XC, if_neg (fun e => by rw [e, hk] at hm; cases hm)]
    exact hm
theorem Pth.pos {L : List (Int × Int)} {v : Int} {l : List Int} (h : Pth L f v l) : 1 ≤ l.length := by
  cases h <;> simp

structure BfI (us : List (List Int)) (f : Int) (L : List (Int × Int)) (E : List Int) (i : Int) (q : List Int) (j : Nat) : Prop where
  keys : L.map (·.1) = E ++ i :: q
  first : f ∈ E ++ i :: q
  nod : (E ++ i :: q).Nodup
  pth : ∀ v ∈ E ++ i :: q, ∃ l, Pth L f v l ∧ IsLeast us f v l
  ord : (E ++ i :: q).Pairwise fun u v => ∀ a b, IsLeast us f u a → IsLeast us f v b → LL a b
  clo : ∀ u ∈ E, ∀ x ∈ ge us u.toNat, x ∈ E ++ i :: q
  cloi : ∀ x ∈ (ge us i.toNat).take j, x ∈ E ++ i :: q
  par : ∀ v ∈ E ++ i :: q, v ≠ f → ∃ u, Zq L v = some u ∧ v ∈ ge us u.toNat ∧ (u ∈ E ∨ (u = i ∧ v ∈ (ge us i.toNat).take j))
variable {L : List (Int × Int)} {E q : List Int} {i k : Int} {j : Nat}
theorem BfI.start (us : List (List Int)) (f : Int) : BfI us f [(f, f)] [] f [] 0 where
  keys := rfl
  first := by simp
  nod := by simp
  pth := fun v hv => by obtain rfl : v = f := by simpa using hv
                        exact ⟨_, .one, YW⟩
  ord := by simp
  clo := fun u hu => by cases hu
  cloi := fun x hx => by simp at hx
  par := fun v hv hn => absurd (by simpa using hv) hn
theorem BfI.met (h : BfI us f L E i q j) (v : Int) : (Zq L v).isSome = decide (v ∈ E ++ i :: q) := by rw [YS, h.keys]
theorem BfI.skip (h : BfI us f L E i q j) (hj : j < (ge us i.toNat).length) (hm : (Zq L (ge (ge us i.toNat) j)).isSome = true) : BfI us f L E i q (j + 1) :=
  { h with
    cloi := fun x hx => by
      rw [ZS hj] at hx
      rcases List.mem_append.1 hx with hx | hx
      · exact h.cloi x hx
      · rw [List.mem_singleton.1 hx]; rw [h.met] at hm; exact of_decide_eq_true hm
    par := fun v hv hn => by
      obtain ⟨u, h1, h2, h3⟩ := h.par v hv hn
      refine ⟨u, h1, h2, h3.imp id fun ⟨e, k⟩ => ⟨e, ?_⟩⟩
      rw [ZS hj]; exact List.mem_append_left _ k }
theorem BfI.add (ha : ∀ n, (ge us n).Pairwise (· < ·)) (h : BfI us f L E i q j) (hj : j < (ge us i.toNat).length) (hm : (Zq L (ge (ge us i.toNat) j)).isSome = false) : BfI us f (Ql L (ge (ge us i.toNat) j) i) E i (q ++ [ge (ge us i.toNat) j]) (j + 1) := by
  generalize hk : ge (ge us i.toNat) j = k at *
  have hku : k ∈ ge us i.toNat := hk ▸ Zb hj
  have hnone : Zq L k = none := by simpa using hm
  rw [h.met] at hm
  have hnew : k ∉ E ++ i :: q := of_decide_eq_false hm
  have hkeys : E ++ i :: (q ++ [k]) = (E ++ i :: q) ++ [k] := by simp
  have hsub : ∀ {x}, x ∈ E ++ i :: q → x ∈ E ++ i :: (q ++ [k]) := fun hx => by rw [hkeys]; exact List.mem_append_left _ hx
  have hik : i ∈ E ++ i :: q := by simp
  have hkf : k ≠ f := fun e => hnew (e ▸ h.first)
  obtain ⟨pi, hpi, hli⟩ := h.pth i hik
  -- i stands ahead of all that wait
  have hq : ∀ u ∈ q, ∀ b, IsLeast us f u b → LL pi b := fun u hu b hb => by
    have h1 := (List.pairwise_append.1 h.ord).2.1
    exact (List.pairwise_cons.1 h1).1 u hu pi b hli hb
  have hE : ∀ u ∈ E, ∀ b, IsLeast us f u b → LL b pi := fun u hu b hb => (List.pairwise_append.1 h.ord).2.2 u hu i (List.mem_cons_self ..) b pi hb hli
  have hlk : IsLeast us f k (pi ++ [k]) := by
    refine ⟨.snoc i k pi hli.1 hku, fun l' hl' => ?_⟩
    cases hl' with
    | one => exact absurd rfl hkf
    | snoc u _ l hu hc =>
      by_cases hin : u ∈ E ++ i :: q
      · rcases List.mem_append.1 hin with hin | hin
        · exact absurd (h.clo u hin k hc) hnew
        · rcases List.mem_cons.1 hin with rfl | hin
          · rcases hli.2 l hu with e | e
            · exact .inl (by rw [e])
            · exact .inr (e.snoc _ _)
          · obtain ⟨pu, _, hlu⟩ := h.pth u (by simp [hin])
            have h1 := hq u hin pu hlu
            rcases hlu.2 l hu with e | e
            · exact .inr ((e ▸ h1).snoc _ _)
            · exact .inr ((h1.trans e).snoc _ _)
      · obtain ⟨w, x, l0, h1, h2, h3, h4, h5⟩ := hu.leaves h.first hin
        obtain ⟨pw, _, hlw⟩ := h.pth w h2
        have hle : pi.length ≤ pw.length := by
          rcases List.mem_append.1 h2 with h2 | h2
          · exact absurd (h.clo w h2 x h3) h4
          · rcases List.mem_cons.1 h2 with rfl | h2
            · rw [hlw.uniq hli]; exact Nat.le_refl _
            · exact (hq w h2 pw hlw).le
        have hle2 : pw.length ≤ l0.length := by
          rcases hlw.2 l0 h1 with e | e
          · rw [e]; exact Nat.le_refl _
          · exact e.le
        exact .inr (.inl (by simp; omega))
  refine ⟨?_, hsub h.first, ?_, ?_, ?_, fun u hu x hx => hsub (h.clo u hu x hx), ?_, ?_⟩
  · rw [ZeU, h.keys, if_neg hnew, hkeys]
  · rw [hkeys]
    exact List.nodup_append.2 ⟨h.nod, by simp, fun a ha' b hb e => hnew (by rw [← List.mem_singleton.1 hb, ← e]; exact ha')⟩
  · intro v hv
    rw [hkeys] at hv
    rcases List.mem_append.1 hv with hv | hv
    · obtain ⟨l, h1, h2⟩ := h.pth v hv
      exact ⟨l, h1.put hnone, h2⟩
    · rw [List.mem_singleton.1 hv]
      exact ⟨_, .snoc k i pi hkf (by rw [XC, if_pos rfl]) (hpi.put hnone), hlk⟩
  · rw [hkeys, List.pairwise_append]
    refine ⟨h.ord, by simp, fun v hv b hb => ?_⟩
    rw [List.mem_singleton.1 hb]
    intro a c hla hlc
    rw [hlc.uniq hlk]
    by_cases hvf : v = f
    · subst hvf
      rw [hla.uniq YW]
      exact .inl (by have := hpi.pos; simp; omega)
    · obtain ⟨u, h1, h2, h3⟩ := h.par v hv hvf
      obtain ⟨pv, hpv, hlv⟩ := h.pth v hv
      rw [hla.uniq hlv]
      cases hpv with
      | one => exact absurd rfl hvf
      | snoc _ u' pu _ hm' hpu =>
        rw [h1] at hm'
        cases hm'
        rcases h3 with h3 | ⟨rfl, h3⟩
        · obtain ⟨pu', hpu', hlu'⟩ := h.pth u (List.mem_append_left _ h3)
          rw [hpu.uniq hpu']
          exact (hE u h3 pu' hlu').snoc _ _
        · rw [hpu.uniq hpi]
          refine LL.snoc_same ?_
          obtain ⟨j', hj', e⟩ := Xj h3
          rw [List.length_take] at hj'
          have h4 := List.pairwise_iff_getElem.1 (ha u.toNat) j' j (by omega) hj (by omega)
          rw [← hk, ← e, XR hj, ge, List.getD_eq_getElem?_getD, List.getElem?_take, if_pos (by omega), List.getElem?_eq_getElem (by omega)]
          exact h4
  · intro x hx
    rw [ZS hj, hk] at hx
    rcases List.mem_append.1 hx with hx | hx
    · exact hsub (h.cloi x hx)
    · rw [List.mem_singleton.1 hx]; simp
  · intro v hv hn
    rw [hkeys] at hv
    rcases List.mem_append.1 hv with hv | hv
    · obtain ⟨u, h1, h2, h3⟩ := h.par v hv hn
      refine ⟨u, ?_, h2, h3.imp id fun ⟨e, g⟩ => ⟨e, by rw [ZS hj]; exact List.mem_append_left _ g⟩⟩
      rw [XC, if_neg fun e : v = k => hnew (e ▸ hv)]
      exact h1
    · rw [List.mem_singleton.1 hv]
      exact ⟨i, by rw [XC, if_pos rfl], hku, .inr ⟨rfl, by rw [ZS hj, hk]; simp⟩⟩
structure Bf (us : List (List Int)) (f t : Int) (L : List (Int × Int)) (q : List Int) : Prop where
  more : ∀ i r, q = i :: r → ∃ E, BfI us f L E i r 0
  empty : q = [] → ∃ E i, BfI us f L E i [] (ge us i.toNat).length
theorem Bf.start (us : List (List Int)) (f t : Int) : Bf us f t [(f, f)] [f] :=
  ⟨fun i r e => by cases e; exact ⟨[], BfI.start us _⟩, fun e => by cases e⟩
theorem BfI.done (h : BfI us f L E i q j) (hj : (ge us i.toNat).length ≤ j) : Bf us f t L q := by
  have htk : (ge us i.toNat).take j = ge us i.toNat := List.take_of_length_le hj
  have hcl := h.cloi
  have hpar := h.par
  rw [htk] at hcl hpar
  constructor
  · rintro i2 r rfl
    have e : E ++ i :: i2 :: r = (E ++ [i]) ++ i2 :: r := by simp
    refine ⟨E ++ [i], e ▸ h.keys, e ▸ h.first, e ▸ h.nod, e ▸ h.pth, e ▸ h.ord, fun u hu x hx => ?_, fun x hx => by simp at hx, fun v hv hn => ?_⟩
    · rw [← e]
      rcases List.mem_append.1 hu with hu | hu
      · exact h.clo u hu x hx
      · rw [List.mem_singleton.1 hu] at hx; exact hcl x hx
    · rw [← e] at hv
      obtain ⟨u, h1, h2, h3⟩ := hpar v hv hn
      refine ⟨u, h1, h2, .inl ?_⟩
      rcases h3 with h3 | ⟨rfl, _⟩
      · exact List.mem_append_left _ h3
      · simp
  · rintro rfl
    exact ⟨E, i, { h with cloi := by rw [List.take_length]; exact hcl, par := by rw [List.take_length]; exact hpar }⟩
theorem Bf.closed (h : Bf us f t L []) {x : Int} (hr : Rch us f x) : (Zq L x).isSome = true := by
  obtain ⟨E, i, hb⟩ := h.empty rfl
  rw [hb.met]
  have key : ∀ {a b : Int}, Rch us a b → a ∈ E ++ [i] → b ∈ E ++ [i] := fun {a b} h => by
    induction h with
    | refl => exact id
    | step a x y hx _ ih =>
      intro ha
      refine ih ?_
      rcases List.mem_append.1 ha with ha | ha
      · exact hb.clo a ha x hx
      · rw [List.mem_singleton.1 ha] at hx
        exact hb.cloi x (by rw [List.take_length]; exact hx)
  exact decide_eq_true (key hr hb.first)
theorem Bf.empty_chain (h : Bf us f t L []) (hm : (Zq L t).isSome = true) : ∃ l, Pth L f t l ∧ IsLeast us f t l := by
  obtain ⟨E, i, hb⟩ := h.empty rfl
  rw [hb.met] at hm
  exact hb.pth t (of_decide_eq_true hm)
theorem BfI.chain (h : BfI us f L E i q j) : ∃ l, Pth L f i l ∧ IsLeast us f i l := h.pth i (by simp)
theorem BfI.here (h : BfI us f L E i q j) : (Zq L i).isSome = true := by rw [h.met]; simp
theorem BfI.size (h : BfI us f L E i q j) {n : Nat} (hb : ∀ v ∈ E ++ i :: q, 0 ≤ v ∧ v < n) : (E ++ i :: q).length ≤ n := by
  have hsub : E ++ i :: q ⊆ (List.range n).map fun (p : Nat) => (p : Int) := fun v hv => by
    have := hb v hv
    exact List.mem_map.2 ⟨v.toNat, List.mem_range.2 (by omega), by omega⟩
  have := h.nod.length_le_of_subset hsub
  simpa using this
theorem BfI.range (hd : Xe us) (h : BfI us f L E i q j) (hf : 0 ≤ f) : ∀ v ∈ E ++ i :: q, 0 ≤ v ∧ v ≤ f := fun v hv => by
  obtain ⟨l, _, hl⟩ := h.pth v hv
  exact hl.1.rch.le hd hf
end
open Classical in
noncomputable def chL (us : List (List Int)) (f t : Int) : List Int := if h : ∃ l, IsLeast us f t l then Classical.choose h else []
theorem XK {us : List (List Int)} {f t : Int} {l : List Int} (h : IsLeast us f t l) : chL us f t = l := by
  have hx : ∃ l, IsLeast us f t l := ⟨l, h⟩
  unfold chL
  rw [dif_pos hx]
  exact (Classical.choose_spec hx).uniq h
theorem ZdD (d : Db) (m : Nat) : ∀ n, (ge (usL d m) n).Pairwise (· < ·) := fun n => by
  rcases Nat.lt_or_ge n m with h | h
  · rw [Zc7 h, ZN]
    split
    · exact Zep _ _ _
    · exact .nil
  · rw [Zkp h]; exact .nil
section
variable {us : List (List Int)} {f t : Int} {L : List (Int × Int)} {E q : List Int} {i : Int} {j : Nat}
theorem Pth.step {z : Int} {l : List Int} (h : Pth L f z l) (hn : z ≠ f) : ∃ u l', Zq L z = some u ∧ Pth L f u l' ∧ l = l' ++ [z] := by
  cases h with
  | one => exact absurd rfl hn
  | snoc v u l hv hm h => exact ⟨u, l, hm, h, rfl⟩
theorem Pth.last {z : Int} {l : List Int} (h : Pth L f z l) : l.reverse = z :: l.reverse.tail := by
  cases h with
  | one => rfl
  | snoc v u l hv hm h => simp
theorem Pth.end {l : List Int} (h : Pth L f f l) : l = [f] := by
  cases h with
  | one => rfl
  | snoc v u l hv => exact absurd rfl hv
theorem IsCh.len (hd : Xe us) {l : List Int} (h : IsCh us f t l) (hf : 0 ≤ f) : l.length + t ≤ f + 1 ∧ 0 ≤ t := by
  induction h with
  | one => exact ⟨by simp; omega, hf⟩
  | snoc b c l h hc ih =>
    have := hd _ c hc
    simp only [List.length_append, List.length_singleton]
    omega
theorem BfI.small (hd : Xe us) (h : BfI us f L E i q j) (hf : 0 ≤ f) : E.length + 1 + q.length ≤ f.toNat + 1 := by
  have h1 := h.size (n := f.toNat + 1) fun v hv => by have := h.range hd hf v hv; omega
  simpa [Nat.add_assoc, Nat.add_comm, Nat.add_left_comm] using h1
theorem BfI.count (h : BfI us f L E i q j) : L.length = E.length + 1 + q.length := by
  have := congrArg List.length h.keys
  simp at this
  omega
def Found (us : List (List Int)) (f t : Int) (L : List (Int × Int)) : Prop := ((Zq L t).isSome = true ∧ ∃ l, Pth L f t l ∧ IsLeast us f t l) ∨ ((Zq L t).isSome = false ∧ ¬ Rch us f t)
theorem Bf.found (h : Bf us f t L []) : Found us f t L := by
  cases hm : (Zq L t).isSome with
  | true => exact .inl ⟨hm, h.empty_chain hm⟩
  | false => exact .inr ⟨hm, fun hr => by rw [h.closed hr] at hm; cases hm⟩
theorem BfI.found (h : BfI us f L E i q j) (e : i = t) : Found us f t L := e ▸ .inl ⟨h.here, h.chain⟩
end
end Go.Proofs.YtnpgmdffjemnbaaGreatDoor
set_option maxHeartbeats 8000000
set_option maxRecDepth 100000
namespace Go.Proofs.YtnpgmdffjemnbaaGreatDoor
open Go.RowKit
theorem Xs : Zhp Tryz.prog 77 3 3 keyI.kind := ⟨by kernel_rfl, by kernel_rfl⟩
theorem ZjW : Zu Tryz.prog 55 := Zz Tryz.func55 rfl rfl
open Go.Shelf Go.Sort in
theorem Zdl {J : World → Prop} (hJ : Stab J) (v : Value) (xs : List Int) : FnM (ι := Unit) Tryz.prog J 55 [] [.lit v] [OB.q v (xs.map Yq)] (fun _ => .tup []) (fun _ => [OB.q v (xs.reverse.map Yq)]) := by
  intro S w0 R w vs hS hJ0 _ hk0 hxo ha
  simp only [RelL] at ha
  obtain ⟨u, us0, rfl, h1, rfl⟩ := ha
  rw [h1.lit]
  obtain ⟨us, g, off, cap, hve, hlo, hg, hlc, hcm, hr, hn, hc, hu⟩ := hxo.2.1 (OB.q v (xs.map Yq)) (by simp)
  rw [List.length_map] at hlc hve
  have hus := Zjv hr
  have hcell : ∀ j, j < xs.length → w.cell? ⟨g, off + j, none⟩ = some (.int .i64 (xs.getD j 0)) := fun j hj => by
    refine hu j _ ?_
    rw [hus, List.getElem?_map, List.getElem?_eq_getElem hj, List.getD_eq_getElem?_getD, List.getElem?_eq_getElem hj]
    rfl
  have hcall := Tryz.slices_Reverse_int_cells g off xs.length cap xs w (Nat.le_refl _) (by unfold maxLen at hcm; omega) hcell fun j hj => (hc j (by omega)).2
  rw [List.take_length, ← hve] at hcall
  refine hcall.mono fun e w' ⟨he, q, hw'⟩ => ?_
  have hk : Keeps (fun b => b ≠ g) w w' := by
    rw [hw']
    exact ((ZfR q w).sub fun _ _ _ => trivial).trans (Zcs _ _ _)
  have hk2 : Keeps (fun b => ¬ (OB.q v (xs.map Yq)).blk b) w w' := hk.sub fun b _ hb => by
    rintro rfl
    exact hb (by rw [hve]; rfl)
  have hlen : (xs.reverse.map fun z => Value.int .i64 z).length = xs.length := by simp
  have hsome : ∀ j, j < (xs.reverse.map fun z => Value.int .i64 z).length → ((w.drewN q).cell? ⟨g, off + j, none⟩).isSome = true := fun j hj => by
    rw [World.cell?_drewN]; exact (hc j (by rw [hlen] at hj; omega)).1
  have hst := XS (o' := OB.q v (xs.reverse.map Yq)) hJ hJ0 hk0 hxo hk2 (fun k hb => .inl hb) (by
    refine ⟨xs.reverse.map fun z => Value.int .i64 z, g, off, cap, by rw [List.length_map, List.length_reverse]; exact hve, hlo, by have := hk.size; omega, by simpa using hlc, hcm, ?_, fun r hr => by obtain ⟨z, _, rfl⟩ := List.mem_map.1 hr; rfl, fun j hj => ?_, fun j u hj => ?_⟩
    · exact Zju _
    · rw [hw', World.frozen?_setCells]
      refine ⟨?_, (hc j hj).2⟩
      by_cases e : j < xs.length
      · rw [World.cell?_setCells_in g _ off (w.drewN q) hsome j (by rw [hlen]; exact e)]; rfl
      · rw [World.cell?_setCells_out g _ off (w.drewN q) _ (fun _ _ => by rw [hlen]; simp only; omega)]
        exact (hc j hj).1
    · have hj' := (List.getElem?_eq_some_iff.1 hj)
      obtain ⟨h1, h2⟩ := hj'
      rw [hw', World.cell?_setCells_in g _ off (w.drewN q) hsome j h1, h2])
  exact ⟨(), .tuple #[], he, by simp only [Rel, RelL]; exact ⟨[], rfl, rfl⟩, hst.1, hst.2.1⟩

theorem ZnB {J : World → Prop} (hJ : Stab J) (d : Db) (f : Int) (t : Int) (hw : ∀ f ∈ d.frames, f.wide.length * 32 ≤ 140737488351232) (hG : X5 J) : Fn Tryz.prog J 22 [.agg (dbC d), .int f, .int t] (.tup [.rd (ZG (if Z8 d f t = 0 then chL (usL d d.frames.length) f t else [])), .int (Z8 d f t)]) := by
 refine Zx (N := 101) Tryz.func22 rfl rfl (lb rfl) fun S w0 hS hJ0 => ?_
 refine tw Yi ?_
 refine Za (rgo tb hJ [1, 2, 1000] [_, _, _] [0] [(_, _), (_, _), (_, .ptr (dbC d))] rfl rfl rfl rfl ⟨fun _ _ hk hx hl _ => Yv rfl (hl.env 0 0 _ rfl rfl) (Zr hS _ hk hx _ (Nat.le_refl _)) (jo hJ hx), trivial⟩ (nx (Zkr (Za (rgo tb hJ [0, 1, 1003, 1008, 1009] [_, _, _, _, .tup [gAV (rdE d ([f, t] : List Int)) [Zg d.consts, Zg d.vars, Yn d.frames, ZF (usL d d.frames.length)], .int (rdE d ([f, t] : List Int))], _, _, _, _, _] [3, 4] [(_, _), (_, _), (_, .rd (ZG ([f, t] : List Int))), (_, gAV (rdE d ([f, t] : List Int)) [Zg d.consts, Zg d.vars, Yn d.frames, ZF (usL d d.frames.length)]), (_, .int (rdE d ([f, t] : List Int)))] rfl rfl rfl rfl ⟨fun a _ hk hx hl _ => X6 (k := 2) (us := [a.eval (Go.Operand.tmp 23), a.eval (Go.Operand.tmp 24)]) Zo Zb2 rfl (by simp) (ZX (hl.dep 1 23 _ rfl rfl rfl rfl) (ZX (hl.dep 2 24 _ rfl rfl rfl rfl) X0)) rfl (by decide) (by decide) (Zr hS _ hk hx _ (Nat.le_refl _)) (jo hJ hx), hFo hS hJ (ZgL hJ (d := d) (ns := ([f, t] : List Int)) (hw) (hG)) Zd9 rfl rfl rfl rfl, trivial⟩ (nx (Zf (fun a w h => Zj h 2 rfl) fun hl1 => Za (Za (rgo tb hJ [0, 1, 3, 4, 1001] [_, _] [] [(_, _), (_, _), (_, _), (_, _), (_, .bool (!decide (rdE d ([f, t] : List Int) = (0 : Int))))] rfl rfl rfl rfl trivial (nx (tc 4 rfl rfl (fun hb1 => ?_) (fun hb1 => ?_))))))))))))
 have c1 : Z8 d f t = rdE d [f, t] := by rw [Z8, if_pos hb1]
 have c9 : ¬ Z8 d f t = 0 := by rw [c1]; exact ZaX hb1
 refine Za (rgo tb hJ [1001, 1002] [_, _, _] [] [(_, .lit (.slice none 0 0)), (_, .int (rdE d ([f, t] : List Int)))] rfl rfl rfl rfl trivial (nx ?_))
 refine tw (fun h => Y8 h (m := 0) (s := 6) rfl) ?_
 refine Zi (fun a w h => YC (m := 0) (k := 1) rfl (Zl h) rfl rfl (congrArg (fun z => AV.rd (ZG z)) (show ([] : List Int) = (if Z8 d f t = 0 then chL (usL d d.frames.length) f t else []) from by first | exact c1.symm | exact c8.symm | exact c0.symm | (rw [if_neg c9]; done) | (rw [c8]; rfl) | (rw [if_pos c0, XK hl, e10]; simp))) (congrArg AV.int (show (rdE d ([f, t] : List Int)) = (Z8 d f t) from by first | exact c1.symm | exact c8.symm | exact c0.symm | (rw [if_neg c9]; done) | (rw [c8]; rfl) | (rw [if_pos c0, XK hl, e10]; simp))))
 have e0 : rdE d [f, t] = 0 := Zek hb1
 have c2 := ZdG e0
 have c3 := XZ c2.1
 have hul := YA d d.frames.length
 refine tw (sa 2 rfl (show (gAV (rdE d ([f, t] : List Int)) [Zg d.consts, Zg d.vars, Yn d.frames, ZF (usL d d.frames.length)] : AV) = .ptr [Zg d.consts, Zg d.vars, Yn d.frames, ZF (usL d d.frames.length)] from ZaA e0)) ?_
 refine Zd (nx (Za (Zn (Zdb keyI (fun z' : Int => AV.int z') hJ rfl rfl rfl (lb rfl) fun m1 => ?_))))
 refine sv tb rfl rfl rfl rfl (sv tb rfl rfl rfl rfl (Zet (f := (fun z' : Int => AV.int z')) Xs hJ hJ0 f f rfl rfl (.inr rfl) (fun a w h => ⟨(h.get 2 rfl), (h.get 1 rfl), (h.get 0 rfl)⟩) (sv tb rfl rfl rfl rfl (sv tb rfl rfl rfl rfl (Zy ?_)))))
 refine kw (lz [0, 5, 6, 7] (env' := [(_, _), (_, _), (_, _), (_, _)]) rfl) ?_
 refine nx (Za (Zn (sv tb rfl rfl rfl rfl (Zbl Zo Xu hJ rfl rfl rfl (lb rfl) (fun _ _ h => (h.get 0 rfl)) fun v2 => ?_))))
 refine sv tb rfl rfl rfl rfl (Zy ?_)
 refine kw (lz [0, 3, 4, 5, 6] (env' := [(_, _), (_, _), (_, _), (_, _), (_, _)]) rfl) ?_
 refine kw (Zix (by first | (simp; done) | (rw [List.length_map, e10, List.length_reverse]; exact hl.1.pos))) ?_
 refine nx (Za (Zks (nx (Za (Ze (Zw (ι := Value × (List Int) × (List (Int × Int))) (fun (ii' : Value × (List Int) × (List (Int × Int))) a w => match ii' with | (vq, q, L) => (Bf (usL d d.frames.length) f t L q) ∧ St All (SO S [OB.q vq (q.map Yq), OB.map keyI (fun z' : Int => AV.int z') m1 L]) w0 101 [(10, .lit (.map (some m1))), (1, .int f), (2, .int t), (8, .ptr [Zg d.consts, Zg d.vars, Yn d.frames, ZF (usL d d.frames.length)]), (11, .lit vq)] (XO J S w0.heap.size [OB.q vq (q.map Yq), OB.map keyI (fun z' : Int => AV.int z') m1 L]) a w) (fun (ii' : Value × (List Int) × (List (Int × Int))) => match ii' with | (_, q, L) => (d.frames.length + 1 - (L.length - q.length) : Nat)) ?_ ?_))))))
 intro a w h
 exact ⟨(v2, [f], Ql ([] : List (Int × Int)) f f), (show (Bf (usL d d.frames.length) f t (Ql ([] : List (Int × Int)) f f) ([f])) from Bf.start _ _ _), lz [1, 2, 3, 4, 0] rfl h⟩
 rintro ⟨vq, q, L⟩
 refine ZD fun hF => ?_
 have f1_1 : Bf (usL d d.frames.length) f t L q := hF
 refine Za (Za (rgr tb hJ [0, 1, 2, 3, 4, 1002] [_, .int q.length, _] [1] [(_, _), (_, _), (_, _), (_, _), (_, _), (_, .bool (decide ((0 : Int) < (q.length : Int))))] rfl rfl rfl rfl ⟨fun _ _ _ hx hl _ => Yy Yx rfl (ZmQ hS hx (mo 0 rfl) (hl.dep 0 38 _ rfl rfl rfl rfl)) hx, trivial⟩ (nx (tc 5 rfl rfl (fun hb2 => ?_) (fun hb2 => ?_)))))
 try simp at hb2
 obtain ⟨i, r, hq⟩ : ∃ i r, q = i :: r := List.exists_cons_of_length_pos (by omega)
 obtain ⟨E, hE⟩ := f1_1.more i r hq
 have e6 := hE.range (ZK _ _) c2.2.1.1 i (by simp)
 have e7 := hE.small (ZK _ _) c2.2.1.1
 have e8 := hE.count
 refine tw (ob0 (congrArg (fun z' => OB.q vq ((z').map Yq)) (show q = (i :: r) from hq))) ?_
 refine Zd (nx (Ze (Za (rgr tb hJ [0, 1, 2, 3, 4, 1003] [_, .ptr [.lit (.int .i64 (ge (i :: r) 0))], _, _] [1] [(_, _), (_, _), (_, _), (_, _), (_, _), (_, .int (ge (i :: r) 0))] rfl rfl rfl rfl ⟨fun _ _ _ hx hl _ => ZI (i := ((0 : Nat) : Int)) Zo rfl (ZmQ hS hx (mo 0 rfl) (hl.dep 0 41 _ rfl rfl rfl rfl)) (Rel.of_lit (Go.Value.int Go.IntKind.i64 0)) (Int.natCast_nonneg _) (ZL (xs := (i :: r)) (k := 0) (by simp)) rfl hx, trivial⟩ ?_))))
 refine kw (sa 5 rfl (congrArg AV.int (show (ge (i :: r) 0) = i from rfl))) ?_
 refine nx (Za (Zn (sv tb rfl rfl rfl rfl (Zkx (m := 0) (s := 44) Zo rfl rfl rfl (lb rfl) rfl rfl (fun _ => rfl) fun v3 => ?_))))
 refine sv tb rfl rfl rfl rfl (Zy ?_)
 refine kw (lz [0, 3, 4, 5, 6, 7] (env' := [(_, _), (_, _), (_, _), (_, _), (_, _), (_, _)]) rfl) ?_
 refine nx (Za (Za (rgo tb hJ [0, 1, 2, 3, 4, 5, 1002] [_, _, _] [] [(_, _), (_, _), (_, _), (_, _), (_, _), (_, _), (_, .bool (decide (i = t)))] rfl rfl rfl rfl trivial (nx (tc 6 rfl rfl (fun hb3 => ?_) (fun hb3 => ?_))))))
 try simp at hb3
 have hF := hE.found hb3
 refine Zv (nx (Za (Za (rgo tb hJ [1, 2, 3, 1007] [_, _, .tup [.int ((Zq L t).getD default), .bool ((Zq L t).isSome)], _, _, _, _, _] [2] [(_, _), (_, _), (_, _), (_, .bool ((Zq L t).isSome))] rfl rfl rfl rfl ⟨fun _ _ _ hx hl _ => Xg (Kd := keyI) (f := (fun z' : Int => AV.int z')) (L := L) Xs XL t rfl (ZA hx (mo 1 rfl)) (hl.dep 0 78 _ rfl rfl rfl rfl) (hl.dep 1 79 _ rfl rfl rfl rfl) hx, trivial⟩ (nx (Za (rgo tb hJ [0, 1, 2, 1001] [_, _] [] [(_, _), (_, _), (_, _), (_, .bool (!((Zq L t).isSome)))] rfl rfl rfl rfl trivial (nx (tc 3 rfl rfl (fun hb6 => ?_) (fun hb6 => ?_))))))))))
 have c8 : Z8 d f t = 5 := by rw [Z8, if_neg (by rw [e0]; decide), if_pos (by rcases hF with h | h; (rw [h.1] at hb6; cases hb6); simpa using h.2)]
 refine Za (rgo tb hJ [1000, 1001] [_, _] [] [(_, .lit (.slice none 0 0)), (_, .int (5 : Int))] rfl rfl rfl rfl trivial (nx ?_))
 refine tw (fun h => Y8 h (m := 0) (s := 6) rfl) ?_
 refine Zi (fun a w h => YC (m := 0) (k := 1) rfl (Zl h) rfl rfl (congrArg (fun z => AV.rd (ZG z)) (show ([] : List Int) = (if Z8 d f t = 0 then chL (usL d d.frames.length) f t else []) from by first | exact c1.symm | exact c8.symm | exact c0.symm | (rw [if_neg c9]; done) | (rw [c8]; rfl) | (rw [if_pos c0, XK hl, e10]; simp))) (congrArg AV.int (show (5 : Int) = (Z8 d f t) from by first | exact c1.symm | exact c8.symm | exact c0.symm | (rw [if_neg c9]; done) | (rw [c8]; rfl) | (rw [if_pos c0, XK hl, e10]; simp))))
 obtain ⟨l, hp, hl⟩ : ∃ l, Pth L f t l ∧ IsLeast (usL d d.frames.length) f t l := by rcases hF with h | h; exact h.2; (rw [h.1] at hb6; cases hb6)
 have c0 : Z8 d f t = 0 := by rw [Z8, if_neg (by rw [e0]; decide), if_neg (by simpa using hl.1.rch)]
 have e9 := hl.1.len (ZK _ _) c2.2.1.1
 refine Zd (nx (Za (Zn (sv tb rfl rfl rfl rfl (Zbl Zo Xu hJ rfl rfl rfl (lb rfl) (fun _ _ h => (h.get 0 rfl)) fun v4 => ?_)))))
 refine sv tb rfl rfl rfl rfl (Zy ?_)
 refine kw (lz [0, 3, 4, 5] (env' := [(_, _), (_, _), (_, _), (_, _)]) rfl) ?_
 refine nx (Za (Za (rgo tb hJ [0, 1, 2, 1001] [_, _] [] [(_, _), (_, _), (_, _), (_, .int t)] rfl rfl rfl rfl trivial (nx (Ze (Zw (ι := Int × (List Int) × Value × (List Int)) (fun (ii' : Int × (List Int) × Value × (List Int)) a w => match ii' with | (z, rp, vo, out) => ((Pth L f z rp) ∧ (l.reverse = out ++ rp.reverse.tail)) ∧ St All (SO S [OB.row vo 3 1 (out.map Yq), OB.q v3 (r.map Yq), OB.map keyI (fun z' : Int => AV.int z') m1 L]) w0 101 [(10, .lit (.map (some m1))), (1, .int f), (20, .int z), (19, .lit vo)] (XO J S w0.heap.size [OB.row vo 3 1 (out.map Yq), OB.q v3 (r.map Yq), OB.map keyI (fun z' : Int => AV.int z') m1 L]) a w) (fun (ii' : Int × (List Int) × Value × (List Int)) => match ii' with | (_, rp, _, _) => (rp.length : Nat)) ?_ ?_))))))
 intro a w h
 exact ⟨(t, l, v4, [t]), (show (Pth L f t l) ∧ (l.reverse = ([t]) ++ l.reverse.tail) from ⟨hp, by rw [hp.last]; simp⟩), lz [1, 2, 3, 0] rfl h⟩
 rintro ⟨z, rp, vo, out⟩
 refine ZD fun hF => ?_
 obtain ⟨f3_1, f3_2⟩ := hF
 refine Za (Za (rgo tb hJ [0, 1, 2, 3, 1002] [_, _, _] [] [(_, _), (_, _), (_, _), (_, _), (_, .bool (!decide (z = f)))] rfl rfl rfl rfl trivial (nx (tc 4 rfl rfl (fun hb7 => ?_) (fun hb7 => ?_)))))
 try simp at hb7
 obtain ⟨u, rp2, hu, hp2, hrp⟩ := f3_1.step hb7
 refine Zd (nx (Ze (Za (rgo tb hJ [0, 1, 3, 1003] [_, _, .int ((Zq L z).getD default), _] [2] [(_, _), (_, _), (_, _), (_, .int ((Zq L z).getD default))] rfl rfl rfl rfl ⟨fun _ _ _ hx hl _ => ZdH (Kd := keyI) (f := (fun z' : Int => AV.int z')) (L := L) Xs XL z rfl (ZA hx (mo 2 rfl)) (hl.dep 0 91 _ rfl rfl rfl rfl) (hl.dep 1 92 _ rfl rfl rfl rfl) hx, trivial⟩ ?_))))
 refine kw (sa 3 rfl (congrArg AV.int (show ((Zq L z).getD default) = u from by rw [hu]; rfl))) ?_
 refine nx (Zn (sv tb rfl rfl rfl rfl (sv tb rfl rfl rfl rfl (sq (.rd (ZG ([u]))) rfl rfl (lb rfl) (fun _ _ h => ZV Zo Xu rfl (h.get 0 rfl) (Zr hS _ h.keep h.x _ (Nat.le_refl _)) (jo hJ h.x)) (ZR (f := Yq) (m := 2) (s := 94) out ([u]) (fun _ => rfl) YU hJ hJ0 rfl rfl rfl (lb rfl) rfl rfl (fun a w h => (h.get 0 rfl)) (by first | (have := f2_2.small (ZK _ _) c2.2.1.1; omega) | (have := congrArg List.length f3_2; rw [hrp] at this; simp at this; simp; omega)) (by first | (have := f2_2.small (ZK _ _) c2.2.1.1; omega) | (have := congrArg List.length f3_2; rw [hrp] at this; simp at this; simp; omega)) fun v5 => ?_)))))
 refine sv tb rfl rfl rfl rfl (Zy ?_)
 refine kw (lz [0, 2, 5, 6, 7] (env' := [(_, _), (_, _), (_, _), (_, _), (_, _)]) rfl) ?_
 intro a w h; change ∃ j, _ ∧ _
 exact ⟨(u, rp2, v5, out ++ ([u])), ⟨⟨(show Pth L f u rp2 from hp2), (show l.reverse = (out ++ ([u])) ++ rp2.reverse.tail from by rw [f3_2, hrp, List.reverse_append]; simp only [List.reverse_cons, List.reverse_nil, List.nil_append, List.singleton_append, List.tail_cons]; rw [hp2.last]; simp)⟩, lz [2, 3, 4, 0] rfl h⟩, (show rp2.length < rp.length from by rw [hrp]; simp)⟩
 try simp at hb7
 have e10 : out = l.reverse := by subst hb7; rw [f3_2, f3_1.end]; simp
 refine Zv (nx (Za ?_))
 refine tw (Zix (by first | (simp; done) | (rw [List.length_map, e10, List.length_reverse]; exact hl.1.pos))) ?_
 refine Zn (sv tb rfl rfl rfl rfl (Zat (O := [OB.q vo (out.map Yq)]) (R := [OB.q v3 (r.map Yq), OB.map keyI (fun z' : Int => AV.int z') m1 L]) (Zdl hJ (v := vo) (xs := out) ) ZjW rfl rfl rfl (lb rfl) hS hJ0 ZP (fun a w h => (Zc (h.get 0 rfl) Zm)) fun _ => ?_))
 refine Zy ?_
 refine kw (lz [5] (env' := [(_, _)]) rfl) ?_
 refine nx (Za (rgo tb hJ [1001, 1002] [_, _, _] [] [(_, .lit vo), (_, .int (0 : Int))] rfl rfl rfl rfl trivial (nx ?_)))
 refine tw (fun h => Zc9 hS h (m := 0) (s := 6) rfl) ?_
 refine Zi (fun a w h => YC (m := 0) (k := 1) rfl (Zl h) rfl rfl (congrArg (fun z => AV.rd (ZG z)) (show out.reverse = (if Z8 d f t = 0 then chL (usL d d.frames.length) f t else []) from by first | exact c1.symm | exact c8.symm | exact c0.symm | (rw [if_neg c9]; done) | (rw [c8]; rfl) | (rw [if_pos c0, XK hl, e10]; simp))) (congrArg AV.int (show (0 : Int) = (Z8 d f t) from by first | exact c1.symm | exact c8.symm | exact c0.symm | (rw [if_neg c9]; done) | (rw [c8]; rfl) | (rw [if_pos c0, XK hl, e10]; simp))))
 try simp at hb3
 refine Zd (nx (Za (rgo tb hJ [0, 1, 2, 3, 4, 5, 1003, 1006, 1007, 1008] [_, _, _, _, _, .ptr [ZG (ge (usL d d.frames.length) i.toNat)], _, _, _] [5, 7] [(_, _), (_, _), (_, _), (_, _), (_, _), (_, _), (_, .rd (ZF (usL d d.frames.length))), (_, .rd (ZG (ge (usL d d.frames.length) i.toNat))), (_, .int (((ge (usL d d.frames.length) i.toNat).length : Nat) : Int)), (_, .int (0 : Int))] rfl rfl rfl rfl ⟨hIz Z7 (by omega) (by omega) rfl rfl rfl rfl rfl rfl, Ys Yx rfl rfl rfl rfl, trivial⟩ (nx (Zf (fun a w h => Zj h 6 rfl) fun hl2 => Zf (fun a w h => Zj h 7 rfl) fun hl3 => Ze (Zw (ι := Nat × Value × (List Int) × (List (Int × Int))) (fun (ii' : Nat × Value × (List Int) × (List (Int × Int))) a w => match ii' with | (j, vr, q2, L2) => ((j ≤ (ge (usL d d.frames.length) i.toNat).length) ∧ (BfI (usL d d.frames.length) f L2 E i q2 j)) ∧ St All (SO S [OB.q vr (q2.map Yq), OB.map keyI (fun z' : Int => AV.int z') m1 L2]) w0 101 [(10, .lit (.map (some m1))), (1, .int f), (2, .int t), (8, .ptr [Zg d.consts, Zg d.vars, Yn d.frames, ZF (usL d d.frames.length)]), (12, .int i), (55, .rd (ZG (ge (usL d d.frames.length) i.toNat))), (56, .int (((ge (usL d d.frames.length) i.toNat).length : Nat) : Int)), (57, .int j), (11, .lit vr)] (XO J S w0.heap.size [OB.q vr (q2.map Yq), OB.map keyI (fun z' : Int => AV.int z') m1 L2]) a w) (fun (ii' : Nat × Value × (List Int) × (List (Int × Int))) => match ii' with | (j, _, _, _) => ((ge (usL d d.frames.length) i.toNat).length - j : Nat)) ?_ ?_))))))
 intro a w h
 exact ⟨(0, v3, r, L), (show (0 ≤ (ge (usL d d.frames.length) i.toNat).length) ∧ (BfI (usL d d.frames.length) f L E i r 0) from ⟨Nat.zero_le _, hE⟩), lz [1, 2, 3, 4, 5, 7, 8, 9, 0] rfl h⟩
 rintro ⟨j, vr, q2, L2⟩
 refine ZD fun hF => ?_
 obtain ⟨f2_1, f2_2⟩ := hF
 refine Za (rgo tb hJ [0, 1, 2, 3, 4, 5, 6, 7, 8, 1000] [_] [] [(_, _), (_, _), (_, _), (_, _), (_, _), (_, _), (_, _), (_, _), (_, _), (_, .bool (decide ((j : Int) < (((ge (usL d d.frames.length) i.toNat).length : Nat) : Int))))] rfl rfl rfl rfl trivial (nx (Za (tc 9 rfl rfl (fun hb4 => ?_) (fun hb4 => ?_)))))
 try simp at hb4
 refine Zd (nx (Za (Ze (Za (rgo tb hJ [0, 1, 2, 3, 4, 5, 6, 7, 8, 1002] [.ptr [.lit (.int .i64 (ge (ge (usL d d.frames.length) i.toNat) j))], _, _] [0] [(_, _), (_, _), (_, _), (_, _), (_, _), (_, _), (_, _), (_, _), (_, _), (_, .int (ge (ge (usL d d.frames.length) i.toNat) j))] rfl rfl rfl rfl ⟨hIx Zo (by first | omega | (simp; omega) | grind [Zb]) rfl rfl rfl rfl rfl rfl, trivial⟩ (nx (Za (rgo tb hJ [0, 1, 2, 3, 4, 5, 6, 7, 8, 9, 1007] [_, _, .tup [.int ((Zq L2 (ge (ge (usL d d.frames.length) i.toNat) j)).getD default), .bool ((Zq L2 (ge (ge (usL d d.frames.length) i.toNat) j)).isSome)], _, _, _, _, _] [2] [(_, _), (_, _), (_, _), (_, _), (_, _), (_, _), (_, _), (_, _), (_, _), (_, _), (_, .bool ((Zq L2 (ge (ge (usL d d.frames.length) i.toNat) j)).isSome))] rfl rfl rfl rfl ⟨fun _ _ _ hx hl _ => Xg (Kd := keyI) (f := (fun z' : Int => AV.int z')) (L := L2) Xs XL (ge (ge (usL d d.frames.length) i.toNat) j) rfl (ZA hx (mo 1 rfl)) (hl.dep 0 62 _ rfl rfl rfl rfl) (hl.dep 1 63 _ rfl rfl rfl rfl) hx, trivial⟩ (nx (Za (rgo tb hJ [0, 1, 2, 3, 4, 5, 6, 7, 8, 9, 1001] [_, _] [] [(_, _), (_, _), (_, _), (_, _), (_, _), (_, _), (_, _), (_, _), (_, _), (_, _), (_, .bool (!((Zq L2 (ge (ge (usL d d.frames.length) i.toNat) j)).isSome)))] rfl rfl rfl rfl trivial (nx ?_))))))))))))
 refine tc 10 rfl rfl (fun hb5 => ?_) (fun hb5 => ?_)
 try simp at hb5
 refine Za (Zn (sv tb rfl rfl rfl rfl (sv tb rfl rfl rfl rfl (sv tb rfl rfl rfl rfl ?_))))
 refine kw pm1 ?_
 refine Zet (f := (fun z' : Int => AV.int z')) Xs hJ hJ0 (ge (ge (usL d d.frames.length) i.toNat) j) i rfl rfl (.inl rfl) (fun a w h => ⟨(h.get 2 rfl), (h.get 1 rfl), (h.get 0 rfl)⟩) (Zy ?_)
 refine kw (lz [3, 4, 5, 6, 7, 8, 9, 10, 11, 12] (env' := [(_, _), (_, _), (_, _), (_, _), (_, _), (_, _), (_, _), (_, _), (_, _), (_, _)]) rfl) ?_
 refine nx (Zn (sv tb rfl rfl rfl rfl (sv tb rfl rfl rfl rfl (sq (.rd (ZG ([(ge (ge (usL d d.frames.length) i.toNat) j)]))) rfl rfl (lb rfl) (fun _ _ h => ZV Zo Xu rfl (h.get 0 rfl) (Zr hS _ h.keep h.x _ (Nat.le_refl _)) (jo hJ h.x)) ?_))))
 refine kw pm1 ?_
 refine ZhA (f := Yq) (m := 2) (s := 72) q2 (ge (ge (usL d d.frames.length) i.toNat) j) (fun _ => rfl) YU hJ hJ0 rfl rfl rfl (lb rfl) rfl rfl (fun a w h => (h.get 0 rfl)) (by first | (have := f2_2.small (ZK _ _) c2.2.1.1; omega) | (have := congrArg List.length f3_2; rw [hrp] at this; simp at this; simp; omega)) (by first | (have := f2_2.small (ZK _ _) c2.2.1.1; omega) | (have := congrArg List.length f3_2; rw [hrp] at this; simp at this; simp; omega)) fun v6 => ?_
 refine sv tb rfl rfl rfl rfl (Zy ?_)
 refine kw (lz [0, 2, 5, 6, 7, 8, 9, 10, 11, 12] (env' := [(_, _), (_, _), (_, _), (_, _), (_, _), (_, _), (_, _), (_, _), (_, _), (_, _)]) rfl) ?_
 refine nx (Zf (fun a w h => Zj h 1 rfl) fun hl4 => rgo tb hJ [0, 2, 3, 4, 5, 6, 7, 8, 1001] [.int ((j + 1 : Nat) : Int), _] [0] [(_, _), (_, _), (_, _), (_, _), (_, _), (_, _), (_, _), (_, _), (_, .int ((j + 1 : Nat) : Int))] rfl rfl rfl rfl ⟨Yc (by first | omega | (simp; omega) | grind [Zb]) rfl rfl rfl rfl rfl, trivial⟩ ?_)
 intro a w h; change ∃ j, _ ∧ _
 exact ⟨(j + 1, v6, q2 ++ ([(ge (ge (usL d d.frames.length) i.toNat) j)]), Ql L2 (ge (ge (usL d d.frames.length) i.toNat) j) i), ⟨⟨(show (j + 1) ≤ (ge (usL d d.frames.length) i.toNat).length from by omega), (show BfI (usL d d.frames.length) f (Ql L2 (ge (ge (usL d d.frames.length) i.toNat) j) i) E i (q2 ++ ([(ge (ge (usL d d.frames.length) i.toNat) j)])) (j + 1) from by first | exact f2_2.add (ZdD _ _) (by omega) (by simpa using hb5) | exact f2_2.skip (by omega) (by simpa using hb5))⟩, lz [1, 2, 3, 4, 5, 6, 7, 8, 0] rfl h⟩, (show (ge (usL d d.frames.length) i.toNat).length - (j + 1) < (ge (usL d d.frames.length) i.toNat).length - j from by first | omega | (simp; omega))⟩
 try simp at hb5
 refine Zd (nx (rgo tb hJ [0, 1, 2, 3, 4, 5, 6, 8, 1001] [.int ((j + 1 : Nat) : Int), _] [0] [(_, _), (_, _), (_, _), (_, _), (_, _), (_, _), (_, _), (_, _), (_, .int ((j + 1 : Nat) : Int))] rfl rfl rfl rfl ⟨Yc (by first | omega | (simp; omega) | grind [Zb]) rfl rfl rfl rfl rfl, trivial⟩ ?_))
 intro a w h; change ∃ j, _ ∧ _
 exact ⟨(j + 1, vr, q2, L2), ⟨⟨(show (j + 1) ≤ (ge (usL d d.frames.length) i.toNat).length from by omega), (show BfI (usL d d.frames.length) f L2 E i q2 (j + 1) from by first | exact f2_2.add (ZdD _ _) (by omega) (by simpa using hb5) | exact f2_2.skip (by omega) (by simpa using hb5))⟩, lz [0, 1, 2, 3, 4, 5, 6, 8, 7] rfl h⟩, (show (ge (usL d d.frames.length) i.toNat).length - (j + 1) < (ge (usL d d.frames.length) i.toNat).length - j from by first | omega | (simp; omega))⟩
 try simp at hb4
 refine Zv ?_
 intro a w h; change ∃ j, _ ∧ _
 exact ⟨(vr, q2, L2), ⟨(show (Bf (usL d d.frames.length) f t L2 q2) from f2_2.done (by omega)), lz [0, 1, 2, 3, 8] rfl h⟩, (show d.frames.length + 1 - (L2.length - q2.length) < d.frames.length + 1 - (L.length - q.length) from by (have h1 := f2_2.small (ZK _ _) c2.2.1.1); (have h2 := f2_2.count); rw [hq]; simp only [List.length_cons]; omega)⟩
 try simp at hb2
 have hq : q = [] := by first | exact hb2 | exact List.eq_nil_of_length_eq_zero (by omega)
 have hF := (show Bf (usL d d.frames.length) f t L [] from hq ▸ f1_1).found
 refine Zv (nx (Za (Za (rgo tb hJ [0, 1, 2, 1007] [_, _, .tup [.int ((Zq L t).getD default), .bool ((Zq L t).isSome)], _, _, _, _, _] [2] [(_, _), (_, _), (_, _), (_, .bool ((Zq L t).isSome))] rfl rfl rfl rfl ⟨fun _ _ _ hx hl _ => Xg (Kd := keyI) (f := (fun z' : Int => AV.int z')) (L := L) Xs XL t rfl (ZA hx (mo 1 rfl)) (hl.dep 0 78 _ rfl rfl rfl rfl) (hl.dep 1 79 _ rfl rfl rfl rfl) hx, trivial⟩ (nx (Za (rgo tb hJ [0, 1, 2, 1001] [_, _] [] [(_, _), (_, _), (_, _), (_, .bool (!((Zq L t).isSome)))] rfl rfl rfl rfl trivial (nx (tc 3 rfl rfl (fun hb6 => ?_) (fun hb6 => ?_))))))))))
 have c8 : Z8 d f t = 5 := by rw [Z8, if_neg (by rw [e0]; decide), if_pos (by rcases hF with h | h; (rw [h.1] at hb6; cases hb6); simpa using h.2)]
 refine Za (rgo tb hJ [1000, 1001] [_, _] [] [(_, .lit (.slice none 0 0)), (_, .int (5 : Int))] rfl rfl rfl rfl trivial (nx ?_))
 refine tw (fun h => Y8 h (m := 0) (s := 6) rfl) ?_
 refine Zi (fun a w h => YC (m := 0) (k := 1) rfl (Zl h) rfl rfl (congrArg (fun z => AV.rd (ZG z)) (show ([] : List Int) = (if Z8 d f t = 0 then chL (usL d d.frames.length) f t else []) from by first | exact c1.symm | exact c8.symm | exact c0.symm | (rw [if_neg c9]; done) | (rw [c8]; rfl) | (rw [if_pos c0, XK hl, e10]; simp))) (congrArg AV.int (show (5 : Int) = (Z8 d f t) from by first | exact c1.symm | exact c8.symm | exact c0.symm | (rw [if_neg c9]; done) | (rw [c8]; rfl) | (rw [if_pos c0, XK hl, e10]; simp))))
 obtain ⟨l, hp, hl⟩ : ∃ l, Pth L f t l ∧ IsLeast (usL d d.frames.length) f t l := by rcases hF with h | h; exact h.2; (rw [h.1] at hb6; cases hb6)
 have c0 : Z8 d f t = 0 := by rw [Z8, if_neg (by rw [e0]; decide), if_neg (by simpa using hl.1.rch)]
 have e9 := hl.1.len (ZK _ _) c2.2.1.1
 refine Zd (nx (Za (Zn (sv tb rfl rfl rfl rfl (Zbl Zo Xu hJ rfl rfl rfl (lb rfl) (fun _ _ h => (h.get 0 rfl)) fun v7 => ?_)))))
 refine sv tb rfl rfl rfl rfl (Zy ?_)
 refine kw (lz [0, 3, 4, 5] (env' := [(_, _), (_, _), (_, _), (_, _)]) rfl) ?_
 refine nx (Za (Za (rgo tb hJ [0, 1, 2, 1001] [_, _] [] [(_, _), (_, _), (_, _), (_, .int t)] rfl rfl rfl rfl trivial (nx (Ze (Zw (ι := Int × (List Int) × Value × (List Int)) (fun (ii' : Int × (List Int) × Value × (List Int)) a w => match ii' with | (z, rp, vo, out) => ((Pth L f z rp) ∧ (l.reverse = out ++ rp.reverse.tail)) ∧ St All (SO S [OB.row vo 3 1 (out.map Yq), OB.q vq (q.map Yq), OB.map keyI (fun z' : Int => AV.int z') m1 L]) w0 101 [(10, .lit (.map (some m1))), (1, .int f), (20, .int z), (19, .lit vo)] (XO J S w0.heap.size [OB.row vo 3 1 (out.map Yq), OB.q vq (q.map Yq), OB.map keyI (fun z' : Int => AV.int z') m1 L]) a w) (fun (ii' : Int × (List Int) × Value × (List Int)) => match ii' with | (_, rp, _, _) => (rp.length : Nat)) ?_ ?_))))))
 intro a w h
 exact ⟨(t, l, v7, [t]), (show (Pth L f t l) ∧ (l.reverse = ([t]) ++ l.reverse.tail) from ⟨hp, by rw [hp.last]; simp⟩), lz [1, 2, 3, 0] rfl h⟩
 rintro ⟨z, rp, vo, out⟩
 refine ZD fun hF => ?_
 obtain ⟨f3_1, f3_2⟩ := hF
 refine Za (Za (rgo tb hJ [0, 1, 2, 3, 1002] [_, _, _] [] [(_, _), (_, _), (_, _), (_, _), (_, .bool (!decide (z = f)))] rfl rfl rfl rfl trivial (nx (tc 4 rfl rfl (fun hb7 => ?_) (fun hb7 => ?_)))))
 try simp at hb7
 obtain ⟨u, rp2, hu, hp2, hrp⟩ := f3_1.step hb7
 refine Zd (nx (Ze (Za (rgo tb hJ [0, 1, 3, 1003] [_, _, .int ((Zq L z).getD default), _] [2] [(_, _), (_, _), (_, _), (_, .int ((Zq L z).getD default))] rfl rfl rfl rfl ⟨fun _ _ _ hx hl _ => ZdH (Kd := keyI) (f := (fun z' : Int => AV.int z')) (L := L) Xs XL z rfl (ZA hx (mo 2 rfl)) (hl.dep 0 91 _ rfl rfl rfl rfl) (hl.dep 1 92 _ rfl rfl rfl rfl) hx, trivial⟩ ?_))))
 refine kw (sa 3 rfl (congrArg AV.int (show ((Zq L z).getD default) = u from by rw [hu]; rfl))) ?_
 refine nx (Zn (sv tb rfl rfl rfl rfl (sv tb rfl rfl rfl rfl (sq (.rd (ZG ([u]))) rfl rfl (lb rfl) (fun _ _ h => ZV Zo Xu rfl (h.get 0 rfl) (Zr hS _ h.keep h.x _ (Nat.le_refl _)) (jo hJ h.x)) (ZR (f := Yq) (m := 2) (s := 94) out ([u]) (fun _ => rfl) YU hJ hJ0 rfl rfl rfl (lb rfl) rfl rfl (fun a w h => (h.get 0 rfl)) (by first | (have := f2_2.small (ZK _ _) c2.2.1.1; omega) | (have := congrArg List.length f3_2; rw [hrp] at this; simp at this; simp; omega)) (by first | (have := f2_2.small (ZK _ _) c2.2.1.1; omega) | (have := congrArg List.length f3_2; rw [hrp] at this; simp at this; simp; omega)) fun v8 => ?_)))))
 refine sv tb rfl rfl rfl rfl (Zy ?_)
 refine kw (lz [0, 2, 5, 6, 7] (env' := [(_, _), (_, _), (_, _), (_, _), (_, _)]) rfl) ?_
 intro a w h; change ∃ j, _ ∧ _
 exact ⟨(u, rp2, v8, out ++ ([u])), ⟨⟨(show Pth L f u rp2 from hp2), (show l.reverse = (out ++ ([u])) ++ rp2.reverse.tail from by rw [f3_2, hrp, List.reverse_append]; simp only [List.reverse_cons, List.reverse_nil, List.nil_append, List.singleton_append, List.tail_cons]; rw [hp2.last]; simp)⟩, lz [2, 3, 4, 0] rfl h⟩, (show rp2.length < rp.length from by rw [hrp]; simp)⟩
 try simp at hb7
 have e10 : out = l.reverse := by subst hb7; rw [f3_2, f3_1.end]; simp
 refine Zv (nx (Za ?_))
 refine tw (Zix (by first | (simp; done) | (rw [List.length_map, e10, List.length_reverse]; exact hl.1.pos))) ?_
 refine Zn (sv tb rfl rfl rfl rfl (Zat (O := [OB.q vo (out.map Yq)]) (R := [OB.q vq (q.map Yq), OB.map keyI (fun z' : Int => AV.int z') m1 L]) (Zdl hJ (v := vo) (xs := out) ) ZjW rfl rfl rfl (lb rfl) hS hJ0 ZP (fun a w h => (Zc (h.get 0 rfl) Zm)) fun _ => ?_))
 refine Zy ?_
 refine kw (lz [5] (env' := [(_, _)]) rfl) ?_
 refine nx (Za (rgo tb hJ [1001, 1002] [_, _, _] [] [(_, .lit vo), (_, .int (0 : Int))] rfl rfl rfl rfl trivial (nx ?_)))
 refine tw (fun h => Zc9 hS h (m := 0) (s := 6) rfl) ?_
 refine Zi (fun a w h => YC (m := 0) (k := 1) rfl (Zl h) rfl rfl (congrArg (fun z => AV.rd (ZG z)) (show out.reverse = (if Z8 d f t = 0 then chL (usL d d.frames.length) f t else []) from by first | exact c1.symm | exact c8.symm | exact c0.symm | (rw [if_neg c9]; done) | (rw [c8]; rfl) | (rw [if_pos c0, XK hl, e10]; simp))) (congrArg AV.int (show (0 : Int) = (Z8 d f t) from by first | exact c1.symm | exact c8.symm | exact c0.symm | (rw [if_neg c9]; done) | (rw [c8]; rfl) | (rw [if_pos c0, XK hl, e10]; simp))))
end Go.Proofs.YtnpgmdffjemnbaaGreatDoor
namespace Go.Proofs.YtnpgmdffjemnbaaGreatDoor

section
variable {us : List (List Int)} {f t m : Int}
theorem IsCh.part {l : List Int} (h : IsCh us f t l) (hm : m ∈ l) : ∃ l1 l2, IsCh us f m l1 ∧ IsCh us m t l2 ∧ l1.length + l2.length = l.length + 1 := by
  induction h with
  | one =>
    obtain rfl : m = f := by simpa using hm
    exact ⟨[m], [m], .one, .one, rfl⟩
  | snoc b c l h hc ih =>
    by_cases hl : m ∈ l
    · obtain ⟨l1, l2, h1, h2, h3⟩ := ih hl
      exact ⟨l1, l2 ++ [c], h1, .snoc b c l2 h2 hc, by simp; omega⟩
    · obtain rfl : m = c := by
        rcases List.mem_append.1 hm with h | h
        · exact absurd h hl
        · exact List.mem_singleton.1 h
      exact ⟨l ++ [m], [m], .snoc b m l h hc, .one, by simp⟩
theorem IsCh.cons {x : Int} {l : List Int} (hx : x ∈ ge us f.toNat) (h : IsCh us x t l) : IsCh us f t (f :: l) := by
  induction h with
  | one => exact .snoc f x [f] .one hx
  | snoc b c l _ hc ih => exact .snoc b c (f :: l) ih hc
theorem IsCh.uncons {l : List Int} (h : IsCh us f t l) : (f = t ∧ l = [f]) ∨ ∃ x l', x ∈ ge us f.toNat ∧ IsCh us x t l' ∧ l = f :: l' := by
  induction h with
  | one => exact .inl ⟨rfl, rfl⟩
  | snoc b c l h hc ih =>
    rcases ih with ⟨rfl, rfl⟩ | ⟨x, l', h1, h2, rfl⟩
    · exact .inr ⟨c, [c], hc, .one, rfl⟩
    · exact .inr ⟨x, l' ++ [c], h1, .snoc b c l' h2 hc, rfl⟩
theorem IsCh.head {l : List Int} (h : IsCh us f t l) : ge l 0 = f := by
  rcases h.uncons with ⟨_, rfl⟩ | ⟨x, l', _, _, rfl⟩ <;> rfl
theorem IsCh.last {l : List Int} (h : IsCh us f t l) : ge l (l.length - 1) = t := by
  cases h with
  | one => rfl
  | snoc b c l h hc => simp [ge, List.getD_eq_getElem?_getD]
theorem IsCh.past (hd : Xe us) (hm : 0 ≤ m) (hf : 0 ≤ f) {l : List Int} (h : IsCh us f t l) (hn : m ∉ l) : Rch (us.set m.toNat []) f t := by
  induction h with
  | one => exact .refl _
  | snoc b c l h hc ih =>
    have hb : b ≠ m := fun e => hn (by
      rw [← e, List.mem_append]
      have := h.last
      exact .inl (this ▸ Zb (by have := h.pos; omega)))
    have hb0 := (h.len hd hf).2
    refine (ih fun hx => hn (List.mem_append_left _ hx)).trans (.one ?_)
    by_cases hlt : m.toNat < us.length
    · rw [QU hlt, if_neg (by omega)]; exact hc
    · rw [List.set_eq_of_length_le (by omega)]; exact hc
theorem IsCh.range (hd : Xe us) (hf : 0 ≤ f) {l : List Int} (h : IsCh us f t l) : ∀ x ∈ l, 0 ≤ x ∧ x ≤ f := fun x hx => by
  obtain ⟨l1, l2, h1, _, _⟩ := h.part hx
  exact h1.rch.le hd hf
theorem LL.cons {a b : List Int} (h : LL a b) (x : Int) : LL (x :: a) (x :: b) := by
  rcases h with h | ⟨h1, h2⟩
  · exact .inl (by simpa using h)
  · exact .inr ⟨by simpa using h1, by rw [List.cons_lt_cons_iff]; exact .inr ⟨rfl, h2⟩⟩
theorem LL.total (a b : List Int) : a = b ∨ LL a b ∨ LL b a := by
  rcases Nat.lt_trichotomy a.length b.length with h | h | h
  · exact .inr (.inl (.inl h))
  · have key : ∀ (a b : List Int), a.length = b.length → a = b ∨ a < b ∨ b < a := by
      intro a
      induction a with
      | nil => intro b hb; exact .inl (List.eq_nil_of_length_eq_zero hb.symm).symm
      | cons x a ih =>
        intro b hb
        match b, hb with
        | y :: b, hb =>
          rcases Int.lt_trichotomy x y with h | h | h
          · exact .inr (.inl (by rw [List.cons_lt_cons_iff]; exact .inl h))
          · subst h
            rcases ih b (by simpa using hb) with h | h | h
            · exact .inl (by rw [h])
            · exact .inr (.inl (by rw [List.cons_lt_cons_iff]; exact .inr ⟨rfl, h⟩))
            · exact .inr (.inr (by rw [List.cons_lt_cons_iff]; exact .inr ⟨rfl, h⟩))
          · exact .inr (.inr (by rw [List.cons_lt_cons_iff]; exact .inl h))
    rcases key a b h with e | e | e
    · exact .inl e
    · exact .inr (.inl (.inr ⟨h, e⟩))
    · exact .inr (.inr (.inr ⟨h.symm, e⟩))
  · exact .inr (.inr (.inl h))
theorem LL.best : ∀ (C : List (List Int)), C ≠ [] → ∃ b ∈ C, ∀ a ∈ C, a = b ∨ LL b a
  | [], h => absurd rfl h
  | [c], _ => ⟨c, by simp, fun a ha => .inl (by simpa using ha)⟩
  | c :: d :: C, _ => by
    obtain ⟨b, hb, hmin⟩ := LL.best (d :: C) (by simp)
    rcases LL.total c b with e | e | e
    · exact ⟨b, List.mem_cons_of_mem _ hb, fun a ha => by
        rcases List.mem_cons.1 ha with rfl | ha
        · exact .inl e
        · exact hmin a ha⟩
    · exact ⟨c, by simp, fun a ha => by
        rcases List.mem_cons.1 ha with rfl | ha
        · exact .inl rfl
        · rcases hmin a ha with rfl | h
          · exact .inr e
          · exact .inr (e.trans h)⟩
    · exact ⟨b, List.mem_cons_of_mem _ hb, fun a ha => by
        rcases List.mem_cons.1 ha with rfl | ha
        · exact .inr e
        · exact hmin a ha⟩
open Classical in
theorem Qe (hd : Xe us) : ∀ (n : Nat) (f : Int), f.toNat = n → 0 ≤ f → Rch us f t → ∃ l, IsLeast us f t l := by
  intro n
  induction n using Nat.strongRecOn with
  | ind n ih =>
    intro f hn hf hr
    by_cases hft : f = t
    · exact ⟨[f], hft ▸ YW⟩
    · have hstep : ∃ x ∈ ge us f.toNat, Rch us x t := by
        cases hr with
        | refl => exact absurd rfl hft
        | step _ x _ hx hk => exact ⟨x, hx, hk⟩
      have hex : ∀ x ∈ ge us f.toNat, Rch us x t → ∃ l, IsLeast us x t l := fun x hx hk => by
        have := hd _ x hx
        exact ih x.toNat (by omega) x rfl this.1 hk
      obtain ⟨x0, hx0, hk0⟩ := hstep
      let C : List (List Int) := ((ge us f.toNat).filter fun x => decide (Rch us x t)).map fun x => chL us x t
      have hC : C ≠ [] := by
        intro e
        have : chL us x0 t ∈ C := List.mem_map.2 ⟨x0, List.mem_filter.2 ⟨hx0, by simpa using hk0⟩, rfl⟩
        rw [e] at this
        cases this
      obtain ⟨b, hb, hmin⟩ := LL.best C hC
      obtain ⟨x, hx, rfl⟩ := List.mem_map.1 hb
      obtain ⟨hx1, hx2⟩ := List.mem_filter.1 hx
      obtain ⟨lx, hlx⟩ := hex x hx1 (by simpa using hx2)
      rw [XK hlx] at hmin hb
      refine ⟨f :: lx, hlx.1.cons hx1, fun l' hl' => ?_⟩
      rcases hl'.uncons with ⟨e, _⟩ | ⟨y, l2, hy, hl2, rfl⟩
      · exact absurd e hft
      · obtain ⟨ly, hly⟩ := hex y hy hl2.rch
        have hmem : ly ∈ C := List.mem_map.2 ⟨y, List.mem_filter.2 ⟨hy, by simpa using hl2.rch⟩, XK hly⟩
        have h1 : l2 = lx ∨ LL lx l2 := by
          rcases hmin ly hmem with e | e <;> rcases hly.2 l2 hl2 with e2 | e2
          · exact .inl (by rw [e2, e])
          · exact .inr (e ▸ e2)
          · exact .inr (e2 ▸ e)
          · exact .inr (e.trans e2)
        rcases h1 with e | e
        · exact .inl (by rw [e])
        · exact .inr (e.cons _)
end
theorem ZnD {us : List (List Int)} {f t : Nat} {m : Int} (h : m ∈ Zau us f t) : m ∈ Xr us f ∧ m ≠ f ∧ m ≠ t ∧ ¬ Rch (us.set m.toNat []) f t := by
  obtain ⟨h1, h2⟩ := List.mem_filter.1 h
  refine ⟨h1, ?_⟩
  simp only [ZcZ, Bool.and_eq_true, Bool.not_eq_true', decide_eq_false_iff_not] at h2
  exact ⟨h2.1.1, h2.1.2, h2.2⟩
end Go.Proofs.YtnpgmdffjemnbaaGreatDoor
set_option maxHeartbeats 8000000
set_option maxRecDepth 100000
namespace Go.Proofs.YtnpgmdffjemnbaaGreatDoor
open Go.RowKit
theorem Zox : Zu Tryz.prog 22 := Zz Tryz.func22 rfl rfl
end Go.Proofs.YtnpgmdffjemnbaaGreatDoor
namespace Go.Proofs.YtnpgmdffjemnbaaGreatDoor
open Go.RowKit

def Zgk (v : Value) : List CD := [.lit v]
def valsC (vs : List Value) : CD := .sl (vs.map Zgk)
def rwO (e : TypeId) (p : Value × List Int) : OB := OB.row p.1 e 1 (p.2.map Yq)
def OB.rws (e : TypeId) (ps : List (Value × List Int)) : OB where
  blk := fun k => ∃ p ∈ ps, p.1.ownBlock = some k
  inv := fun lo S w => (∀ p ∈ ps, (rwO e p).inv lo S w) ∧ ps.Pairwise fun (a b : Value × List Int) => ∀ k : Nat, a.1.ownBlock = some k → ¬ b.1.ownBlock = some k
  mv := fun {_ _ _ _ _ _} ⟨h1, h2⟩ hk hb hs => ⟨fun p hp => (rwO e p).mv (h1 p hp) hk (fun k hk => hb k ⟨p, hp, hk⟩) hs, h2⟩
  lt := fun {_ _ _} ⟨h1, _⟩ k ⟨p, hp, hk⟩ => (rwO e p).lt (h1 p hp) k hk
theorem vs_get {vs : List Value} {ps : List (Value × List Int)} {q : Nat} (h : vs = ps.map Prod.fst) (hq : q < ps.length) : ge vs q = (ps.getD q (.slice none 0 0, [])).1 := by
  rw [h, ge, List.getD_eq_getElem?_getD, List.getElem?_map, List.getElem?_eq_getElem hq, List.getD_eq_getElem?_getD, List.getElem?_eq_getElem hq]
  rfl
theorem ZmR {ps : List (Value × List Int)} {q : Nat} (hq : q < ps.length) : (ps.getD q (.slice none 0 0, [])).2 = ge (ps.map Prod.snd) q := by
  rw [ge, List.getD_eq_getElem?_getD, List.getElem?_eq_getElem hq, List.getD_eq_getElem?_getD, List.getElem?_map, List.getElem?_eq_getElem hq]
  rfl
section
variable {n N : Nat} {P : Program} {J : World → Prop} {S : Nat → Prop} {O : List OB} {w0 : World} {env : List (Nat × AV)} {a : Act} {w : World} {o : Oper} {x y : Operand} {t e e2 : TypeId} {lo : Nat} {Q : Exit → Act → World → Prop} {ps : List (Value × List Int)}
theorem ZiB : SO S (OB.rws e ps :: O) = SO S (ps.map (rwO e) ++ O) := by
  funext b
  apply propext
  constructor
  · rintro ⟨h1, h2⟩
    refine ⟨h1, fun o ho hb => ?_⟩
    rcases List.mem_append.1 ho with ho | ho
    · obtain ⟨p, hp, rfl⟩ := List.mem_map.1 ho
      exact h2 (OB.rws e ps) (by simp) ⟨p, hp, hb⟩
    · exact h2 o (List.mem_cons_of_mem _ ho) hb
  · rintro ⟨h1, h2⟩
    refine ⟨h1, fun o ho hb => ?_⟩
    rcases List.mem_cons.1 ho with rfl | ho
    · obtain ⟨p, hp, hb⟩ := hb
      exact h2 (rwO e p) (List.mem_append_left _ (List.mem_map.2 ⟨p, hp, rfl⟩)) hb
    · exact h2 o (List.mem_append_right _ ho) hb
theorem xo_rws : XO J S lo (OB.rws e ps :: O) w ↔ XO J S lo (ps.map (rwO e) ++ O) w := by
  unfold XO
  rw [ZiB, List.pairwise_append, List.pairwise_map, List.pairwise_cons]
  constructor
  · rintro ⟨hj, h1, h2, h3⟩
    have h0 := h1 (OB.rws e ps) (by simp)
    refine ⟨hj, fun o ho => ?_, h0.2, h3, fun a ha b hb k hk => ?_⟩
    · rcases List.mem_append.1 ho with ho | ho
      · obtain ⟨p, hp, rfl⟩ := List.mem_map.1 ho
        exact h0.1 p hp
      · exact h1 o (List.mem_cons_of_mem _ ho)
    · obtain ⟨p, hp, rfl⟩ := List.mem_map.1 ha
      exact h2 b hb k ⟨p, hp, hk⟩
  · rintro ⟨hj, h1, h0, h3, h2⟩
    refine ⟨hj, fun o ho => ?_, fun b hb k ⟨p, hp, hk⟩ => h2 _ (List.mem_map.2 ⟨p, hp, rfl⟩) b hb k hk, h3⟩
    rcases List.mem_cons.1 ho with rfl | ho
    · exact ⟨fun p hp => h1 _ (List.mem_append_left _ (List.mem_map.2 ⟨p, hp, rfl⟩)), h0⟩
    · exact h1 o (List.mem_append_right _ ho)
theorem st_rws : St All (SO S (OB.rws e ps :: O)) w0 N env (XO J S w0.heap.size (OB.rws e ps :: O)) a w ↔ St All (SO S (ps.map (rwO e) ++ O)) w0 N env (XO J S w0.heap.size (ps.map (rwO e) ++ O)) a w := by
  have hx : XO J S w0.heap.size (OB.rws e ps :: O) = XO J S w0.heap.size (ps.map (rwO e) ++ O) := funext fun w => propext xo_rws
  rw [ZiB, hx]
theorem Zni (e : TypeId) (h : St All (SO S O) w0 N env (XO J S w0.heap.size O) a w) : St All (SO S (OB.rws e [] :: O)) w0 N env (XO J S w0.heap.size (OB.rws e [] :: O)) a w := st_rws.2 h
theorem Ziy (hJ : Stab J) (h : St All (SO S (OB.rws e ps :: O)) w0 N env (XO J S w0.heap.size (OB.rws e ps :: O)) a w) : St All (SO S (OB.rws e (ps ++ [(.slice none 0 0, [])]) :: O)) w0 N env (XO J S w0.heap.size (OB.rws e (ps ++ [(.slice none 0 0, [])]) :: O)) a w := by
  refine st_rws.2 (Qu ?_ (YI e 1 hJ (st_rws.1 h)))
  rw [List.map_append, List.append_assoc]
  exact List.perm_middle.symm
theorem Zhz {ops : Array Oper} {rest : List Oper} {bytes d m s q : Nat} {u : Value} (ys : List Int) (hq : q < ps.length) (hu : u = (ps.getD q (.slice none 0 0, [])).1) (ht : Zfp P t e 1 bytes) (hJ : Stab J) (hJ0 : J w0)
    (hg : o.guard = none) (hop : o.op = .call { callee := .builtin .append, args := #[x, y], argTypes := #[t, t] }) (hd : o.dst = some d) (hN : d < N) (hx : x = .tmp s) (he : env[m]? = some (s, .lit u))
    (hy : ∀ a w, St All (SO S (OB.rws e ps :: O)) w0 N env (XO J S w0.heap.size (OB.rws e ps :: O)) a w → Rel (SO S (OB.rws e ps :: O)) w (.rd (.sl (ys.map Yq))) (a.eval y)) (hb : ((ps.getD q (.slice none 0 0, [])).2.length + ys.length) * bytes ≤ 140737488355328) (h63 : (ps.getD q (.slice none 0 0, [])).2.length + ys.length ≤ 9223372036854775807)
    (next : ∀ v' a w, St All (SO S (OB.rws e (ps.set q (v', (ps.getD q (.slice none 0 0, [])).2 ++ ys)) :: O)) w0 N ((d, .lit v') :: YB d env) (XO J S w0.heap.size (OB.rws e (ps.set q (v', (ps.getD q (.slice none 0 0, [])).2 ++ ys)) :: O)) a w → wpListIn Fence.wide n P ops Q rest a w) :
    ∀ a w, St All (SO S (OB.rws e ps :: O)) w0 N env (XO J S w0.heap.size (OB.rws e ps :: O)) a w → wpListIn Fence.wide n P ops Q (o :: rest) a w := by
  have hps : ps = ps.take q ++ ps.getD q (.slice none 0 0, []) :: ps.drop (q + 1) := by
    rw [List.getD_eq_getElem?_getD, List.getElem?_eq_getElem hq, Option.getD_some, ← List.drop_eq_getElem_cons hq, List.take_append_drop]
  have hset : ∀ p', ps.set q p' = ps.take q ++ p' :: ps.drop (q + 1) := fun p' => by rw [List.set_eq_take_append_cons_drop, if_pos hq]
  generalize ps.getD q (.slice none 0 0, []) = p at *
  generalize ps.take q = A at *
  generalize ps.drop (q + 1) = B at *
  have hp : ∀ p', ((A ++ p' :: B).map (rwO e) ++ O).Perm (rwO e p' :: ((A ++ B).map (rwO e) ++ O)) := fun p' => by
    simp only [List.map_append, List.map_cons, List.append_assoc, List.cons_append]
    exact List.perm_middle
  subst hu
  subst hps
  have hgo := Zeu (O := (A ++ B).map (rwO e) ++ O) (rows := p.2.map Yq) (news := ys.map Yq) (v := p.1) (Q := Q) (rest := rest) (ops := ops) (n := n) (S := S) (m := m) (s := s) (d := d) (env := env) (N := N) ht hJ hJ0 hg hop hd hN hx he
    (fun a w h => (hy a w (st_rws.2 (Qu (hp p).symm h))).sub fun _ _ hs => (ZiB ▸ hs : SO S ((A ++ p :: B).map (rwO e) ++ O) _).perm (hp p)) (fun r hr => by obtain ⟨z, _, rfl⟩ := List.mem_map.1 hr; rfl) (by simp only [List.length_map, maxLen]; exact h63) (by simp only [List.length_map]; exact hb)
    (fun v' a w h => next v' a w (by
      rw [hset]
      refine st_rws.2 (Qu (hp (v', p.2 ++ ys)).symm ?_)
      rw [← List.map_append] at h
      exact h))
  exact fun a w h => hgo a w (Qu (hp p) (st_rws.1 h))
theorem d_own0 {k : Nat} (ht : Yr P t e k) (hJ : Stab J) (hop : o.op = .buildSlice t 0 #[]) (hk0 : Keeps All w0 w) (hx : XO J S w0.heap.size O w) : Yk n P o a w fun v' w' => Zbf J S w0 O w (OB.row v' e k [] :: O) w' := by
  have hk : Keeps All w (w.alloc (.cells #[] e)) := (Keeps.refl _ _).alloc _
  refine ZQ (v := .slice (some ⟨w.heap.size, 0, none⟩) 0 0) (w' := w.alloc (.cells #[] e)) ?_ (Xn hJ hk0 hx hk (fun b hb => ?_) ⟨[], World.ownsRow_made w #[] 0 hk0.size (Nat.zero_le _) (by simp), trivial, fun r hr => by cases hr⟩)
  · have := Zbm ht w
    rw [execOp, hop]
    simp only [List.map_toArray, List.map_nil, Sem.run_bind, this]
    rfl
  · simp [OB.row, Value.ownBlock] at hb; omega
theorem Zf1 {α β : Type} {f : α → List CD} {g : β → List CD} {v z : Value} {e3 : TypeId} {k : Nat} {xs : List α} {ys : List β} {i : Nat} (u : α) (hf : f u = [.sl (ys.map g)]) (hS : ∀ b, w0.heap.size ≤ b → S b) (hJ : Stab J) (hJ0 : J w0) (hs : X2 P t 1) (hop : o.op = .store t x y) (hk0 : Keeps All w0 w)
    (hx : XO J S w0.heap.size (OB.row z e3 k (ys.map g) :: OB.row v e 1 (xs.map f) :: O) w) {S' : Nat → Prop} (h1 : Rel S' w (.lit (XI v (i * 1))) (a.eval x)) (h2 : a.eval y = z) (hl : i < xs.length) :
    Yk n P o a w fun _ w' => Zbf J S w0 (OB.row z e3 k (ys.map g) :: OB.row v e 1 (xs.map f) :: O) w (OB.row v e 1 ((xs.set i u).map f) :: O) w' := by
  have hp := List.pairwise_cons.1 hx.2.2
  have hi := hx.2.1 (OB.row z e3 k (ys.map g)) (by simp)
  have hx' : XO J S w0.heap.size (OB.row v e 1 (xs.map f) :: O) w := ⟨hx.1, fun p hp => OB.sub (hx.2.1 p (List.mem_cons_of_mem _ hp)) fun _ _ hk => hk.drop, hp.2⟩
  have hz : Rel (SO S (OB.row v e 1 (xs.map f) :: O)) w (.rd (.sl (ys.map g))) (a.eval y) := by
    rw [h2]
    exact Zdf (fun k hk => ⟨hS k ((OB.row z e3 _ _).lt hi k hk).1, fun p hp' => hp.1 p hp' k hk⟩) (OB.sub hi fun k _ hk => hk.drop)
  exact ZJ (ZcH u hf hJ hJ0 hs hop hk0 hx' h1 hz hl) fun _ _ hs => ⟨hs.1, hs.2.1, fun av v hr => hs.2.2 av v (hr.sub fun _ _ hk => hk.drop)⟩
theorem Zhy {s m : Nat} {v : Value} (hS : ∀ b, w0.heap.size ≤ b → S b) (h : St All (SO S (OB.row v e2 1 ((ps.map Prod.fst).map Zgk) :: OB.rws e ps :: O)) w0 N env (XO J S w0.heap.size (OB.row v e2 1 ((ps.map Prod.fst).map Zgk) :: OB.rws e ps :: O)) a w) (he : env[m]? = some (s, .lit v)) :
    St All (SO S O) w0 N ((s, .rd (ZF (ps.map Prod.snd))) :: YB s env) (XO J S w0.heap.size O) a w := by
  have h1 := ZO hS h he
  have h2 := Yt h1
  refine ⟨h.defs, h.size, h.keep, h2.x, fun p hp => ?_⟩
  rcases List.mem_cons.1 hp with rfl | hp
  · refine ⟨(h.env _ (List.mem_of_getElem? he)).1, ?_⟩
    have hv := ((h2.env _ (List.mem_cons_self)).2)
    simp only [Rel] at hv ⊢
    have hin : ∀ p ∈ ps, Rd (SO S O) w (ZG p.2) p.1 := fun p hp => by
      have := Zdf (v := p.1) (e := e) (size := 1) (rows := p.2.map Yq) (fun k hk => Za5 hS h1 k ⟨p, hp, hk⟩) (OB.sub ((h1.x.2.1 (OB.rws e ps) (by simp)).1 p hp) fun k _ hk => hk.drop)
      simp only [Rel] at this
      exact this
    generalize a.tmps.getD s undef = u at hv
    generalize hc : CD.sl ((ps.map Prod.fst).map Zgk) = c at hv
    cases hv with
    | lit => cases hc
    | ptr => cases hc
    | nil ad cap hm =>
      injection hc with hc
      have : ps = [] := by simpa using hc
      rw [this]
      exact .nil _ _ hm
    | sl b off cap n rows vs hl hm hb hSb hn hcl hr =>
      injection hc with hc
      subst hc
      simp only [List.length_map] at hl ⊢
      have hlen : ((ps.map Prod.snd).map Z2).length = ps.length := by simp
      have hn1 : 0 < ps.length → n = 1 := fun h0 => by
        have := hn (Zgk ps[0].1) (List.mem_map.2 ⟨ps[0].1, List.mem_map.2 ⟨ps[0], List.getElem_mem h0, rfl⟩, rfl⟩)
        exact this.symm
      have := Rd.sl (S := SO S O) (w := w) b off cap 1 ((ps.map Prod.snd).map Z2) vs (by rw [hlen]; exact hl) hm hb hSb (fun r hr => by obtain ⟨z, _, rfl⟩ := List.mem_map.1 hr; rfl) (fun i j hi hj => by
        rw [hlen] at hi
        have e := hn1 (by omega)
        subst e
        exact hcl i j (by simpa using hi) hj) (fun i j r c h3 h4 => by
        have hi : i < ps.length := by
          have := (List.getElem?_eq_some_iff.1 h3).1
          rwa [hlen] at this
        rw [List.map_map, List.getElem?_map, List.getElem?_eq_getElem hi] at h3
        simp only [Option.map_some, Option.some.injEq, Function.comp_apply] at h3
        subst h3
        match j, h4 with
        | 0, h4 =>
          injection h4 with h4
          subst h4
          have := hr i 0 (Zgk ps[i].1) (.lit ps[i].1) (by rw [List.map_map, List.getElem?_map, List.getElem?_eq_getElem hi]; rfl) rfl
          rw [this.of_lit]
          exact hin _ (List.getElem_mem hi))
      rw [hlen] at this
      exact this
  · exact h2.env p (List.mem_cons_of_mem _ hp)
end
end Go.Proofs.YtnpgmdffjemnbaaGreatDoor
namespace Go.Proofs.YtnpgmdffjemnbaaGreatDoor

def Zfc (acc : List Int) (l : List Int) : Int := l.foldl (fun d x => if 0 ≤ ge acc x.toNat ∧ (d < 0 ∨ ge acc x.toNat + 1 < d) then ge acc x.toNat + 1 else d) (-1)
def ZaK (t : Int) (us : List (List Int)) : List Int := us.foldl (fun acc l => acc ++ [if ((acc.length : Nat) : Int) = t then 0 else Zfc acc l]) []
theorem Za4 (acc l : List Int) (x : Int) : Zfc acc (l ++ [x]) = if 0 ≤ ge acc x.toNat ∧ (Zfc acc l < 0 ∨ ge acc x.toNat + 1 < Zfc acc l) then ge acc x.toNat + 1 else Zfc acc l := by rw [Zfc, List.foldl_append]; rfl
theorem QE (t : Int) (us : List (List Int)) (l : List Int) : ZaK t (us ++ [l]) = ZaK t us ++ [if (((ZaK t us).length : Nat) : Int) = t then 0 else Zfc (ZaK t us) l] := by rw [ZaK, List.foldl_append]; rfl
theorem Zap (t : Int) (us : List (List Int)) : (ZaK t us).length = us.length := by
  rw [← List.reverse_reverse us]
  induction us.reverse with
  | nil => rfl
  | cons l m ih => rw [List.reverse_cons, QE, List.length_append, ih]; simp
theorem Zlx (t : Int) (us : List (List Int)) : ∀ vs : List (List Int), ∃ r, ZaK t (us ++ vs) = ZaK t us ++ r := by
  intro vs
  rw [← List.reverse_reverse vs]
  induction vs.reverse with
  | nil => exact ⟨[], by simp⟩
  | cons l m ih =>
    obtain ⟨r, hr⟩ := ih
    rw [List.reverse_cons, ← List.append_assoc, QE, hr, List.append_assoc]
    exact ⟨_, rfl⟩
theorem Zcz {t : Int} {us : List (List Int)} {k p : Nat} (hp : p < k) (hk : k ≤ us.length) : ge (ZaK t us) p = ge (ZaK t (us.take k)) p := by
  obtain ⟨r, hr⟩ := Zlx t (us.take k) (us.drop k)
  rw [List.take_append_drop] at hr
  rw [hr, ge, ge, List.getD_eq_getElem?_getD, List.getD_eq_getElem?_getD, List.getElem?_append_left (by rw [Zap, List.length_take]; omega)]
theorem ZnT {t : Int} {us : List (List Int)} {k : Nat} (hk : k < us.length) : ge (ZaK t us) k = if (k : Int) = t then 0 else Zfc (ZaK t (us.take k)) (ge us k) := by
  have hl : (ZaK t (us.take k)).length = k := by rw [Zap, List.length_take]; omega
  rw [Zcz (k := k + 1) (by omega) (by omega), ZS hk, QE, ge, List.getD_eq_getElem?_getD, List.getElem?_append_right (by omega), hl, Nat.sub_self]
  rfl
def FarOk (us : List (List Int)) (t x v : Int) : Prop := (v = -1 ∧ ¬ Rch us x t) ∨ ∃ l, IsLeast us x t l ∧ v = (l.length : Int) - 1
theorem FarOk.neg {us : List (List Int)} {t x v : Int} (h : FarOk us t x v) : v < 0 ↔ ¬ Rch us x t := by
  rcases h with ⟨h, hr⟩ | ⟨l, hl, h⟩
  · exact ⟨fun _ => hr, fun _ => by omega⟩
  · have := hl.1.pos
    exact ⟨fun h2 => by omega, fun h2 => absurd hl.1.rch h2⟩
theorem IsLeast.short {us : List (List Int)} {f t : Int} {l l' : List Int} (h : IsLeast us f t l) (h' : IsCh us f t l') : l.length ≤ l'.length := by
  rcases h.2 l' h' with e | e
  · rw [e]; exact Nat.le_refl _
  · exact e.le
theorem ZnS {us : List (List Int)} (hd : Xe us) (t : Int) : ∀ i, i < us.length → FarOk us t (i : Int) (ge (ZaK t us) i) := by
  intro i
  induction i using Nat.strongRecOn with
  | ind i ih =>
    intro hi
    rw [ZnT hi]
    by_cases hit : (i : Int) = t
    · rw [if_pos hit]
      exact .inr ⟨[(i : Int)], hit ▸ YW, by simp⟩
    · rw [if_neg hit]
      -- after some of the uses
      have hx : ∀ x ∈ ge us i, FarOk us t x (ge (ZaK t (us.take i)) x.toNat) := fun x hx => by
        have h := hd i x hx
        have := ih x.toNat (by omega) (by omega)
        rw [Zcz (k := i) (by omega) (by omega), show ((x.toNat : Nat) : Int) = x by omega] at this
        exact this
      have key : ∀ m, m ≤ (ge us i).length → (Zfc (ZaK t (us.take i)) ((ge us i).take m) = -1 ∧ ∀ x ∈ (ge us i).take m, ¬ Rch us x t) ∨
          (∃ x ∈ (ge us i).take m, ∃ l, IsLeast us x t l ∧ Zfc (ZaK t (us.take i)) ((ge us i).take m) = l.length ∧ ∀ y ∈ (ge us i).take m, ∀ l', IsCh us y t l' → l.length ≤ l'.length) := by
        intro m
        induction m with
        | zero => intro _; exact .inl ⟨rfl, fun x hx => by simp at hx⟩
        | succ m ihm =>
          intro hm
          have hmem : ge (ge us i) m ∈ ge us i := Zb (by omega)
          have ho := hx _ hmem
          rw [ZS (by omega), Za4]
          generalize ge (ge us i) m = y at hmem ho
          generalize ge (ZaK t (us.take i)) y.toNat = v at ho
          have hsplit : ∀ z, z ∈ (ge us i).take m ++ [y] ↔ z ∈ (ge us i).take m ∨ z = y := fun z => by simp
          rcases ihm (by omega) with ⟨h1, h2⟩ | ⟨x, hxm, l, hl, h1, h2⟩
          · rw [h1]
            rcases ho with ⟨rfl, hn⟩ | ⟨ly, hly, rfl⟩
            · rw [if_neg (by omega)]
              exact .inl ⟨rfl, fun z hz => by rcases (hsplit z).1 hz with hz | rfl; exact h2 z hz; exact hn⟩
            · have hp := hly.1.pos
              rw [if_pos ⟨by omega, .inl (by decide)⟩]
              refine .inr ⟨y, by simp, ly, hly, by omega, fun z hz l' hl' => ?_⟩
              rcases (hsplit z).1 hz with hz | rfl
              · exact absurd hl'.rch (h2 z hz)
              · exact hly.short hl'
          · rw [h1]
            have hlp := hl.1.pos
            rcases ho with ⟨rfl, hn⟩ | ⟨ly, hly, rfl⟩
            · rw [if_neg (by omega)]
              refine .inr ⟨x, (hsplit x).2 (.inl hxm), l, hl, rfl, fun z hz l' hl' => ?_⟩
              rcases (hsplit z).1 hz with hz | rfl
              · exact h2 z hz l' hl'
              · exact absurd hl'.rch hn
            · have hp := hly.1.pos
              by_cases hlt : ly.length < l.length
              · rw [if_pos ⟨by omega, .inr (by omega)⟩]
                refine .inr ⟨y, by simp, ly, hly, by omega, fun z hz l' hl' => ?_⟩
                rcases (hsplit z).1 hz with hz | rfl
                · have := h2 z hz l' hl'; omega
                · exact hly.short hl'
              · rw [if_neg (by omega)]
                refine .inr ⟨x, (hsplit x).2 (.inl hxm), l, hl, rfl, fun z hz l' hl' => ?_⟩
                rcases (hsplit z).1 hz with hz | rfl
                · exact h2 z hz l' hl'
                · have := hly.short hl'; omega
      have hall := key (ge us i).length (Nat.le_refl _)
      rw [List.take_length] at hall
      rcases hall with ⟨h1, h2⟩ | ⟨x, hxm, l, hl, h1, h2⟩
      · refine .inl ⟨h1, fun hr => ?_⟩
        cases hr with
        | refl => exact hit rfl
        | step _ x _ hx hk => exact h2 x hx hk
      · have hch : IsCh us (i : Int) t ((i : Int) :: l) := hl.1.cons (by rw [Int.toNat_natCast]; exact hxm)
        obtain ⟨L, hL⟩ := Qe hd i (i : Int) (by simp) (by omega) hch.rch
        refine .inr ⟨L, hL, ?_⟩
        have g1 := hL.short hch
        rw [List.length_cons] at g1
        rcases hL.1.uncons with ⟨e, _⟩ | ⟨y, l', hy, hl', rfl⟩
        · exact absurd e hit
        · rw [Int.toNat_natCast] at hy
          have g2 := h2 y hy l' hl'
          rw [List.length_cons] at g1 ⊢
          rw [h1]
          omega
theorem ZhR {us : List (List Int)} (hd : Xe us) (ha : ∀ n, (ge us n).Pairwise (· < ·)) {c t : Int} {r : List Int} (h : IsLeast us c t r) (hn : c ≠ t) {fr : Int → Int} (hf : ∀ x ∈ ge us c.toNat, FarOk us t x (fr x)) {k : Nat} (hk : k < (ge us c.toNat).length) (hfk : fr (ge (ge us c.toNat) k) = (r.length : Int) - 2) (hmin : ∀ j, j < k → fr (ge (ge us c.toNat) j) ≠ (r.length : Int) - 2) :
    ∃ r', r = c :: r' ∧ IsLeast us (ge (ge us c.toNat) k) t r' := by
  rcases h.1.uncons with ⟨e, _⟩ | ⟨y, r', hy, hr', rfl⟩
  · exact absurd e hn
  · have hkm := Zb hk
    obtain ⟨lk, hlk, hlen⟩ : ∃ lk, IsLeast us (ge (ge us c.toNat) k) t lk ∧ fr (ge (ge us c.toNat) k) = (lk.length : Int) - 1 := by
      rcases hf _ hkm with ⟨h1, _⟩ | h1
      · rw [List.length_cons] at hfk
        have := hr'.pos
        omega
      · exact h1
    rw [List.length_cons] at hfk hmin
    have hle : lk.length = r'.length := by omega
    -- y's own chain is as short
    obtain ⟨ly, hly⟩ := Qe hd y.toNat y rfl (hd _ y hy).1 hr'.rch
    have hch : IsCh us c t (c :: ly) := hly.1.cons hy
    have hly2 : ly.length = r'.length := by
      have g1 := hly.short hr'
      have g2 := h.short hch
      simp only [List.length_cons] at g2
      omega
    have hfy : fr y = (r'.length : Int) - 1 := by
      rcases hf y hy with ⟨_, h2⟩ | ⟨l2, hl2, e⟩
      · exact absurd hr'.rch h2
      · rw [e, hl2.uniq hly, hly2]
    obtain ⟨j, hj, rfl⟩ := Xj hy
    have hjk : ¬ j < k := fun hjk => hmin j hjk (by rw [hfy]; omega)
    have heq : ge (ge us c.toNat) j = ge (ge us c.toNat) k := by
      refine Classical.byContradiction fun hne => ?_
      have hkj : k < j := by
        rcases Nat.lt_or_ge k j with h | h
        · exact h
        · exact absurd (by rw [show j = k by omega]) hne
      have hlt := List.pairwise_iff_getElem.1 (ha c.toNat) k j hk hj hkj
      rw [← XR hk, ← XR hj] at hlt
      -- the chain by the k-th is as long and less
      have hck : IsCh us c t (c :: lk) := hlk.1.cons hkm
      have hhead1 := hlk.1.head
      have hhead2 := hr'.head
      have hless : LL (c :: lk) (c :: r') := by
        refine LL.cons (.inr ⟨hle, ?_⟩) c
        match lk, r', hhead1, hhead2, hlk.1.pos, hr'.pos with
        | p :: lk, q :: r', h1, h2, _, _ =>
          have h1' : p = _ := h1
          have h2' : q = _ := h2
          rw [List.cons_lt_cons_iff, h1', h2']
          exact .inl hlt
      rcases h.2 _ hck with e | e
      · rw [e] at hless; exact hless.irr
      · exact (hless.trans e).irr
    refine ⟨r', rfl, heq ▸ hr', fun l' hl' => ?_⟩
    have hc' : IsCh us c t (c :: l') := IsCh.cons hkm hl'
    rcases h.2 _ hc' with e | e
    · exact .inl (List.cons_inj_right c |>.1 e)
    · refine .inr ?_
      rcases e with e | ⟨e1, e2⟩
      · exact .inl (by simpa using e)
      · rw [List.cons_lt_cons_iff] at e2
        rcases e2 with e2 | ⟨_, e2⟩
        · omega
        · exact .inr ⟨by simpa using e1, e2⟩
end Go.Proofs.YtnpgmdffjemnbaaGreatDoor
namespace Go.Proofs.YtnpgmdffjemnbaaGreatDoor

theorem ZoB {a b : List Int} (ha : a.Pairwise (· < ·)) (hb : b.Pairwise (· < ·)) (h : ∀ x, x ∈ a ↔ x ∈ b) : a = b := by
  have hn : b.Nodup := hb.imp fun h => by omega
  exact (ZaR hn ha fun x => (h x).symm).symm.trans (ZaR hn hb fun x => Iff.rfl)
theorem Zh2 {acc : List Int} {N : Int} (h0 : 0 ≤ N) (h : ∀ p, -1 ≤ ge acc p ∧ ge acc p ≤ N) (l : List Int) : -1 ≤ Zfc acc l ∧ Zfc acc l ≤ N + 1 := by
  rw [← List.reverse_reverse l]
  induction l.reverse with
  | nil =>
    rw [show Zfc acc ([] : List Int).reverse = -1 from rfl]
    omega
  | cons x m ih =>
    rw [List.reverse_cons, Za4]
    split
    · have := h x.toNat; omega
    · exact ih
theorem Zh3 (t : Int) (us : List (List Int)) : ∀ p, -1 ≤ ge (ZaK t us) p ∧ ge (ZaK t us) p ≤ us.length := by
  rw [← List.reverse_reverse us]
  induction us.reverse with
  | nil =>
    intro p
    rw [show ge (ZaK t ([] : List (List Int)).reverse) p = 0 by simp [ZaK, ge]]
    simp
  | cons l m ih =>
    intro p
    rw [List.reverse_cons, QE, List.length_append, List.length_singleton]
    have hr := Zh2 (by omega) ih l
    have hp := ih p
    rcases Nat.lt_trichotomy p (ZaK t m.reverse).length with h | h | h
    · rw [ge, List.getD_eq_getElem?_getD, List.getElem?_append_left h, ← List.getD_eq_getElem?_getD]
      rw [ge] at hp
      omega
    · rw [ge, List.getD_eq_getElem?_getD, List.getElem?_append_right (by omega), show p - (ZaK t m.reverse).length = 0 by omega]
      simp only [List.getElem?_cons_zero, Option.getD_some]
      split <;> omega
    · rw [ge, List.getD_eq_getElem?_getD, List.getElem?_eq_none (by simp; omega)]
      show -1 ≤ (0 : Int) ∧ (0 : Int) ≤ _
      omega
theorem Zko {d : Db} {n k : Nat} (h : k ≤ n) : (usL d n).take k = usL d k := by
  rw [usL, usL, ← List.map_take, List.take_range, Nat.min_eq_left h]
theorem far_at {d : Db} {t x : Int} {n k : Nat} (h0 : 0 ≤ x) (hx : x < k) (hk : k ≤ n) : FarOk (usL d n) t x (ge (ZaK t (usL d k)) x.toNat) := by
  have h := ZnS (ZK d n) t x.toNat (by rw [YA]; omega)
  rw [Zcz (k := k) (by omega) (by rw [YA]; omega), Zko hk, show ((x.toNat : Nat) : Int) = x by omega] at h
  exact h
theorem FarOk.val {us : List (List Int)} {t x v : Int} {r : List Int} (h : FarOk us t x v) (hl : IsLeast us x t r) : v = (r.length : Int) - 1 := by
  rcases h with ⟨_, h⟩ | ⟨l, hl2, h⟩
  · exact absurd hl.1.rch h
  · rw [h, hl.uniq hl2]
theorem ZhQ {us : List (List Int)} (hd : Xe us) {c t : Int} {r : List Int} (h : IsLeast us c t r) (hn : c ≠ t) {fr : Int → Int} (hf : ∀ x ∈ ge us c.toNat, FarOk us t x (fr x)) : ∃ k, k < (ge us c.toNat).length ∧ fr (ge (ge us c.toNat) k) = (r.length : Int) - 2 := by
  rcases h.1.uncons with ⟨e, _⟩ | ⟨y, r', hy, hr', rfl⟩
  · exact absurd e hn
  · obtain ⟨ly, hly⟩ := Qe hd y.toNat y rfl (hd _ y hy).1 hr'.rch
    have hch : IsCh us c t (c :: ly) := hly.1.cons hy
    have hly2 : ly.length = r'.length := by
      have g1 := hly.short hr'
      have g2 := h.short hch
      simp only [List.length_cons] at g2
      omega
    obtain ⟨j, hj, rfl⟩ := Xj hy
    refine ⟨j, hj, ?_⟩
    rw [(hf _ hy).val hly, hly2, List.length_cons]
    omega
def NxtI (us : List (List Int)) (t z : Int) (r : List Int) (fr : Int → Int) (nw : Int) (j : Nat) : Prop :=
  (nw = -1 ∧ ∀ i, i < j → fr (ge (ge us z.toNat) i) ≠ (r.length : Int) - 2) ∨ (0 ≤ nw ∧ nw < z ∧ ∃ r', r = z :: r' ∧ IsLeast us nw t r')
section
variable {us : List (List Int)} {t z nw : Int} {r : List Int} {fr : Int → Int} {j : Nat}
theorem NxtI.start (us : List (List Int)) (t z : Int) (r : List Int) (fr : Int → Int) : NxtI us t z r fr (-1) 0 := .inl ⟨rfl, fun i hi => by omega⟩
theorem NxtI.miss (h : NxtI us t z r fr nw j) (h0 : nw < 0) (hm : fr (ge (ge us z.toNat) j) ≠ (r.length : Int) - 2) : NxtI us t z r fr nw (j + 1) := by
  rcases h with ⟨h1, h2⟩ | ⟨h1, _⟩
  · refine .inl ⟨h1, fun i hi => ?_⟩
    by_cases e : i = j
    · exact e ▸ hm
    · exact h2 i (by omega)
  · omega
theorem NxtI.hit (hd : Xe us) (ha : ∀ n, (ge us n).Pairwise (· < ·)) (hl : IsLeast us z t r) (hn : z ≠ t) (hf : ∀ x ∈ ge us z.toNat, FarOk us t x (fr x)) (hz : 0 ≤ z) (h : NxtI us t z r fr nw j) (h0 : nw < 0) (hj : j < (ge us z.toNat).length) (hm : fr (ge (ge us z.toNat) j) = (r.length : Int) - 2) : NxtI us t z r fr (ge (ge us z.toNat) j) (j + 1) := by
  rcases h with ⟨_, h2⟩ | ⟨h1, _⟩
  · have := hd _ _ (Zb hj)
    exact .inr ⟨by omega, by omega, ZhR hd ha hl hn hf hj hm h2⟩
  · omega
theorem NxtI.done (hd : Xe us) (hl : IsLeast us z t r) (hn : z ≠ t) (hf : ∀ x ∈ ge us z.toNat, FarOk us t x (fr x)) (h : NxtI us t z r fr nw j) (he : (ge us z.toNat).length ≤ j ∨ 0 ≤ nw) : 0 ≤ nw ∧ nw < z ∧ ∃ r', r = z :: r' ∧ IsLeast us nw t r' := by
  rcases h with ⟨h1, h2⟩ | h
  · obtain ⟨k, hk, e⟩ := ZhQ hd hl hn hf
    exact absurd e (h2 k (by omega))
  · exact h
end
theorem ZgA {us : List (List Int)} (hd : Xe us) {f t : Int} {x : Nat} (hf : 0 ≤ f) (hxf : (x : Int) ≠ f) (hxt : (x : Int) ≠ t) (hx : x < us.length) : RchW us x f t ↔ Rch (us.set x []) f t := by
  constructor
  · intro h
    induction h with
    | refl => exact .refl _
    | snoc r b h h1 h2 h3 ih =>
      have hr := h.le hd hf
      refine (ih (fun e => h1 e.symm)).trans (.one ?_)
      rw [QU hx, if_neg (by omega)]
      exact h2
  · intro h
    have key : ∀ a b, Rch (us.set x []) a b → b ≠ x → RchW us x f a → a ≠ x → RchW us x f b := by
      intro a b hab hb
      induction hab with
      | refl => intro h _; exact h
      | step i y z hy hyz ih =>
        intro hi hix
        rw [QU hx] at hy
        split at hy
        · simp at hy
        · have hyx : y ≠ x := by
            rintro rfl
            cases hyz with
            | refl => exact hb rfl
            | step _ w _ hw _ =>
              rw [Int.toNat_natCast, QU hx, if_pos rfl] at hw
              simp at hw
          exact ih hb (.snoc _ _ hi hix hy hyx) hyx
    exact key _ _ h (fun e => hxt e.symm) .refl (fun e => hxf e.symm)
open Classical in
noncomputable def ZhN (us : List (List Int)) (f : Nat) (t : Int) (m : Nat) : List Int := ((List.range m).filter fun (p : Nat) => decide ((p : Int) ≠ f ∧ (p : Int) ≠ t ∧ (f : Int) ≠ t ∧ t ∉ Zic us p f)).map fun (p : Nat) => (p : Int)
theorem Zgz (d : Db) (f t : Int) : rdE d [f, t] = if QV d f = 0 then QV d t else QV d f := by
  unfold rdE QV
  simp only [List.any_cons, List.any_nil, Bool.or_false]
  generalize (decide (f < 0) || decide (((d.frames.length : Nat) : Int) ≤ f)) = a
  generalize (decide (t < 0) || decide (((d.frames.length : Nat) : Int) ≤ t)) = b
  by_cases h : Yz d = 0
  · have hn : (!decide (Yz d = 0)) = false := by simp [h]
    simp only [hn]
    cases a <;> cases b <;> rfl
  · have hn : (!decide (Yz d = 0)) = true := by simp [h]
    simp only [hn, if_true, if_neg h]
theorem ZnE {d : Db} {f t : Int} (h : Z8 d f t = 0) : rdE d [f, t] = 0 ∧ Rch (usL d d.frames.length) f t := by
  unfold Z8 at h
  split at h
  · rename_i h1; simp at h1; exact absurd h h1
  · rename_i h1
    split at h
    · cases h
    · rename_i h2; exact ⟨by simpa using h1, by simpa using h2⟩
theorem IsCh.eta {us : List (List Int)} {f t : Int} {l : List Int} (h : IsCh us f t l) : l = f :: l.tail := by
  rcases h.uncons with ⟨rfl, rfl⟩ | ⟨y, l', _, _, rfl⟩ <;> rfl
theorem ZgQ (us : List (List Int)) (f : Nat) (t : Int) (m : Nat) : (ZhN us f t m).length ≤ m := by
  unfold ZhN
  rw [List.length_map]
  exact Nat.le_trans (List.length_filter_le _ _) (by simp)
theorem ZeT (us : List (List Int)) (f : Nat) (t : Int) (m : Nat) : ZhN us f t (m + 1) = ZhN us f t m ++ (if ((!decide ((m : Int) = f) && !decide ((m : Int) = t)) && !decide ((f : Int) = t)) && !decide (t ∈ Zic us m f) then [(m : Int)] else []) := by
  unfold ZhN
  rw [List.range_succ, List.filter_append, List.map_append]
  congr 1
  by_cases h : ((m : Int) ≠ f ∧ (m : Int) ≠ t ∧ (f : Int) ≠ t ∧ t ∉ Zic us m f)
  · obtain ⟨h1, h2, h3, h4⟩ := h
    simp [h1, h2, h3, h4]
  · rw [if_neg, List.filter_cons_of_neg (by simpa using h)]
    · rfl
    · intro h'
      simp only [Bool.and_eq_true, Bool.not_eq_true', decide_eq_false_iff_not] at h'
      exact h ⟨h'.1.1.1, h'.1.1.2, h'.1.2, h'.2⟩
theorem mem_nedW {us : List (List Int)} {x f : Nat} {t : Int} : t ∈ Zic us x f ↔ 0 ≤ t ∧ t < f ∧ RchW us x f t := by
  unfold Zic
  simp only [List.mem_map, List.mem_filter, List.mem_range, decide_eq_true_eq]
  constructor
  · rintro ⟨p, ⟨h1, h2⟩, rfl⟩
    exact ⟨by omega, by omega, h2⟩
  · rintro ⟨h1, h2, h3⟩
    exact ⟨t.toNat, ⟨by omega, by rwa [show ((t.toNat : Nat) : Int) = t by omega]⟩, by omega⟩
theorem ZfM {us : List (List Int)} (hd : Xe us) {f : Nat} {t : Int} (hl : f < us.length) (hr : Rch us f t) : ZhN us f t us.length = Zau us f t.toNat := by
  have ht := hr.le hd (by omega)
  obtain ⟨t, rfl⟩ := Int.eq_ofNat_of_zero_le ht.1
  have hrl : (Xr us f).Pairwise (· < ·) := by
    unfold Xr
    rw [List.pairwise_append]
    exact ⟨ZdP us f, by simp, fun a ha b hb => by rw [List.mem_singleton.1 hb]; exact (nedL_mem.1 ha).2.1⟩
  simp only [Int.toNat_natCast]
  refine ZoB ?_ (hrl.sublist List.filter_sublist) fun x => ?_
  · unfold ZhN
    rw [List.pairwise_map]
    refine (List.pairwise_lt_range.sublist List.filter_sublist).imp fun h => by omega
  have hx1 : x ∈ ZhN us f t us.length ↔ ∃ p : Nat, p < us.length ∧ ((p : Int) ≠ f ∧ (p : Int) ≠ t ∧ (f : Int) ≠ t ∧ (t : Int) ∉ Zic us p f) ∧ (p : Int) = x := by
    unfold ZhN
    simp only [List.mem_map, List.mem_filter, List.mem_range, decide_eq_true_eq]
    exact ⟨fun ⟨p, ⟨h1, h2⟩, h3⟩ => ⟨p, h1, h2, h3⟩, fun ⟨p, h1, h2, h3⟩ => ⟨p, ⟨h1, h2⟩, h3⟩⟩
  rw [hx1]
  constructor
  · rintro ⟨p, hp, ⟨h1, h2, h3, h4⟩, rfl⟩
    have hn : ¬ Rch (us.set p []) f t := fun h => h4 (mem_nedW.2 ⟨by omega, by omega, (ZgA hd (by omega) h1 h2 hp).2 h⟩)
    obtain ⟨l, hl⟩ := Qe hd f (f : Int) (by simp) (by omega) hr
    have hpl : (p : Int) ∈ l := Classical.byContradiction fun h => hn (by have := hl.1.past hd (m := (p : Int)) (by omega) (by omega) h; rwa [Int.toNat_natCast] at this)
    obtain ⟨l1, _, h5, _⟩ := hl.1.part hpl
    have h6 := h5.rch.le hd (by omega)
    refine List.mem_filter.2 ⟨List.mem_append_left _ (nedL_mem.2 ⟨by omega, by omega, h5.rch⟩), ?_⟩
    simp only [ZcZ, Bool.and_eq_true, Bool.not_eq_true', decide_eq_false_iff_not, Int.toNat_natCast]
    exact ⟨⟨h1, h2⟩, hn⟩
  · intro h
    obtain ⟨h1, h2, h3, h4⟩ := ZnD h
    have h5 := ZgB h1
    refine ⟨x.toNat, by omega, ⟨by omega, by omega, fun e => h4 ?_, fun h6 => h4 ?_⟩, by omega⟩
    · rw [e]; exact .refl _
    · exact (ZgA hd (by omega) (by omega) (by omega) (by omega)).1 (mem_nedW.1 h6).2.2
end Go.Proofs.YtnpgmdffjemnbaaGreatDoor
namespace Go.Proofs.YtnpgmdffjemnbaaGreatDoor

def ZaY (out : List (List Int)) (n : Nat) : List (List Int) := out ++ List.replicate (n + 1 - out.length) []
theorem ZeY {out : List (List Int)} {n : Nat} (h : out.length ≤ n) : ZaY (out ++ [[]]) n = ZaY out n := by
  unfold ZaY
  rw [List.length_append, List.length_singleton, List.append_assoc, show n + 1 - out.length = (n + 1 - (out.length + 1)) + 1 by omega, List.replicate_succ]
  rfl
theorem ZeZ {out : List (List Int)} {n : Nat} (h : n < out.length) : ZaY out n = out := by
  unfold ZaY
  rw [show n + 1 - out.length = 0 by omega]
  simp
theorem ZdT (out : List (List Int)) (n : Nat) : (ZaY out n).length = max out.length (n + 1) := by
  unfold ZaY
  rw [List.length_append, List.length_replicate]
  omega
theorem ZbU {out : List (List Int)} {n : Nat} {l : List Int} (h : l ∈ ZaY out n) : l ∈ out ∨ l = [] := by
  rcases List.mem_append.1 h with h | h
  · exact .inl h
  · exact .inr (List.eq_of_mem_replicate h)
def levI (out : List (List Int)) (n : Nat) (i : Int) : List (List Int) := (ZaY out n).set n (ge (ZaY out n) n ++ [i])
def Q6 (ds : List Int) : Nat → List (List Int)
  | 0 => []
  | m + 1 => levI (Q6 ds m) (ge ds m).toNat (m : Int)
theorem Zli {ds : List Int} {b : Nat} (h : ∀ x ∈ ds, x.toNat ≤ b) : ∀ m, m ≤ ds.length → (Q6 ds m).length ≤ b + 1 := by
  intro m
  induction m with
  | zero => intro _; exact Nat.zero_le _
  | succ m ih =>
    intro hm
    have := h _ (Zb (xs := ds) (k := m) (by omega))
    have := ih (by omega)
    rw [Q6, levI, List.length_set, ZdT]
    omega
theorem ZgW (ds : List Int) : ∀ m, ∀ l ∈ Q6 ds m, l.length ≤ m := by
  intro m
  induction m with
  | zero => intro l hl; cases hl
  | succ m ih =>
    intro l hl
    rw [Q6, levI] at hl
    rcases List.mem_or_eq_of_mem_set hl with h | rfl
    · rcases ZbU h with h | rfl
      · have := ih l h; omega
      · exact Nat.zero_le _
    · have hn : (ge ds m).toNat < (ZaY (Q6 ds m) (ge ds m).toNat).length := by rw [ZdT]; omega
      rw [List.length_append, List.length_singleton]
      rcases ZbU (Zb hn) with h | h
      · have := ih _ h; omega
      · rw [h]; simp
end Go.Proofs.YtnpgmdffjemnbaaGreatDoor
set_option maxHeartbeats 8000000
set_option maxRecDepth 100000
namespace Go.Proofs.YtnpgmdffjemnbaaGreatDoor
open Go.RowKit

theorem ZkZ {J : World → Prop} (hJ : Stab J) (d : Db) (hw : ∀ f ∈ d.frames, f.wide.length * 32 ≤ 140737488351232) (hG : X5 J) : Fn Tryz.prog J 31 [.agg (dbC d)] (.tup [.rd (ZF (if Yz d = 0 then Q6 (ZT (usL d d.frames.length)) d.frames.length else [])), .int (Yz d)]) := by
 refine Zx (N := 44) Tryz.func31 rfl rfl (lb rfl) fun S w0 hS hJ0 => ?_
 refine tw Yi ?_
 refine Za (rgo tb hJ [1000] [_, _, _] [0] [(_, .ptr (dbC d))] rfl rfl rfl rfl ⟨fun _ _ hk hx hl _ => Yv rfl (hl.env 0 0 _ rfl rfl) (Zr hS _ hk hx _ (Nat.le_refl _)) (jo hJ hx), trivial⟩ (nx (Za (rgo tb hJ [1005, 1006] [_, .tup [gAV (rdE d ([] : List Int)) [Zg d.consts, Zg d.vars, Yn d.frames, ZF (usL d d.frames.length)], .int (rdE d ([] : List Int))], _, _, _, _, _] [1] [(_, gAV (rdE d ([] : List Int)) [Zg d.consts, Zg d.vars, Yn d.frames, ZF (usL d d.frames.length)]), (_, .int (rdE d ([] : List Int)))] rfl rfl rfl rfl ⟨fun _ _ hk hx hl _ => Qk (ZgL hJ (d := d) (ns := ([] : List Int)) (hw) (hG)) Zd9 rfl (Zr hS _ hk hx) (hx.1) (Zc (hl.dep 0 10 _ rfl rfl rfl rfl) (Zc (QL (Rel.of_lit (Go.Value.slice none 0 0))) Zm)) (jo hJ hx), trivial⟩ (nx (Za (Za (rgo tb hJ [0, 1, 1001] [_, _] [] [(_, _), (_, _), (_, .bool (!decide (rdE d ([] : List Int) = (0 : Int))))] rfl rfl rfl rfl trivial (nx (tc 2 rfl rfl (fun hb1 => ?_) (fun hb1 => ?_)))))))))))
 have c9 : ¬ Yz d = 0 := by rw [← ZaD]; exact ZaX hb1
 refine Za (rgo tb hJ [1001, 1002] [_, _, _] [] [(_, .lit (.slice none 0 0)), (_, .int (rdE d ([] : List Int)))] rfl rfl rfl rfl trivial (nx ?_))
 refine tw (fun h => Y8 h (m := 0) (s := 2) rfl) ?_
 refine Zi (fun a w h => YC (m := 0) (k := 1) rfl (Zl h) rfl rfl (congrArg (fun z => AV.rd (ZF z)) (show ([] : List (List Int)) = (if Yz d = 0 then Q6 (ZT (usL d d.frames.length)) d.frames.length else []) from by first | exact ZaD d | exact e0.symm | (rw [if_neg c9]; done) | (rw [if_pos e0, f1_3, show k = d.frames.length by omega]))) (congrArg AV.int (show (rdE d ([] : List Int)) = (Yz d) from by first | exact ZaD d | exact e0.symm | (rw [if_neg c9]; done) | (rw [if_pos e0, f1_3, show k = d.frames.length by omega]))))
 have e0 : Yz d = 0 := by rw [← ZaD]; exact Zek hb1
 have c3 := XZ e0
 have hul := YA d d.frames.length
 have hdl := XV (usL d d.frames.length)
 refine tw (sa 0 rfl (show (gAV (rdE d ([] : List Int)) [Zg d.consts, Zg d.vars, Yn d.frames, ZF (usL d d.frames.length)] : AV) = .ptr [Zg d.consts, Zg d.vars, Yn d.frames, ZF (usL d d.frames.length)] from ZaA (by rw [ZaD]; exact e0))) ?_
 refine Zd (nx (Za (rgo tb hJ [0, 1000] [_] [] [(_, _), (_, .lit (.slice none 0 0))] rfl rfl rfl rfl trivial (nx (Za (Za (rgo tb hJ [1, 1001, 1002, 1003] [_, _, _, _] [1, 2] [(_, _), (_, .rd (ZG (ZT (usL d d.frames.length)))), (_, .int (((ZT (usL d d.frames.length)).length : Nat) : Int)), (_, .int (0 : Int))] rfl rfl rfl rfl ⟨hFo hS hJ (ZkV hJ (d := d) (us := (usL d d.frames.length)) (ZK _ _) (by rw [YA]; exact c3)) Zoo rfl rfl rfl rfl, Ys Yx rfl rfl rfl rfl, trivial⟩ (nx (Zf (fun a w h => Zj h 1 rfl) fun hl1 => Ze ?_)))))))))
 refine tw (YI 28 1 hJ) ?_
 refine tw (Zni 3) ?_
 refine Zw (ι := Nat × Value × (List Value) × (List (Value × List Int))) (fun (ii' : Nat × Value × (List Value) × (List (Value × List Int))) a w => match ii' with | (k, vo, vs, ps) => ((k ≤ (ZT (usL d d.frames.length)).length) ∧ (vs = ps.map Prod.fst) ∧ (ps.map Prod.snd = Q6 (ZT (usL d d.frames.length)) k)) ∧ St All (SO S [OB.rws 3 ps, OB.row vo 28 1 (vs.map Zgk)]) w0 44 [(18, .rd (ZG (ZT (usL d d.frames.length)))), (19, .int (((ZT (usL d d.frames.length)).length : Nat) : Int)), (20, .int k), (6, .lit vo)] (XO J S w0.heap.size [OB.rws 3 ps, OB.row vo 28 1 (vs.map Zgk)]) a w) (fun (ii' : Nat × Value × (List Value) × (List (Value × List Int))) => match ii' with | (k, _, _, _) => ((ZT (usL d d.frames.length)).length - k : Nat)) ?_ ?_
 intro a w h
 exact ⟨(0, (.slice none 0 0), ([] : List Value), ([] : List (Value × List Int))), (show (0 ≤ (ZT (usL d d.frames.length)).length) ∧ (([] : List Value) = ([] : List (Value × List Int)).map Prod.fst) ∧ (([] : List (Value × List Int)).map Prod.snd = Q6 (ZT (usL d d.frames.length)) 0) from ⟨Nat.zero_le _, rfl, rfl⟩), lz [1, 2, 3, 0] rfl h⟩
 rintro ⟨k, vo, vs, ps⟩
 refine ZD fun hF => ?_
 obtain ⟨f1_1, f1_2, f1_3⟩ := hF
 refine Za (rgo tb hJ [0, 1, 2, 3, 1000] [_] [] [(_, _), (_, _), (_, _), (_, _), (_, .bool (decide ((k : Int) < (((ZT (usL d d.frames.length)).length : Nat) : Int))))] rfl rfl rfl rfl trivial (nx (Za (tc 4 rfl rfl (fun hb2 => ?_) (fun hb2 => ?_)))))
 try simp at hb2
 have e3 := ZcG (usL d d.frames.length) _ (Zb (xs := (ZT (usL d d.frames.length))) (k := k) (by omega))
 refine Zd (nx (Za (Ze (Za (rgo tb hJ [0, 1, 2, 3, 1003, 1004] [_, .ptr [.lit (.int .i64 (ge (ZT (usL d d.frames.length)) k))], _, _, _] [1] [(_, _), (_, _), (_, _), (_, _), (_, .int k), (_, .int (ge (ZT (usL d d.frames.length)) k))] rfl rfl rfl rfl ⟨hIx Zo (by first | omega | (simp; omega) | grind [Zb]) rfl rfl rfl rfl rfl rfl, trivial⟩ (nx (Za (Ze (Zw (ι := Value × (List Value) × (List (Value × List Int))) (fun (ii' : Value × (List Value) × (List (Value × List Int))) a w => match ii' with | (vp, vs2, ps2) => ((vs2 = ps2.map Prod.fst) ∧ (ZaY (ps2.map Prod.snd) (ge (ZT (usL d d.frames.length)) k).toNat = ZaY (ps.map Prod.snd) (ge (ZT (usL d d.frames.length)) k).toNat)) ∧ St All (SO S [OB.rws 3 ps2, OB.row vp 28 1 (vs2.map Zgk)]) w0 44 [(18, .rd (ZG (ZT (usL d d.frames.length)))), (19, .int (((ZT (usL d d.frames.length)).length : Nat) : Int)), (20, .int k), (7, .int k), (8, .int (ge (ZT (usL d d.frames.length)) k)), (6, .lit vp)] (XO J S w0.heap.size [OB.rws 3 ps2, OB.row vp 28 1 (vs2.map Zgk)]) a w) (fun (ii' : Value × (List Value) × (List (Value × List Int))) => match ii' with | (_, vs2, _) => ((ge (ZT (usL d d.frames.length)) k).toNat + 1 - vs2.length : Nat)) ?_ ?_)))))))))
 intro a w h
 exact ⟨(vo, vs, ps), (show (vs = ps.map Prod.fst) ∧ (ZaY (ps.map Prod.snd) (ge (ZT (usL d d.frames.length)) k).toNat = ZaY (ps.map Prod.snd) (ge (ZT (usL d d.frames.length)) k).toNat) from ⟨f1_2, rfl⟩), lz [0, 1, 2, 4, 5, 3] rfl h⟩
 rintro ⟨vp, vs2, ps2⟩
 refine ZD fun hF => ?_
 obtain ⟨f2_1, f2_2⟩ := hF
 refine Za (Za (rgr tb hJ [0, 1, 2, 3, 4, 5, 1003] [_, .int vs2.length, _, _] [1] [(_, _), (_, _), (_, _), (_, _), (_, _), (_, _), (_, .bool (decide ((vs2.length : Int) ≤ (ge (ZT (usL d d.frames.length)) k))))] rfl rfl rfl rfl ⟨fun _ _ _ hx hl _ => Yy Xw rfl (YM hS hx (mo 1 rfl) (hl.dep 0 25 _ rfl rfl rfl rfl)) hx, trivial⟩ (nx (tc 6 rfl rfl (fun hb3 => ?_) (fun hb3 => ?_)))))
 try simp at hb3
 have g1 : vs2.length = ps2.length := by rw [f2_1]; simp
 refine Zd (nx (Ze (Zn (sv tb rfl rfl rfl rfl (sq (.rd (valsC ([(Value.slice none 0 0)]))) rfl rfl (lb rfl) (fun _ _ h => ZV Z7 Zfr rfl (Rel.of_lit (Go.Value.slice none 0 0)) (Zr hS _ h.keep h.x _ (Nat.le_refl _)) (jo hJ h.x)) ?_)))))
 refine kw pm1 ?_
 refine ZR (f := Zgk) (m := 1) (s := 29) vs2 ([(Value.slice none 0 0)]) (fun _ => rfl) Zbd hJ hJ0 rfl rfl rfl (lb rfl) rfl rfl (fun a w h => (h.get 0 rfl)) (by first | (rw [List.length_singleton]; omega) | (simp; omega)) (by first | (rw [List.length_singleton]; omega) | (simp; omega)) fun v1 => ?_
 refine kw pm1 ?_
 refine kw (Ziy hJ) ?_
 refine sv tb rfl rfl rfl rfl (Zy ?_)
 refine kw (lz [0, 2, 4, 5, 6, 7, 8] (env' := [(_, _), (_, _), (_, _), (_, _), (_, _), (_, _), (_, _)]) rfl) ?_
 intro a w h; change ∃ j, _ ∧ _
 exact ⟨(v1, vs2 ++ ([(Value.slice none 0 0)]), ps2 ++ [(Value.slice none 0 0, [])]), ⟨⟨(show (vs2 ++ ([(Value.slice none 0 0)])) = (ps2 ++ [(Value.slice none 0 0, [])]).map Prod.fst from by rw [f2_1]; simp), (show ZaY ((ps2 ++ [(Value.slice none 0 0, [])]).map Prod.snd) (ge (ZT (usL d d.frames.length)) k).toNat = ZaY (ps.map Prod.snd) (ge (ZT (usL d d.frames.length)) k).toNat from by rw [← f2_2, List.map_append]; exact ZeY (by simp; omega))⟩, lz [2, 3, 4, 5, 6, 0] rfl h⟩, (show (ge (ZT (usL d d.frames.length)) k).toNat + 1 - (vs2 ++ ([(Value.slice none 0 0)])).length < (ge (ZT (usL d d.frames.length)) k).toNat + 1 - vs2.length from by first | omega | (simp; omega))⟩
 try simp at hb3
 have g1 : vs2.length = ps2.length := by rw [f2_1]; simp
 have e5 : ps2.map Prod.snd = ZaY (ps.map Prod.snd) (ge (ZT (usL d d.frames.length)) k).toNat := by rw [← f2_2, ZeZ (by simp; omega)]
 have e6 : ∀ l ∈ ZaY (ps.map Prod.snd) (ge (ZT (usL d d.frames.length)) k).toNat, l.length ≤ k := fun l hl => by (rcases ZbU hl with h' | h'); (exact ZgW _ _ _ (by rw [← f1_3]; exact h')); (rw [h']; exact Nat.zero_le _)
 rw [← e5] at e6
 have e8 : (ps2.getD (ge (ZT (usL d d.frames.length)) k).toNat (Value.slice none 0 0, [])).2.length ≤ k := by rw [ZmR (by omega)]; exact e6 _ (Zb (by simp; omega))
 refine Zv (nx (Zn (sv tb rfl rfl rfl rfl (sv tb rfl rfl rfl rfl (sv tb rfl rfl rfl rfl (sv tb rfl rfl rfl rfl (sq (.lit (XI vp ((ge (ZT (usL d d.frames.length)) k).toNat * 1))) rfl rfl (lb rfl) (fun _ _ h => Yu (i := (ge (ZT (usL d d.frames.length)) k)) Z7 rfl (ZA h.x (mo 1 rfl)) (h.get 1 rfl) (h.get 0 rfl) (by first | omega | (simp; omega) | grind [Zb]) (by rw [List.length_map]; exact (by first | omega | (simp; omega) | grind [Zb])) h.x) (sq (.rd (.lit (ge vs2 ((ge (ZT (usL d d.frames.length)) k).toNat)))) rfl rfl (lb rfl) (fun _ _ h => XP (i := (ge (ZT (usL d d.frames.length)) k).toNat) ZmX rfl (ZA h.x (mo 1 rfl)) (h.get 0 rfl) (ZaS (xs := vs2) (k := (ge (ZT (usL d d.frames.length)) k).toNat) (by first | omega | (simp; omega) | grind [Zb])) h.x) (sv tb rfl rfl rfl rfl (sq (.rd (ZG ([(k : Int)]))) rfl rfl (lb rfl) (fun _ _ h => ZV Zo Xu rfl (h.get 0 rfl) (Zr hS _ h.keep h.x _ (Nat.le_refl _)) (jo hJ h.x)) (Zhz (m := 2) (s := 37) (q := (ge (ZT (usL d d.frames.length)) k).toNat) ([(k : Int)]) (by omega) (vs_get f2_1 (by omega)) YU hJ hJ0 rfl rfl rfl (lb rfl) rfl rfl (fun a w h => (h.get 0 rfl)) (by first | (rw [List.length_singleton]; omega) | (simp; omega)) (by first | (rw [List.length_singleton]; omega) | (simp; omega)) fun v2 => ?_)))))))))))
 refine sq (.lit (XI vp ((ge (ZT (usL d d.frames.length)) k).toNat * 1))) rfl rfl (lb rfl) (fun _ _ h => Yu (i := (ge (ZT (usL d d.frames.length)) k)) Z7 rfl (ZA h.x (mo 1 rfl)) (h.get 8 rfl) (h.get 7 rfl) (by first | omega | (simp; omega) | grind [Zb]) (by rw [List.length_map]; exact (by first | omega | (simp; omega) | grind [Zb])) h.x) ?_
 refine kw pm1 ?_
 refine Qo (i := (ge (ZT (usL d d.frames.length)) k).toNat) hJ hJ0 Zcc rfl rfl rfl (by rw [List.length_map]; exact (by first | omega | (simp; omega) | grind [Zb])) (fun a w h => ⟨(h.get 0 rfl), (h.get 1 rfl)⟩) ?_
 rw [show (vs2.map Zgk).set ((ge (ZT (usL d d.frames.length)) k).toNat) [.lit v2] = (vs2.set ((ge (ZT (usL d d.frames.length)) k).toNat) v2).map Zgk from List.map_set.symm]
 refine Zy ?_
 refine kw (lz [2, 10, 11, 12, 15] (env' := [(_, _), (_, _), (_, _), (_, _), (_, _)]) rfl) ?_
 refine nx (Zf (fun a w h => Zj h 0 rfl) fun hl2 => rgo tb hJ [1, 2, 4, 1001] [.int ((k + 1 : Nat) : Int), _] [0] [(_, _), (_, _), (_, _), (_, .int ((k + 1 : Nat) : Int))] rfl rfl rfl rfl ⟨Yc (by first | omega | (simp; omega) | grind [Zb]) rfl rfl rfl rfl rfl, trivial⟩ ?_)
 refine kw pm1 ?_
 intro a w h; change ∃ j, _ ∧ _
 exact ⟨(k + 1, vp, vs2.set ((ge (ZT (usL d d.frames.length)) k).toNat) v2, ps2.set (ge (ZT (usL d d.frames.length)) k).toNat (v2, (ps2.getD (ge (ZT (usL d d.frames.length)) k).toNat (.slice none 0 0, [])).2 ++ ([(k : Int)]))), ⟨⟨(show (k + 1) ≤ (ZT (usL d d.frames.length)).length from by omega), (show (vs2.set ((ge (ZT (usL d d.frames.length)) k).toNat) v2) = (ps2.set (ge (ZT (usL d d.frames.length)) k).toNat (v2, (ps2.getD (ge (ZT (usL d d.frames.length)) k).toNat (.slice none 0 0, [])).2 ++ ([(k : Int)]))).map Prod.fst from by rw [f2_1, List.map_set]), (show (ps2.set (ge (ZT (usL d d.frames.length)) k).toNat (v2, (ps2.getD (ge (ZT (usL d d.frames.length)) k).toNat (.slice none 0 0, [])).2 ++ ([(k : Int)]))).map Prod.snd = Q6 (ZT (usL d d.frames.length)) (k + 1) from by rw [List.map_set, ZmR (by omega), Q6, levI, ← f1_3, ← e5])⟩, lz [0, 1, 3, 2] rfl h⟩, (show (ZT (usL d d.frames.length)).length - (k + 1) < (ZT (usL d d.frames.length)).length - k from by first | omega | (simp; omega))⟩
 try simp at hb2
 refine Zv (nx (Za (rgo tb hJ [1001, 1002] [_, _, _] [] [(_, .lit vo), (_, .int (0 : Int))] rfl rfl rfl rfl trivial (nx ?_))))
 refine tw pm1 ?_
 refine tw (ob0 (congrArg (fun z' => OB.row vo 28 1 (z'.map Zgk)) (show vs = ps.map Prod.fst from (f1_2)))) ?_
 refine tw (fun h => Zhy hS h (m := 0) (s := 2) rfl) ?_
 refine Zi (fun a w h => YC (m := 0) (k := 1) rfl (Zl h) rfl rfl (congrArg (fun z => AV.rd (ZF z)) (show (ps.map Prod.snd) = (if Yz d = 0 then Q6 (ZT (usL d d.frames.length)) d.frames.length else []) from by first | exact ZaD d | exact e0.symm | (rw [if_neg c9]; done) | (rw [if_pos e0, f1_3, show k = d.frames.length by omega]))) (congrArg AV.int (show (0 : Int) = (Yz d) from by first | exact ZaD d | exact e0.symm | (rw [if_neg c9]; done) | (rw [if_pos e0, f1_3, show k = d.frames.length by omega]))))
end Go.Proofs.YtnpgmdffjemnbaaGreatDoor
set_option maxHeartbeats 8000000
set_option maxRecDepth 100000
namespace Go.Proofs.YtnpgmdffjemnbaaGreatDoor
open Go.RowKit

theorem Zj0 {J : World → Prop} (hJ : Stab J) (d : Db) (i : Int) (h0 : 0 ≤ i) (hi : i.toNat < d.frames.length) (hf : d.frames.length ≤ 400) : Fn Tryz.prog J 45 [.agg (dbC d), .int i] (.rd (ZG (ZN d i.toNat))) := by
  have := Zj1 hJ d i.toNat hi hf
  rwa [show (i.toNat : Int) = i by omega] at this

end Go.Proofs.YtnpgmdffjemnbaaGreatDoor
set_option maxHeartbeats 8000000
set_option maxRecDepth 100000
namespace Go.Proofs.YtnpgmdffjemnbaaGreatDoor
open Go.RowKit
theorem Zok : Zu Tryz.prog 61 := Zz Tryz.func61 rfl rfl
theorem ZjY : Zu Tryz.prog 29 := Zz Tryz.func29 rfl rfl
theorem c_both {J : World → Prop} (hJ : Stab J) (d : Db) (f : Int) (t : Int) (hw : ∀ i, i < d.frames.length → (ge d.frames i).wide.length * 32 ≤ 140737488351232) : Fn Tryz.prog J 61 [.agg (dbC d), .int f, .int t] (.int (rdE d [f, t])) := by
 refine Zx (N := 17) Tryz.func61 rfl rfl (lb rfl) fun S w0 hS hJ0 => ?_
 clear hJ0
 refine Za (rg tb hJ [1, 2, 1000] [_, _] [0] [(_, _), (_, _), (_, .ptr (dbC d))] rfl rfl rfl rfl ⟨fun _ _ hk hx hl _ => Yv rfl (hl.env 0 0 _ rfl rfl) (hS _ hk.size) (js hJ hx), trivial⟩ (nx (Za (Za (rg tb hJ [1, 2, 1003] [_, _, .int (QV d f), _] [2] [(_, _), (_, _), (_, .int (QV d f))] rfl rfl rfl rfl ⟨hFn hS hJ (Zfj hJ (d := d) (i := f) (hw)) ZjX rfl rfl rfl rfl, trivial⟩ (nx (Za (rg tb hJ [0, 1, 2, 1001] [_, _] [] [(_, _), (_, _), (_, _), (_, .bool (!decide (QV d f = (0 : Int))))] rfl rfl rfl rfl trivial (nx (tc 3 rfl rfl (fun hb1 => ?_) (fun hb1 => ?_)))))))))))
 try simp at hb1
 refine Za (rg tb hJ [1001] [_, _] [] [(_, .int (QV d f))] rfl rfl rfl rfl trivial (nx (Zi (fun a w h => Zh (m := 0) rfl h rfl (congrArg AV.int (show (QV d f) = (rdE d [f, t]) from by rw [Zgz]; first | (rw [if_pos hb1]; done) | (rw [if_neg hb1]; done)))))))
 try simp at hb1
 refine Zd (nx (Za (rg tb hJ [1003] [_, _, .int (QV d t), _] [2] [(_, .int (QV d t))] rfl rfl rfl rfl ⟨hFn hS hJ (Zfj hJ (d := d) (i := t) (hw)) ZjX rfl rfl rfl rfl, trivial⟩ (nx (Zi (fun a w h => Zh (m := 0) rfl h rfl (congrArg AV.int (show (QV d t) = (rdE d [f, t]) from by rw [Zgz]; first | (rw [if_pos hb1]; done) | (rw [if_neg hb1]; done)))))))))
theorem Zj5 {J : World → Prop} (hJ : Stab J) (d : Db) (f : Int) (t : Int) (hw : ∀ i, i < d.frames.length → (ge d.frames i).wide.length * 32 ≤ 140737488351232) : Fn Tryz.prog J 29 [.agg (dbC d), .int f, .int t] (.tup [.rd (ZG (if Z8 d f t = 0 then chL (usL d d.frames.length) f t else [])), .int (Z8 d f t)]) := by
 refine Zx (N := 127) Tryz.func29 rfl rfl (lb rfl) fun S w0 hS hJ0 => ?_
 refine tw Yi ?_
 refine Za (rgo tb hJ [1, 2, 1000] [_, _, _] [0] [(_, _), (_, _), (_, .ptr (dbC d))] rfl rfl rfl rfl ⟨fun _ _ hk hx hl _ => Yv rfl (hl.env 0 0 _ rfl rfl) (Zr hS _ hk hx _ (Nat.le_refl _)) (jo hJ hx), trivial⟩ (nx (Za (Za (rgo tb hJ [0, 1, 2, 1004] [_, _, _, .int (rdE d [f, t]), _] [3] [(_, _), (_, _), (_, _), (_, .int (rdE d [f, t]))] rfl rfl rfl rfl ⟨hFo hS hJ (c_both hJ (d := d) (f := f) (t := t) (hw)) Zok rfl rfl rfl rfl, trivial⟩ (nx (Za (rgo tb hJ [0, 1, 2, 3, 1001] [_, _] [] [(_, _), (_, _), (_, _), (_, _), (_, .bool (!decide (rdE d [f, t] = (0 : Int))))] rfl rfl rfl rfl trivial (nx (tc 4 rfl rfl (fun hb1 => ?_) (fun hb1 => ?_)))))))))))
 have c1 : Z8 d f t = rdE d [f, t] := by rw [Z8, if_pos hb1]
 have c9 : ¬ Z8 d f t = 0 := by rw [c1]; exact ZaX hb1
 refine Za (rgo tb hJ [1001, 1002] [_, _, _] [] [(_, .lit (.slice none 0 0)), (_, .int (rdE d [f, t]))] rfl rfl rfl rfl trivial (nx ?_))
 refine tw (fun h => Y8 h (m := 0) (s := 6) rfl) ?_
 refine Zi (fun a w h => YC (m := 0) (k := 1) rfl (Zl h) rfl rfl (congrArg (fun z => AV.rd (ZG z)) (show ([] : List Int) = (if Z8 d f t = 0 then chL (usL d d.frames.length) f t else []) from by first | exact c1.symm | exact c8.symm | exact c0.symm | (rw [if_neg c9]; done) | (rw [c8]; rfl) | ((have e16 : r = [t] := by subst hb7; exact f3_3.uniq YW); rw [if_pos c0, XK hl, f3_4, e16]; simp; done))) (congrArg AV.int (show (rdE d [f, t]) = (Z8 d f t) from by first | exact c1.symm | exact c8.symm | exact c0.symm | (rw [if_neg c9]; done) | (rw [c8]; rfl) | ((have e16 : r = [t] := by subst hb7; exact f3_3.uniq YW); rw [if_pos c0, XK hl, f3_4, e16]; simp; done))))
 have e0 : rdE d [f, t] = 0 := Zek hb1
 have c2 := ZdG e0
 have c3 := XZ c2.1
 have hul := YA d d.frames.length
 refine Zd (nx (Za (Zn (XM Zo hJ rfl rfl rfl (lb rfl) fun v1 => ?_))))
 refine sv tb rfl rfl rfl rfl (Zy ?_)
 refine kw (lz [0, 2, 3, 4] (env' := [(_, _), (_, _), (_, _), (_, _)]) rfl) ?_
 refine nx (Za (Za (rgo tb hJ [0, 1, 2, 3, 1000] [_] [] [(_, _), (_, _), (_, _), (_, _), (_, .int (0 : Int))] rfl rfl rfl rfl trivial (nx (Ze (Zw (ι := Nat × Value × (List Int)) (fun (ii' : Nat × Value × (List Int)) a w => match ii' with | (k, vf, far) => ((k ≤ f.toNat + 1) ∧ (far = ZaK t (usL d k))) ∧ St All (SO S [OB.row vf 3 1 (far.map Yq)]) w0 127 [(1, .int f), (2, .int t), (3, .ptr (dbC d)), (10, .int k), (9, .lit vf)] (XO J S w0.heap.size [OB.row vf 3 1 (far.map Yq)]) a w) (fun (ii' : Nat × Value × (List Int)) => match ii' with | (k, _, _) => (f.toNat + 1 - k : Nat)) ?_ ?_))))))
 intro a w h
 exact ⟨(0, v1, ([] : List Int)), (show (0 ≤ f.toNat + 1) ∧ (([] : List Int) = ZaK t (usL d 0)) from ⟨Nat.zero_le _, rfl⟩), lz [1, 2, 3, 4, 0] rfl h⟩
 rintro ⟨k, vf, far⟩
 refine ZD fun hF => ?_
 obtain ⟨f1_1, f1_2⟩ := hF
 refine Za (Za (rgo tb hJ [0, 1, 2, 3, 4, 1002] [_, _, _] [] [(_, _), (_, _), (_, _), (_, _), (_, _), (_, .bool (decide ((k : Int) ≤ f)))] rfl rfl rfl rfl trivial (nx (tc 5 rfl rfl (fun hb2 => ?_) (fun hb2 => ?_)))))
 try simp at hb2
 have e3 := Zh3 t (usL d k)
 rw [← f1_2, YA] at e3
 have e4 : far.length = k := by rw [f1_2, Zap, YA]
 refine Zd (nx (Za (Ze (Za (rgo tb hJ [0, 1, 2, 3, 4, 1000] [_] [] [(_, _), (_, _), (_, _), (_, _), (_, _), (_, .int (-1 : Int))] rfl rfl rfl rfl trivial (nx (Za (rgo tb hJ [0, 1, 2, 3, 4, 5, 1002, 1003] [_, _, _, _] [2] [(_, _), (_, _), (_, _), (_, _), (_, _), (_, _), (_, .rd (ZG (ZN d (k : Int).toNat))), (_, .rd (ZG (ZN d (k : Int).toNat)))] rfl rfl rfl rfl ⟨hFo hS hJ (Zj0 hJ (d := d) (i := (k : Int)) (by omega) (by omega) (c3)) Zd8 rfl rfl rfl rfl, trivial⟩ ?_))))))))
 refine kw (sa 7 rfl (congrArg (fun z' => AV.rd (ZG z')) (show (ZN d (k : Int).toNat) = (ZN d k) from by rw [Int.toNat_natCast]))) ?_
 refine nx (Zf (fun a w h => Zj h 6 rfl) fun hl1 => Zf (fun a w h => Zj h 7 rfl) fun hl2 => Za (Za (rgo tb hJ [0, 1, 2, 3, 4, 5, 7, 1000] [_] [] [(_, _), (_, _), (_, _), (_, _), (_, _), (_, _), (_, _), (_, .int (0 : Int))] rfl rfl rfl rfl trivial (nx (Ze (Zw (ι := Nat × Int) (fun (ii' : Nat × Int) a w => match ii' with | (j, m) => ((j ≤ (ZN d k).length) ∧ (m = Zfc far ((ZN d k).take j))) ∧ St All (SO S [OB.row vf 3 1 (far.map Yq)]) w0 127 [(1, .int f), (2, .int t), (3, .ptr (dbC d)), (10, .int k), (9, .lit vf), (12, .rd (ZG (ZN d k))), (13, .int j), (11, .int m)] (XO J S w0.heap.size [OB.row vf 3 1 (far.map Yq)]) a w) (fun (ii' : Nat × Int) => match ii' with | (j, _) => ((ZN d k).length - j : Nat)) ?_ ?_))))))
 intro a w h
 exact ⟨(0, -1), (show (0 ≤ (ZN d k).length) ∧ ((-1) = Zfc far ((ZN d k).take 0)) from ⟨Nat.zero_le _, rfl⟩), lz [0, 1, 2, 3, 4, 6, 7, 5] rfl h⟩
 rintro ⟨j, m⟩
 refine ZD fun hF => ?_
 obtain ⟨f2_1, f2_2⟩ := hF
 refine Za (Za (rgo tb hJ [0, 1, 2, 3, 4, 5, 6, 7, 1003] [_, _, .int (((ZN d k).length : Nat) : Int), _] [2] [(_, _), (_, _), (_, _), (_, _), (_, _), (_, _), (_, _), (_, _), (_, .bool (decide ((j : Int) < (((ZN d k).length : Nat) : Int))))] rfl rfl rfl rfl ⟨Ys Yx rfl rfl rfl rfl, trivial⟩ (nx (tc 8 rfl rfl (fun hb3 => ?_) (fun hb3 => ?_)))))
 try simp at hb3
 have e5 : 0 ≤ ge (ZN d k) j ∧ ge (ZN d k) j < k := by have := ZK d d.frames.length k (ge (ZN d k) j); rw [Zc7 (by omega)] at this; exact this (Zb (by omega))
 have e6 := e3 (ge (ZN d k) j).toNat
 refine Zd (nx (Za (Ze (Za (rgr tb hJ [0, 1, 2, 3, 4, 5, 6, 7, 1023] [_, _, _, .ptr [.lit (.int .i64 (ge (ZN d k) j))], _, .ptr [.lit (.int .i64 (ge far (ge (ZN d k) j).toNat))], _, _, _, _, _, _, _, _, _, .ptr [.lit (.int .i64 (ge (ZN d k) j))], _, .ptr [.lit (.int .i64 (ge far (ge (ZN d k) j).toNat))], _, .int ((ge far (ge (ZN d k) j).toNat) + (1 : Int)), _, _, _, _] [3, 5, 15, 17, 19] [(_, _), (_, _), (_, _), (_, _), (_, _), (_, _), (_, _), (_, _), (_, .bool ((decide ((0 : Int) ≤ (ge far (ge (ZN d k) j).toNat))) && ((decide (m < (0 : Int))) || (decide ((ge far (ge (ZN d k) j).toNat) + (1 : Int) < m)))))] rfl rfl rfl rfl ⟨hIx Zo (by first | omega | (simp; omega) | grind [Zb]) rfl rfl rfl rfl rfl rfl, fun _ _ _ hx hl _ => ZI (i := (ge (ZN d k) j)) Zo rfl (YM hS hx (mo 0 rfl) (hl.dep 0 41 _ rfl rfl rfl rfl)) (hl.dep 4 45 _ rfl rfl rfl rfl) (by first | omega | (simp; omega) | grind [Zb]) (Q1 (xs := far) (i := (ge (ZN d k) j)) (by first | omega | (simp; omega) | grind [Zb]) (by first | omega | (simp; omega) | grind [Zb])) rfl hx, fun _ _ _ hx hl hc => ZI (i := (j : Int)) Zo rfl (hl.dep 13 54 _ rfl rfl rfl hc) (hl.dep 14 55 _ rfl rfl rfl hc) (Int.natCast_nonneg _) (ZL (xs := ZN d k) (k := j) (by have hc' : (((decide ((0 : Int) ≤ (ge far (ge (ZN d k) j).toNat))) == true) && ((decide (m < (0 : Int))) == false)) = true := hc; (try simp at hc'); (first | omega | (simp; omega) | grind [Zb]))) rfl hx, fun _ _ _ hx hl hc => ZI (i := (ge (ZN d k) j)) Zo rfl (YM hS hx (mo 0 rfl) (hl.dep 12 53 _ rfl rfl rfl hc)) (hl.dep 16 57 _ rfl rfl rfl hc) (by have hc' : (((decide ((0 : Int) ≤ (ge far (ge (ZN d k) j).toNat))) == true) && ((decide (m < (0 : Int))) == false)) = true := hc; (try simp at hc'); (first | omega | (simp; omega) | grind [Zb])) (Q1 (xs := far) (i := (ge (ZN d k) j)) (by have hc' : (((decide ((0 : Int) ≤ (ge far (ge (ZN d k) j).toNat))) == true) && ((decide (m < (0 : Int))) == false)) = true := hc; (try simp at hc'); (first | omega | (simp; omega) | grind [Zb])) (by have hc' : (((decide ((0 : Int) ≤ (ge far (ge (ZN d k) j).toNat))) == true) && ((decide (m < (0 : Int))) == false)) = true := hc; (try simp at hc'); (first | omega | (simp; omega) | grind [Zb]))) rfl hx, fun _ _ _ hx hl hc => ZkN (i := (ge far (ge (ZN d k) j).toNat)) (j := (1 : Int)) rfl (hl.dep 18 59 _ rfl rfl rfl hc) (Rel.of_lit (Go.Value.int Go.IntKind.i64 1)) (by have hc' : (((decide ((0 : Int) ≤ (ge far (ge (ZN d k) j).toNat))) == true) && ((decide (m < (0 : Int))) == false)) = true := hc; (try simp at hc'); (first | omega | (simp; omega) | grind [Zb])) (by have hc' : (((decide ((0 : Int) ≤ (ge far (ge (ZN d k) j).toNat))) == true) && ((decide (m < (0 : Int))) == false)) = true := hc; (try simp at hc'); (first | omega | (simp; omega) | grind [Zb])) hx, trivial⟩ (nx (tc 8 rfl rfl (fun hb4 => ?_) (fun hb4 => ?_))))))))
 refine rgr tb hJ [0, 1, 2, 3, 4, 5, 6, 1008] [_, _, _, .ptr [.lit (.int .i64 (ge (ZN d k) j))], _, .ptr [.lit (.int .i64 (ge far (ge (ZN d k) j).toNat))], _, .int ((ge far (ge (ZN d k) j).toNat) + (1 : Int)), _] [3, 5, 7] [(_, _), (_, _), (_, _), (_, _), (_, _), (_, _), (_, _), (_, .int ((ge far (ge (ZN d k) j).toNat) + (1 : Int)))] rfl rfl rfl rfl ⟨hIx Zo (by first | omega | (simp; omega) | grind [Zb]) rfl rfl rfl rfl rfl rfl, fun _ _ _ hx hl _ => ZI (i := (ge (ZN d k) j)) Zo rfl (YM hS hx (mo 0 rfl) (hl.dep 0 65 _ rfl rfl rfl rfl)) (hl.dep 4 69 _ rfl rfl rfl rfl) (by first | omega | (simp; omega) | grind [Zb]) (Q1 (xs := far) (i := (ge (ZN d k) j)) (by first | omega | (simp; omega) | grind [Zb]) (by first | omega | (simp; omega) | grind [Zb])) rfl hx, Yc (by first | omega | (simp; omega) | grind [Zb]) rfl rfl rfl rfl rfl, trivial⟩ (nx (rgo tb hJ [0, 1, 2, 3, 4, 5, 7, 1002] [_, .int ((j + 1 : Nat) : Int), _] [1] [(_, _), (_, _), (_, _), (_, _), (_, _), (_, _), (_, _), (_, .int ((j + 1 : Nat) : Int))] rfl rfl rfl rfl ⟨Yc (by first | omega | (simp; omega) | grind [Zb]) rfl rfl rfl rfl rfl, trivial⟩ ?_))
 intro a w h; change ∃ j, _ ∧ _
 exact ⟨(j + 1, (ge far (ge (ZN d k) j).toNat) + (1 : Int)), ⟨⟨(show (j + 1) ≤ (ZN d k).length from by omega), (show ((ge far (ge (ZN d k) j).toNat) + (1 : Int)) = Zfc far ((ZN d k).take (j + 1)) from by rw [ZS (by omega), Za4, ← f2_2]; first | (rw [if_pos (by simpa using hb4)]; done) | (rw [if_neg (by simpa using hb4)]; done))⟩, lz [0, 1, 2, 3, 4, 5, 7, 6] rfl h⟩, (show (ZN d k).length - (j + 1) < (ZN d k).length - j from by first | omega | (simp; omega))⟩
 refine Zd (nx (rgo tb hJ [0, 1, 2, 3, 4, 5, 7, 1002] [_, .int ((j + 1 : Nat) : Int), _] [1] [(_, _), (_, _), (_, _), (_, _), (_, _), (_, _), (_, _), (_, .int ((j + 1 : Nat) : Int))] rfl rfl rfl rfl ⟨Yc (by first | omega | (simp; omega) | grind [Zb]) rfl rfl rfl rfl rfl, trivial⟩ ?_))
 intro a w h; change ∃ j, _ ∧ _
 exact ⟨(j + 1, m), ⟨⟨(show (j + 1) ≤ (ZN d k).length from by omega), (show m = Zfc far ((ZN d k).take (j + 1)) from by rw [ZS (by omega), Za4, ← f2_2]; first | (rw [if_pos (by simpa using hb4)]; done) | (rw [if_neg (by simpa using hb4)]; done))⟩, lz [0, 1, 2, 3, 4, 5, 7, 6] rfl h⟩, (show (ZN d k).length - (j + 1) < (ZN d k).length - j from by first | omega | (simp; omega))⟩
 try simp at hb3
 refine Zv (nx (Za (Za (rgo tb hJ [0, 1, 2, 3, 4, 7, 1002] [_, _, _] [] [(_, _), (_, _), (_, _), (_, _), (_, _), (_, _), (_, .bool (decide ((k : Int) = t)))] rfl rfl rfl rfl trivial (nx (tc 6 rfl rfl (fun hb5 => ?_) (fun hb5 => ?_)))))))
 try simp at hb5
 refine rgo tb hJ [0, 1, 2, 3, 4, 1000] [_] [] [(_, _), (_, _), (_, _), (_, _), (_, _), (_, .int (0 : Int))] rfl rfl rfl rfl trivial (nx (Zn (sv tb rfl rfl rfl rfl (sv tb rfl rfl rfl rfl (sq (.rd (ZG ([(0 : Int)]))) rfl rfl (lb rfl) (fun _ _ h => ZV Zo Xu rfl (h.get 0 rfl) (Zr hS _ h.keep h.x _ (Nat.le_refl _)) (jo hJ h.x)) (ZR (f := Yq) (m := 2) (s := 76) far ([(0 : Int)]) (fun _ => rfl) YU hJ hJ0 rfl rfl rfl (lb rfl) rfl rfl (fun a w h => (h.get 0 rfl)) (by first | (simp; omega) | (have := congrArg List.length f3_4; simp at this; simp; omega)) (by first | (simp; omega) | (have := congrArg List.length f3_4; simp at this; simp; omega)) fun v2 => ?_))))))
 refine sv tb rfl rfl rfl rfl (Zy ?_)
 refine kw (lz [0, 2, 5, 6, 7, 8] (env' := [(_, _), (_, _), (_, _), (_, _), (_, _), (_, _)]) rfl) ?_
 refine nx (Zf (fun a w h => Zj h 1 rfl) fun hl3 => rgo tb hJ [0, 2, 3, 4, 1002] [_, .int ((k + 1 : Nat) : Int), _] [1] [(_, _), (_, _), (_, _), (_, _), (_, .int ((k + 1 : Nat) : Int))] rfl rfl rfl rfl ⟨Yc (by first | omega | (simp; omega) | grind [Zb]) rfl rfl rfl rfl rfl, trivial⟩ ?_)
 intro a w h; change ∃ j, _ ∧ _
 exact ⟨(k + 1, v2, far ++ ([(0 : Int)])), ⟨⟨(show (k + 1) ≤ f.toNat + 1 from by omega), (show (far ++ ([(0 : Int)])) = ZaK t (usL d (k + 1)) from by rw [ZbO, QE, Zap, YA, ← f1_2]; first | (rw [if_pos (by omega)]; done) | (rw [if_neg (by omega), f2_2, Zp (by omega)]))⟩, lz [1, 2, 3, 4, 0] rfl h⟩, (show f.toNat + 1 - (k + 1) < f.toNat + 1 - k from by first | omega | (simp; omega))⟩
 try simp at hb5
 refine Zd (nx (Zn (sv tb rfl rfl rfl rfl (sv tb rfl rfl rfl rfl (sq (.rd (ZG ([m]))) rfl rfl (lb rfl) (fun _ _ h => ZV Zo Xu rfl (h.get 0 rfl) (Zr hS _ h.keep h.x _ (Nat.le_refl _)) (jo hJ h.x)) (ZR (f := Yq) (m := 2) (s := 76) far ([m]) (fun _ => rfl) YU hJ hJ0 rfl rfl rfl (lb rfl) rfl rfl (fun a w h => (h.get 0 rfl)) (by first | (simp; omega) | (have := congrArg List.length f3_4; simp at this; simp; omega)) (by first | (simp; omega) | (have := congrArg List.length f3_4; simp at this; simp; omega)) fun v3 => ?_))))))
 refine sv tb rfl rfl rfl rfl (Zy ?_)
 refine kw (lz [0, 2, 5, 6, 7, 8] (env' := [(_, _), (_, _), (_, _), (_, _), (_, _), (_, _)]) rfl) ?_
 refine nx (Zf (fun a w h => Zj h 1 rfl) fun hl4 => rgo tb hJ [0, 2, 3, 4, 1002] [_, .int ((k + 1 : Nat) : Int), _] [1] [(_, _), (_, _), (_, _), (_, _), (_, .int ((k + 1 : Nat) : Int))] rfl rfl rfl rfl ⟨Yc (by first | omega | (simp; omega) | grind [Zb]) rfl rfl rfl rfl rfl, trivial⟩ ?_)
 intro a w h; change ∃ j, _ ∧ _
 exact ⟨(k + 1, v3, far ++ ([m])), ⟨⟨(show (k + 1) ≤ f.toNat + 1 from by omega), (show (far ++ ([m])) = ZaK t (usL d (k + 1)) from by rw [ZbO, QE, Zap, YA, ← f1_2]; first | (rw [if_pos (by omega)]; done) | (rw [if_neg (by omega), f2_2, Zp (by omega)]))⟩, lz [1, 2, 3, 4, 0] rfl h⟩, (show f.toNat + 1 - (k + 1) < f.toNat + 1 - k from by first | omega | (simp; omega))⟩
 try simp at hb2
 have e7 : far = ZaK t (usL d (f.toNat + 1)) := by rw [f1_2, show k = f.toNat + 1 by omega]
 have e8 : ∀ x, 0 ≤ x → x ≤ f → FarOk (usL d d.frames.length) t x (ge far x.toNat) := fun x h1 h2 => by rw [e7]; exact far_at h1 (by omega) (by omega)
 have e9 := e8 f (by omega) (Int.le_refl _)
 have e10 : far.length = f.toNat + 1 := by rw [e7, Zap, YA]
 refine Zv (nx (Za (Za (rgr tb hJ [0, 1, 2, 4, 1004] [_, _, .ptr [.lit (.int .i64 (ge far f.toNat))], _, _] [2] [(_, _), (_, _), (_, _), (_, _), (_, .bool (decide ((ge far f.toNat) < (0 : Int))))] rfl rfl rfl rfl ⟨fun _ _ _ hx hl _ => ZI (i := f) Zo rfl (YM hS hx (mo 0 rfl) (hl.dep 0 80 _ rfl rfl rfl rfl)) (hl.dep 1 81 _ rfl rfl rfl rfl) (by first | omega | (simp; omega) | grind [Zb]) (Q1 (xs := far) (i := f) (by first | omega | (simp; omega) | grind [Zb]) (by first | omega | (simp; omega) | grind [Zb])) rfl hx, trivial⟩ (nx (tc 4 rfl rfl (fun hb6 => ?_) (fun hb6 => ?_)))))))
 try simp at hb6
 have c8 : Z8 d f t = 5 := by rw [Z8, if_neg (by rw [e0]; decide), if_pos (by simpa using e9.neg.1 hb6)]
 refine Za (rgo tb hJ [1000, 1001] [_, _] [] [(_, .lit (.slice none 0 0)), (_, .int (5 : Int))] rfl rfl rfl rfl trivial (nx ?_))
 refine tw (fun h => Y8 h (m := 0) (s := 6) rfl) ?_
 refine Zi (fun a w h => YC (m := 0) (k := 1) rfl (Zl h) rfl rfl (congrArg (fun z => AV.rd (ZG z)) (show ([] : List Int) = (if Z8 d f t = 0 then chL (usL d d.frames.length) f t else []) from by first | exact c1.symm | exact c8.symm | exact c0.symm | (rw [if_neg c9]; done) | (rw [c8]; rfl) | ((have e16 : r = [t] := by subst hb7; exact f3_3.uniq YW); rw [if_pos c0, XK hl, f3_4, e16]; simp; done))) (congrArg AV.int (show (5 : Int) = (Z8 d f t) from by first | exact c1.symm | exact c8.symm | exact c0.symm | (rw [if_neg c9]; done) | (rw [c8]; rfl) | ((have e16 : r = [t] := by subst hb7; exact f3_3.uniq YW); rw [if_pos c0, XK hl, f3_4, e16]; simp; done))))
 try simp at hb6
 obtain ⟨l, hl⟩ := Qe (ZK d d.frames.length) f.toNat f rfl c2.2.1.1 (Classical.not_not.1 fun h => by have := e9.neg.2 h; omega)
 have c0 : Z8 d f t = 0 := by rw [Z8, if_neg (by rw [e0]; decide), if_neg (by simpa using hl.1.rch)]
 have e11 := hl.1.len (ZK _ _) c2.2.1.1
 refine Zd (nx (Za (Zn (sv tb rfl rfl rfl rfl (Zbl Zo Xu hJ rfl rfl rfl (lb rfl) (fun _ _ h => (h.get 0 rfl)) fun v4 => ?_)))))
 refine sv tb rfl rfl rfl rfl (Zy ?_)
 refine kw (lz [0, 3, 4, 5, 6] (env' := [(_, _), (_, _), (_, _), (_, _), (_, _)]) rfl) ?_
 refine nx (Za (Za (rgo tb hJ [0, 2, 3, 4, 1001] [_, _] [] [(_, _), (_, _), (_, _), (_, _), (_, .int f)] rfl rfl rfl rfl trivial (nx (Ze (Zw (ι := Int × (List Int) × Value × (List Int)) (fun (ii' : Int × (List Int) × Value × (List Int)) a w => match ii' with | (z, r, vo, out) => ((0 ≤ z) ∧ (z ≤ f) ∧ (IsLeast (usL d d.frames.length) z t r) ∧ (l = out ++ r.tail)) ∧ St All (SO S [OB.row vo 3 1 (out.map Yq), OB.row vf 3 1 (far.map Yq)]) w0 127 [(2, .int t), (3, .ptr (dbC d)), (9, .lit vf), (15, .int z), (14, .lit vo)] (XO J S w0.heap.size [OB.row vo 3 1 (out.map Yq), OB.row vf 3 1 (far.map Yq)]) a w) (fun (ii' : Int × (List Int) × Value × (List Int)) => match ii' with | (_, r, _, _) => (r.length : Nat)) ?_ ?_))))))
 intro a w h
 exact ⟨(f, l, v4, [f]), (show (0 ≤ f) ∧ (f ≤ f) ∧ (IsLeast (usL d d.frames.length) f t l) ∧ (l = ([f]) ++ l.tail) from ⟨c2.2.1.1, Int.le_refl _, hl, hl.1.eta⟩), lz [1, 2, 3, 4, 0] rfl h⟩
 rintro ⟨z, r, vo, out⟩
 refine ZD fun hF => ?_
 obtain ⟨f3_1, f3_2, f3_3, f3_4⟩ := hF
 refine Za (Za (rgo tb hJ [0, 1, 2, 3, 4, 1002] [_, _, _] [] [(_, _), (_, _), (_, _), (_, _), (_, _), (_, .bool (!decide (z = t)))] rfl rfl rfl rfl trivial (nx (tc 5 rfl rfl (fun hb7 => ?_) (fun hb7 => ?_)))))
 try simp at hb7
 have e12 : ∀ x ∈ (ge (usL d d.frames.length) z.toNat), FarOk (usL d d.frames.length) t x (ge far x.toNat) := fun x hx => by have := ZK _ _ z.toNat x hx; exact e8 x (by omega) (by omega)
 have e13 := (e8 z f3_1 f3_2).val f3_3
 refine Zd (nx (Ze (Za (rgo tb hJ [0, 1, 2, 3, 4, 1002, 1003] [_, _, _, _] [2] [(_, _), (_, _), (_, _), (_, _), (_, _), (_, .rd (ZG (ZN d z.toNat))), (_, .rd (ZG (ZN d z.toNat)))] rfl rfl rfl rfl ⟨hFo hS hJ (Zj0 hJ (d := d) (i := z) (by omega) (by omega) (c3)) Zd8 rfl rfl rfl rfl, trivial⟩ ?_))))
 refine kw (sa 6 rfl (congrArg (fun z' => AV.rd (ZG z')) (show (ZN d z.toNat) = (ge (usL d d.frames.length) z.toNat) from by rw [Zc7 (by omega)]))) ?_
 refine nx (Zf (fun a w h => Zj h 5 rfl) fun hl5 => Zf (fun a w h => Zj h 6 rfl) fun hl6 => Za (rgo tb hJ [0, 1, 2, 3, 4, 6, 1000] [_] [] [(_, _), (_, _), (_, _), (_, _), (_, _), (_, _), (_, .int (-1 : Int))] rfl rfl rfl rfl trivial (nx (Za (Za (rgo tb hJ [0, 1, 2, 3, 4, 5, 6, 1000] [_] [] [(_, _), (_, _), (_, _), (_, _), (_, _), (_, _), (_, _), (_, .int (0 : Int))] rfl rfl rfl rfl trivial (nx (Ze (Zw (ι := Nat × Int) (fun (ii' : Nat × Int) a w => match ii' with | (j, nw) => ((j ≤ (ge (usL d d.frames.length) z.toNat).length) ∧ (NxtI (usL d d.frames.length) t z r (fun x' => ge far x'.toNat) nw j)) ∧ St All (SO S [OB.row vo 3 1 (out.map Yq), OB.row vf 3 1 (far.map Yq)]) w0 127 [(2, .int t), (3, .ptr (dbC d)), (9, .lit vf), (15, .int z), (14, .lit vo), (16, .rd (ZG (ge (usL d d.frames.length) z.toNat))), (18, .int j), (17, .int nw)] (XO J S w0.heap.size [OB.row vo 3 1 (out.map Yq), OB.row vf 3 1 (far.map Yq)]) a w) (fun (ii' : Nat × Int) => match ii' with | (j, _) => ((ge (usL d d.frames.length) z.toNat).length - j : Nat)) ?_ ?_)))))))))
 intro a w h
 exact ⟨(0, -1), (show (0 ≤ (ge (usL d d.frames.length) z.toNat).length) ∧ (NxtI (usL d d.frames.length) t z r (fun x' => ge far x'.toNat) (-1) 0) from ⟨Nat.zero_le _, NxtI.start _ _ _ _ _⟩), lz [0, 1, 2, 3, 4, 5, 7, 6] rfl h⟩
 rintro ⟨j, nw⟩
 refine ZD fun hF => ?_
 obtain ⟨f4_1, f4_2⟩ := hF
 refine Za (Za (rgo tb hJ [0, 1, 2, 3, 4, 5, 6, 7, 1007] [_, _, .int (((ge (usL d d.frames.length) z.toNat).length : Nat) : Int), _, _, _, _, _] [2] [(_, _), (_, _), (_, _), (_, _), (_, _), (_, _), (_, _), (_, _), (_, .bool ((decide ((j : Int) < (((ge (usL d d.frames.length) z.toNat).length : Nat) : Int))) && (decide (nw < (0 : Int)))))] rfl rfl rfl rfl ⟨Ys Yx rfl rfl rfl rfl, trivial⟩ (nx (tc 8 rfl rfl (fun hb8 => ?_) (fun hb8 => ?_)))))
 try simp at hb8
 have e14 := ZK _ _ z.toNat _ (Zb (xs := (ge (usL d d.frames.length) z.toNat)) (k := j) (by omega))
 refine Zd (nx (Za (Ze (Za (rgr tb hJ [0, 1, 2, 3, 4, 5, 6, 7, 1012] [_, _, _, .ptr [.lit (.int .i64 (ge (ge (usL d d.frames.length) z.toNat) j))], _, .ptr [.lit (.int .i64 (ge far (ge (ge (usL d d.frames.length) z.toNat) j).toNat))], _, _, _, .ptr [.lit (.int .i64 (ge far z.toNat))], _, .int ((ge far z.toNat) - (1 : Int)), _] [3, 5, 9, 11] [(_, _), (_, _), (_, _), (_, _), (_, _), (_, _), (_, _), (_, _), (_, .bool (decide ((ge far (ge (ge (usL d d.frames.length) z.toNat) j).toNat) = (ge far z.toNat) - (1 : Int))))] rfl rfl rfl rfl ⟨hIx Zo (by first | omega | (simp; omega) | grind [Zb]) rfl rfl rfl rfl rfl rfl, fun _ _ _ hx hl _ => ZI (i := (ge (ge (usL d d.frames.length) z.toNat) j)) Zo rfl (YM hS hx (mo 1 rfl) (hl.dep 0 104 _ rfl rfl rfl rfl)) (hl.dep 4 108 _ rfl rfl rfl rfl) (by first | omega | (simp; omega) | grind [Zb]) (Q1 (xs := far) (i := (ge (ge (usL d d.frames.length) z.toNat) j)) (by first | omega | (simp; omega) | grind [Zb]) (by first | omega | (simp; omega) | grind [Zb])) rfl hx, fun _ _ _ hx hl _ => ZI (i := z) Zo rfl (YM hS hx (mo 1 rfl) (hl.dep 7 111 _ rfl rfl rfl rfl)) (hl.dep 8 112 _ rfl rfl rfl rfl) (by first | omega | (simp; omega) | grind [Zb]) (Q1 (xs := far) (i := z) (by first | omega | (simp; omega) | grind [Zb]) (by first | omega | (simp; omega) | grind [Zb])) rfl hx, ZoF (by first | omega | (simp; omega) | grind [Zb]) rfl rfl rfl rfl rfl, trivial⟩ (nx (tc 8 rfl rfl (fun hb9 => ?_) (fun hb9 => ?_))))))))
 try simp at hb9
 refine rgo tb hJ [0, 1, 2, 3, 4, 5, 6, 1004] [_, _, .ptr [.lit (.int .i64 (ge (ge (usL d d.frames.length) z.toNat) j))], _, _] [2] [(_, _), (_, _), (_, _), (_, _), (_, _), (_, _), (_, _), (_, .int (ge (ge (usL d d.frames.length) z.toNat) j))] rfl rfl rfl rfl ⟨hIx Zo (by first | omega | (simp; omega) | grind [Zb]) rfl rfl rfl rfl rfl rfl, trivial⟩ (nx (rgo tb hJ [0, 1, 2, 3, 4, 5, 7, 1002] [_, .int ((j + 1 : Nat) : Int), _] [1] [(_, _), (_, _), (_, _), (_, _), (_, _), (_, _), (_, _), (_, .int ((j + 1 : Nat) : Int))] rfl rfl rfl rfl ⟨Yc (by first | omega | (simp; omega) | grind [Zb]) rfl rfl rfl rfl rfl, trivial⟩ ?_))
 intro a w h; change ∃ j, _ ∧ _
 exact ⟨(j + 1, (ge (ge (usL d d.frames.length) z.toNat) j)), ⟨⟨(show (j + 1) ≤ (ge (usL d d.frames.length) z.toNat).length from by omega), (show NxtI (usL d d.frames.length) t z r (fun x' => ge far x'.toNat) (ge (ge (usL d d.frames.length) z.toNat) j) (j + 1) from by first | exact NxtI.hit (ZK _ _) (ZdD _ _) f3_3 hb7 e12 f3_1 f4_2 (by omega) (by omega) (by show ge far _ = _; omega) | exact NxtI.miss f4_2 (by omega) (by show ¬ ge far _ = _; omega))⟩, lz [0, 1, 2, 3, 4, 5, 7, 6] rfl h⟩, (show (ge (usL d d.frames.length) z.toNat).length - (j + 1) < (ge (usL d d.frames.length) z.toNat).length - j from by first | omega | (simp; omega))⟩
 try simp at hb9
 refine Zd (nx (rgo tb hJ [0, 1, 2, 3, 4, 5, 7, 1002] [_, .int ((j + 1 : Nat) : Int), _] [1] [(_, _), (_, _), (_, _), (_, _), (_, _), (_, _), (_, _), (_, .int ((j + 1 : Nat) : Int))] rfl rfl rfl rfl ⟨Yc (by first | omega | (simp; omega) | grind [Zb]) rfl rfl rfl rfl rfl, trivial⟩ ?_))
 intro a w h; change ∃ j, _ ∧ _
 exact ⟨(j + 1, nw), ⟨⟨(show (j + 1) ≤ (ge (usL d d.frames.length) z.toNat).length from by omega), (show NxtI (usL d d.frames.length) t z r (fun x' => ge far x'.toNat) nw (j + 1) from by first | exact NxtI.hit (ZK _ _) (ZdD _ _) f3_3 hb7 e12 f3_1 f4_2 (by omega) (by omega) (by show ge far _ = _; omega) | exact NxtI.miss f4_2 (by omega) (by show ¬ ge far _ = _; omega))⟩, lz [0, 1, 2, 3, 4, 5, 7, 6] rfl h⟩, (show (ge (usL d d.frames.length) z.toNat).length - (j + 1) < (ge (usL d d.frames.length) z.toNat).length - j from by first | omega | (simp; omega))⟩
 try simp at hb8
 have e15 := f4_2.done (ZK _ _) f3_3 hb7 e12 (by omega)
 obtain ⟨r2, hr2, hl2⟩ := e15.2.2
 refine Zv (nx (Za (rgo tb hJ [0, 1, 2, 4, 1001] [_, _] [] [(_, _), (_, _), (_, _), (_, _), (_, .int nw)] rfl rfl rfl rfl trivial (nx (Zn (sv tb rfl rfl rfl rfl (sv tb rfl rfl rfl rfl (sq (.rd (ZG ([nw]))) rfl rfl (lb rfl) (fun _ _ h => ZV Zo Xu rfl (h.get 0 rfl) (Zr hS _ h.keep h.x _ (Nat.le_refl _)) (jo hJ h.x)) (ZR (f := Yq) (m := 2) (s := 122) out ([nw]) (fun _ => rfl) YU hJ hJ0 rfl rfl rfl (lb rfl) rfl rfl (fun a w h => (h.get 0 rfl)) (by first | (simp; omega) | (have := congrArg List.length f3_4; simp at this; simp; omega)) (by first | (simp; omega) | (have := congrArg List.length f3_4; simp at this; simp; omega)) fun v5 => ?_)))))))))
 refine sv tb rfl rfl rfl rfl (Zy ?_)
 refine kw (lz [0, 2, 5, 6, 7, 8] (env' := [(_, _), (_, _), (_, _), (_, _), (_, _), (_, _)]) rfl) ?_
 intro a w h; change ∃ j, _ ∧ _
 exact ⟨(nw, r2, v5, out ++ ([nw])), ⟨⟨(show 0 ≤ nw from by omega), (show nw ≤ f from by omega), (show IsLeast (usL d d.frames.length) nw t r2 from hl2), (show l = (out ++ ([nw])) ++ r2.tail from by rw [f3_4, hr2, List.append_assoc]; exact congrArg (fun s => out ++ s) hl2.1.eta)⟩, lz [2, 3, 4, 5, 0] rfl h⟩, (show r2.length < r.length from by rw [hr2]; simp)⟩
 try simp at hb7
 refine Zv (nx (Za (rgo tb hJ [1001, 1002] [_, _, _] [] [(_, .lit vo), (_, .int (0 : Int))] rfl rfl rfl rfl trivial (nx ?_))))
 refine tw (fun h => ZO hS h (m := 0) (s := 6) rfl) ?_
 refine Zi (fun a w h => YC (m := 0) (k := 1) rfl (Zl h) rfl rfl (congrArg (fun z => AV.rd (ZG z)) (show out = (if Z8 d f t = 0 then chL (usL d d.frames.length) f t else []) from by first | exact c1.symm | exact c8.symm | exact c0.symm | (rw [if_neg c9]; done) | (rw [c8]; rfl) | ((have e16 : r = [t] := by subst hb7; exact f3_3.uniq YW); rw [if_pos c0, XK hl, f3_4, e16]; simp; done))) (congrArg AV.int (show (0 : Int) = (Z8 d f t) from by first | exact c1.symm | exact c8.symm | exact c0.symm | (rw [if_neg c9]; done) | (rw [c8]; rfl) | ((have e16 : r = [t] := by subst hb7; exact f3_3.uniq YW); rw [if_pos c0, XK hl, f3_4, e16]; simp; done))))
theorem c_Must {J : World → Prop} (hJ : Stab J) (d : Db) (f : Int) (t : Int) (hw : ∀ i, i < d.frames.length → (ge d.frames i).wide.length * 32 ≤ 140737488351232) : Fn Tryz.prog J 30 [.agg (dbC d), .int f, .int t] (.tup [.rd (ZG (if Z8 d f t = 0 then Zau (usL d d.frames.length) f.toNat t.toNat else [])), .int (Z8 d f t)]) := by
 refine Zx (N := 57) Tryz.func30 rfl rfl (lb rfl) fun S w0 hS hJ0 => ?_
 refine tw Yi ?_
 refine Za (rgo tb hJ [1, 2, 1000] [_, _, _] [0] [(_, _), (_, _), (_, .ptr (dbC d))] rfl rfl rfl rfl ⟨fun _ _ hk hx hl _ => Yv rfl (hl.env 0 0 _ rfl rfl) (Zr hS _ hk hx _ (Nat.le_refl _)) (jo hJ hx), trivial⟩ (nx (Za (Za (rgo tb hJ [0, 1, 2, 1005, 1007, 1008] [_, _, _, .tup [.rd (ZG (if Z8 d f t = 0 then chL (usL d d.frames.length) f t else [])), .int (Z8 d f t)], _, _, _, _, _] [3] [(_, _), (_, _), (_, _), (_, .rd (ZG (if Z8 d f t = 0 then chL (usL d d.frames.length) f t else []))), (_, .rd (ZG (if Z8 d f t = 0 then chL (usL d d.frames.length) f t else []))), (_, .int (Z8 d f t))] rfl rfl rfl rfl ⟨hFo hS hJ (Zj5 hJ (d := d) (f := f) (t := t) (hw)) ZjY rfl rfl rfl rfl, trivial⟩ (nx (Zf (fun a w h => Zj h 3 rfl) fun hl1 => Za (rgo tb hJ [0, 1, 2, 5, 1001] [_, _] [] [(_, _), (_, _), (_, _), (_, _), (_, .bool (!decide (Z8 d f t = (0 : Int))))] rfl rfl rfl rfl trivial (nx (tc 4 rfl rfl (fun hb1 => ?_) (fun hb1 => ?_)))))))))))
 have c9 : ¬ Z8 d f t = 0 := ZaX hb1
 refine Za (rgo tb hJ [1001, 1002] [_, _, _] [] [(_, .lit (.slice none 0 0)), (_, .int (Z8 d f t))] rfl rfl rfl rfl trivial (nx ?_))
 refine tw (fun h => Y8 h (m := 0) (s := 6) rfl) ?_
 refine Zi (fun a w h => YC (m := 0) (k := 1) rfl (Zl h) rfl rfl (congrArg (fun z => AV.rd (ZG z)) (show ([] : List Int) = (if Z8 d f t = 0 then Zau (usL d d.frames.length) f.toNat t.toNat else []) from by first | exact e0.symm | (rw [if_neg c9]; done) | (have h5 := ZfM (f := f.toNat) (ZK d d.frames.length) (by omega) (by rw [show (f.toNat : Int) = f by omega]; exact e1.2); rw [if_pos e0, f1_2, ← h5, hul, show k = d.frames.length by omega]))) rfl)
 have e0 : Z8 d f t = 0 := Zek hb1
 have e1 := ZnE e0
 have c2 := ZdG e1.1
 have c3 := XZ c2.1
 have hul := YA d d.frames.length
 refine Zd (nx (Za ?_))
 refine tw (sa 0 rfl (congrArg AV.int (show f = (f.toNat : Int) from by omega))) ?_
 refine Zn (XM Zo hJ rfl rfl rfl (lb rfl) fun v1 => ?_)
 refine sv tb rfl rfl rfl rfl (Zy ?_)
 refine kw (lz [0, 2, 3, 4] (env' := [(_, _), (_, _), (_, _), (_, _)]) rfl) ?_
 refine nx (Za (Za (rgo tb hJ [0, 1, 2, 3, 1000] [_] [] [(_, _), (_, _), (_, _), (_, _), (_, .int (0 : Int))] rfl rfl rfl rfl trivial (nx (Ze (Zw (ι := Nat × Value × (List Int)) (fun (ii' : Nat × Value × (List Int)) a w => match ii' with | (k, vo, out) => ((k ≤ d.frames.length) ∧ (out = ZhN (usL d d.frames.length) f.toNat t k)) ∧ St All (SO S [OB.row vo 3 1 (out.map Yq)]) w0 57 [(1, .int f.toNat), (2, .int t), (3, .ptr (dbC d)), (11, .int k), (10, .lit vo)] (XO J S w0.heap.size [OB.row vo 3 1 (out.map Yq)]) a w) (fun (ii' : Nat × Value × (List Int)) => match ii' with | (k, _, _) => (d.frames.length - k : Nat)) ?_ ?_))))))
 intro a w h
 exact ⟨(0, v1, ([] : List Int)), (show (0 ≤ d.frames.length) ∧ (([] : List Int) = ZhN (usL d d.frames.length) f.toNat t 0) from ⟨Nat.zero_le _, rfl⟩), lz [1, 2, 3, 4, 0] rfl h⟩
 rintro ⟨k, vo, out⟩
 refine ZD fun hF => ?_
 obtain ⟨f1_1, f1_2⟩ := hF
 refine Za (Za (rgo tb hJ [0, 1, 2, 3, 4, 1002, 1004] [_, _, _, .int d.frames.length, _] [3] [(_, _), (_, _), (_, _), (_, _), (_, _), (_, .rd (Yn d.frames)), (_, .bool (decide ((k : Int) < (d.frames.length : Int))))] rfl rfl rfl rfl ⟨Ys YH rfl rfl rfl rfl, trivial⟩ (nx (Zf (fun a w h => Zj h 5 rfl) fun hl2 => tc 6 rfl rfl (fun hb2 => ?_) (fun hb2 => ?_)))))
 try simp at hb2
 refine Zd (nx (Za (Ze (Za (rgo tb hJ [0, 1, 2, 3, 4, 1021] [_, _, _, _, _, _, _, _, _, _, _, _, _, _, _, _, _, .rd (ZG (Zic (usL d d.frames.length) (k : Int) f.toNat)), _, .bool (decide (t ∈ (Zic (usL d d.frames.length) (k : Int) f.toNat))), _, _] [17, 19] [(_, _), (_, _), (_, _), (_, _), (_, _), (_, .bool ((((!decide ((k : Int) = (f.toNat : Int))) && (!decide ((k : Int) = t))) && (!decide ((f.toNat : Int) = t))) && (!(decide (t ∈ (Zic (usL d d.frames.length) (k : Int) f.toNat))))))] rfl rfl rfl rfl ⟨fun _ _ hk hx hl hc => Qk (Zoz hJ (d := d) (i := f.toNat) (wo := (k : Int)) (by have hc' : ((((!decide ((k : Int) = (f.toNat : Int))) && (!decide ((k : Int) = t))) && (!decide ((f.toNat : Int) = t))) == true) = true := hc; (try simp at hc'); (omega)) (c3)) Zop rfl (Zr hS _ hk hx) (hx.1) (Zc (hl.dep 14 44 _ rfl rfl rfl hc) (Zc (hl.dep 15 45 _ rfl rfl rfl hc) (Zc (hl.dep 16 46 _ rfl rfl rfl hc) Zm))) (jo hJ hx), fun _ _ hk hx hl hc => Qk (c_in hJ (xs := (Zic (usL d d.frames.length) (k : Int) f.toNat)) (n := t) ) Zf7 rfl (Zr hS _ hk hx) (hx.1) (Zc (hl.dep 17 47 _ rfl rfl rfl hc) (Zc (hl.dep 18 48 _ rfl rfl rfl hc) Zm)) (jo hJ hx), trivial⟩ (nx (tc 5 rfl rfl (fun hb3 => ?_) (fun hb3 => ?_))))))))
 refine Zn (sv tb rfl rfl rfl rfl (sv tb rfl rfl rfl rfl (sq (.rd (ZG ([(k : Int)]))) rfl rfl (lb rfl) (fun _ _ h => ZV Zo Xu rfl (h.get 0 rfl) (Zr hS _ h.keep h.x _ (Nat.le_refl _)) (jo hJ h.x)) (ZR (f := Yq) (m := 2) (s := 52) out ([(k : Int)]) (fun _ => rfl) YU hJ hJ0 rfl rfl rfl (lb rfl) rfl rfl (fun a w h => (h.get 0 rfl)) (by have := ZgQ (usL d d.frames.length) f.toNat t k; rw [f1_2]; simp; omega) (by have := ZgQ (usL d d.frames.length) f.toNat t k; rw [f1_2]; simp; omega) fun v2 => ?_))))
 refine sv tb rfl rfl rfl rfl (Zy ?_)
 refine kw (lz [0, 2, 5, 6, 7, 8] (env' := [(_, _), (_, _), (_, _), (_, _), (_, _), (_, _)]) rfl) ?_
 refine nx (Zf (fun a w h => Zj h 1 rfl) fun hl3 => rgo tb hJ [0, 2, 3, 4, 1002] [_, .int ((k + 1 : Nat) : Int), _] [1] [(_, _), (_, _), (_, _), (_, _), (_, .int ((k + 1 : Nat) : Int))] rfl rfl rfl rfl ⟨Yc (by first | omega | (simp; omega) | grind [Zb]) rfl rfl rfl rfl rfl, trivial⟩ ?_)
 intro a w h; change ∃ j, _ ∧ _
 exact ⟨(k + 1, v2, out ++ ([(k : Int)])), ⟨⟨(show (k + 1) ≤ d.frames.length from by omega), (show (out ++ ([(k : Int)])) = ZhN (usL d d.frames.length) f.toNat t (k + 1) from by rw [ZeT, ← f1_2]; first | (rw [if_pos hb3]; done) | (rw [if_neg (by rw [hb3]; decide)]; simp; done))⟩, lz [1, 2, 3, 4, 0] rfl h⟩, (show d.frames.length - (k + 1) < d.frames.length - k from by first | omega | (simp; omega))⟩
 refine Zd (nx (rgo tb hJ [0, 1, 2, 4, 1002] [_, .int ((k + 1 : Nat) : Int), _] [1] [(_, _), (_, _), (_, _), (_, _), (_, .int ((k + 1 : Nat) : Int))] rfl rfl rfl rfl ⟨Yc (by first | omega | (simp; omega) | grind [Zb]) rfl rfl rfl rfl rfl, trivial⟩ ?_))
 intro a w h; change ∃ j, _ ∧ _
 exact ⟨(k + 1, vo, out), ⟨⟨(show (k + 1) ≤ d.frames.length from by omega), (show out = ZhN (usL d d.frames.length) f.toNat t (k + 1) from by rw [ZeT, ← f1_2]; first | (rw [if_pos hb3]; done) | (rw [if_neg (by rw [hb3]; decide)]; simp; done))⟩, lz [0, 1, 2, 4, 3] rfl h⟩, (show d.frames.length - (k + 1) < d.frames.length - k from by first | omega | (simp; omega))⟩
 try simp at hb2
 refine Zv (nx (Za (rgo tb hJ [1001, 1002] [_, _, _] [] [(_, .lit vo), (_, .int (0 : Int))] rfl rfl rfl rfl trivial (nx ?_))))
 refine tw (fun h => ZO hS h (m := 0) (s := 6) rfl) ?_
 refine Zi (fun a w h => YC (m := 0) (k := 1) rfl (Zl h) rfl rfl (congrArg (fun z => AV.rd (ZG z)) (show out = (if Z8 d f t = 0 then Zau (usL d d.frames.length) f.toNat t.toNat else []) from by first | exact e0.symm | (rw [if_neg c9]; done) | (have h5 := ZfM (f := f.toNat) (ZK d d.frames.length) (by omega) (by rw [show (f.toNat : Int) = f by omega]; exact e1.2); rw [if_pos e0, f1_2, ← h5, hul, show k = d.frames.length by omega]))) (congrArg AV.int (show (0 : Int) = (Z8 d f t) from by first | exact e0.symm | (rw [if_neg c9]; done) | (have h5 := ZfM (f := f.toNat) (ZK d d.frames.length) (by omega) (by rw [show (f.toNat : Int) = f by omega]; exact e1.2); rw [if_pos e0, f1_2, ← h5, hul, show k = d.frames.length by omega]))))
end Go.Proofs.YtnpgmdffjemnbaaGreatDoor
set_option maxHeartbeats 8000000
set_option maxRecDepth 100000
namespace Go.Proofs.YtnpgmdffjemnbaaGreatDoor
open Go.RowKit

theorem Zms {J : World → Prop} (hJ : Stab J) (d : Db) (hw : ∀ i, i < d.frames.length → (ge d.frames i).wide.length * 32 ≤ 140737488351232) : Fn Tryz.prog J 32 [.agg (dbC d)] (.tup [.rd (ZF (if Yz d = 0 then Q6 (ZT (usL d d.frames.length)) d.frames.length else [])), .int (Yz d)]) := by
 refine Zx (N := 51) Tryz.func32 rfl rfl (lb rfl) fun S w0 hS hJ0 => ?_
 refine tw Yi ?_
 refine Za (rgo tb hJ [1000] [_, _, _] [0] [(_, .ptr (dbC d))] rfl rfl rfl rfl ⟨fun _ _ hk hx hl _ => Yv rfl (hl.env 0 0 _ rfl rfl) (Zr hS _ hk hx _ (Nat.le_refl _)) (jo hJ hx), trivial⟩ (nx (Za (Za (rgo tb hJ [0, 1002] [_, .int (Yz d), _] [1] [(_, _), (_, .int (Yz d))] rfl rfl rfl rfl ⟨hFo hS hJ (Zj4 hJ (d := d) (hw)) ZjV rfl rfl rfl rfl, trivial⟩ (nx (Za (rgo tb hJ [0, 1, 1001] [_, _] [] [(_, _), (_, _), (_, .bool (!decide (Yz d = (0 : Int))))] rfl rfl rfl rfl trivial (nx (tc 2 rfl rfl (fun hb1 => ?_) (fun hb1 => ?_)))))))))))
 have c9 : ¬ Yz d = 0 := ZaX hb1
 refine Za (rgo tb hJ [1001, 1002] [_, _, _] [] [(_, .lit (.slice none 0 0)), (_, .int (Yz d))] rfl rfl rfl rfl trivial (nx ?_))
 refine tw (fun h => Y8 h (m := 0) (s := 2) rfl) ?_
 refine Zi (fun a w h => YC (m := 0) (k := 1) rfl (Zl h) rfl rfl (congrArg (fun z => AV.rd (ZF z)) (show ([] : List (List Int)) = (if Yz d = 0 then Q6 (ZT (usL d d.frames.length)) d.frames.length else []) from by first | exact e0.symm | (rw [if_neg c9]; done) | (rw [if_pos e0, f1_2, show k = d.frames.length by omega]))) rfl)
 have e0 : Yz d = 0 := Zek hb1
 have c3 := XZ e0
 have hul := YA d d.frames.length
 have hdl := XV (usL d d.frames.length)
 refine Zd (nx (Za (rgo tb hJ [1001, 1002] [_, _, _] [1] [(_, .rd (ZG (ZT (usL d d.frames.length)))), (_, .rd (ZG (ZT (usL d d.frames.length))))] rfl rfl rfl rfl ⟨hFo hS hJ (Zmp hJ (d := d) (c3)) Zon rfl rfl rfl rfl, trivial⟩ (nx (Zf (fun a w h => Zj h 0 rfl) fun hl1 => Za (Zn (XM Z7 hJ rfl rfl rfl (lb rfl) fun v1 => ?_)))))))
 refine sv tb rfl rfl rfl rfl (Zy ?_)
 refine kw (lz [0, 3] (env' := [(_, _), (_, _)]) rfl) ?_
 refine nx (Za (Za (rgo tb hJ [0, 1, 1000] [_] [] [(_, _), (_, _), (_, .int (0 : Int))] rfl rfl rfl rfl trivial (nx (Ze (Zw (ι := Nat × Value × (List (List Int))) (fun (ii' : Nat × Value × (List (List Int))) a w => match ii' with | (k, vo, out) => ((k ≤ (ZT (usL d d.frames.length)).length) ∧ (out = Q6 (ZT (usL d d.frames.length)) k)) ∧ St All (SO S [OB.row vo 28 1 (out.map Z2)]) w0 51 [(5, .rd (ZG (ZT (usL d d.frames.length)))), (7, .int k), (6, .lit vo)] (XO J S w0.heap.size [OB.row vo 28 1 (out.map Z2)]) a w) (fun (ii' : Nat × Value × (List (List Int))) => match ii' with | (k, _, _) => ((ZT (usL d d.frames.length)).length - k : Nat)) ?_ ?_))))))
 intro a w h
 exact ⟨(0, v1, ([] : List (List Int))), (show (0 ≤ (ZT (usL d d.frames.length)).length) ∧ (([] : List (List Int)) = Q6 (ZT (usL d d.frames.length)) 0) from ⟨Nat.zero_le _, rfl⟩), lz [1, 2, 0] rfl h⟩
 rintro ⟨k, vo, out⟩
 refine ZD fun hF => ?_
 obtain ⟨f1_1, f1_2⟩ := hF
 refine Za (Za (rgo tb hJ [0, 1, 2, 1003] [_, _, .int (((ZT (usL d d.frames.length)).length : Nat) : Int), _] [2] [(_, _), (_, _), (_, _), (_, .bool (decide ((k : Int) < (((ZT (usL d d.frames.length)).length : Nat) : Int))))] rfl rfl rfl rfl ⟨Ys Yx rfl rfl rfl rfl, trivial⟩ (nx (tc 3 rfl rfl (fun hb2 => ?_) (fun hb2 => ?_)))))
 try simp at hb2
 have e3 := ZcG (usL d d.frames.length) _ (Zb (xs := (ZT (usL d d.frames.length))) (k := k) (by omega))
 have e4 := Zli (ds := (ZT (usL d d.frames.length))) (b := 400) (fun x hx => by have := ZcG (usL d d.frames.length) x hx; omega) k (by omega)
 rw [← f1_2] at e4
 refine Zd (nx (Za (Ze (Za (Ze (Zw (ι := Value × (List (List Int))) (fun (ii' : Value × (List (List Int))) a w => match ii' with | (vp, out2) => (ZaY out2 (ge (ZT (usL d d.frames.length)) k).toNat = (ZaY out (ge (ZT (usL d d.frames.length)) k).toNat)) ∧ St All (SO S [OB.row vp 28 1 (out2.map Z2)]) w0 51 [(5, .rd (ZG (ZT (usL d d.frames.length)))), (7, .int k), (6, .lit vp)] (XO J S w0.heap.size [OB.row vp 28 1 (out2.map Z2)]) a w) (fun (ii' : Value × (List (List Int))) => match ii' with | (_, out2) => ((ge (ZT (usL d d.frames.length)) k).toNat + 1 - out2.length : Nat)) ?_ ?_))))))
 intro a w h
 exact ⟨(vo, out), (show (ZaY out (ge (ZT (usL d d.frames.length)) k).toNat = (ZaY out (ge (ZT (usL d d.frames.length)) k).toNat)) from rfl), lz [0, 1, 2] rfl h⟩
 rintro ⟨vp, out2⟩
 refine ZD fun hF => ?_
 have f2_1 : ZaY out2 (ge (ZT (usL d d.frames.length)) k).toNat = (ZaY out (ge (ZT (usL d d.frames.length)) k).toNat) := hF
 refine Za (Za (rgr tb hJ [0, 1, 2, 1006] [_, .int out2.length, _, _, .ptr [.lit (.int .i64 (ge (ZT (usL d d.frames.length)) k))], _, _] [1, 4] [(_, _), (_, _), (_, _), (_, .bool (decide ((out2.length : Int) ≤ (ge (ZT (usL d d.frames.length)) k))))] rfl rfl rfl rfl ⟨fun _ _ _ hx hl _ => Yy Xw rfl (YM hS hx (mo 0 rfl) (hl.dep 0 22 _ rfl rfl rfl rfl)) hx, hIx Zo (by first | omega | (simp; omega) | grind [Zb]) rfl rfl rfl rfl rfl rfl, trivial⟩ (nx (tc 3 rfl rfl (fun hb3 => ?_) (fun hb3 => ?_)))))
 try simp at hb3
 refine Zd (nx (Ze (Zn (sv tb rfl rfl rfl rfl (sq (.rd (ZF ([([] : List Int)]))) rfl rfl (lb rfl) (fun _ _ h => ZV Z7 Zfr rfl (QL (Rel.of_lit (Go.Value.slice none 0 0))) (Zr hS _ h.keep h.x _ (Nat.le_refl _)) (jo hJ h.x)) (ZR (f := Z2) (m := 1) (s := 29) out2 ([([] : List Int)]) (fun _ => rfl) Zbd hJ hJ0 rfl rfl rfl (lb rfl) rfl rfl (fun a w h => (h.get 0 rfl)) (by first | (simp; omega) | omega) (by first | (simp; omega) | omega) fun v2 => ?_))))))
 refine sv tb rfl rfl rfl rfl (Zy ?_)
 refine kw (lz [0, 2, 4, 5] (env' := [(_, _), (_, _), (_, _), (_, _)]) rfl) ?_
 intro a w h; change ∃ j, _ ∧ _
 exact ⟨(v2, out2 ++ ([([] : List Int)])), ⟨(show (ZaY (out2 ++ ([([] : List Int)])) (ge (ZT (usL d d.frames.length)) k).toNat = (ZaY out (ge (ZT (usL d d.frames.length)) k).toNat)) from by rw [ZeY (by omega), f2_1]), lz [2, 3, 0] rfl h⟩, (show (ge (ZT (usL d d.frames.length)) k).toNat + 1 - (out2 ++ ([([] : List Int)])).length < (ge (ZT (usL d d.frames.length)) k).toNat + 1 - out2.length from by first | omega | (simp; omega))⟩
 try simp at hb3
 have e5 : out2 = (ZaY out (ge (ZT (usL d d.frames.length)) k).toNat) := by rw [← f2_1, ZeZ (by omega)]
 have e6 : ∀ l ∈ (ZaY out (ge (ZT (usL d d.frames.length)) k).toNat), l.length ≤ k := fun l hl => by (rcases ZbU hl with h' | h'); (exact ZgW _ _ _ (by rw [← f1_2]; exact h')); (rw [h']; exact Nat.zero_le _)
 have e7 := ZdT out (ge (ZT (usL d d.frames.length)) k).toNat
 rw [← e5] at e6 e7
 have e8 := e6 _ (Zb (xs := out2) (k := (ge (ZT (usL d d.frames.length)) k).toNat) (by omega))
 refine Zv (nx ?_)
 refine fun a w h => Xo (γ := Value × Value × Value) (fun ix' => ([.lit vp, .rd (ZG (ZT (usL d d.frames.length))), .int k, .ptr [.lit (.int .i64 (ge (ZT (usL d d.frames.length)) k))], .int (ge (ZT (usL d d.frames.length)) k), .any, .lit vp, .rd (ZG (ZT (usL d d.frames.length))), .int k, .ptr [.lit (.int .i64 (ge (ZT (usL d d.frames.length)) k))], .int (ge (ZT (usL d d.frames.length)) k), .lit (XI vp ((ge (ZT (usL d d.frames.length)) k).toNat * 1)), .rd (ZG (ge out2 ((ge (ZT (usL d d.frames.length)) k).toNat))), .any, .int k, .rd (ZG ([(k : Int)])), .any, .lit (XI vp ((ge (ZT (usL d d.frames.length)) k).toNat * 1)), .any] : List AV).getD ix' .any) (fun ix' => ([true, true, true, true, true, true, true, true, true, true, true, true, true, true, true, true, true, true, true] : List Bool).getD ix' true) [(5, fun (g : Value × Value × Value) => .rd (ZG (ZT (usL d d.frames.length)))), (7, fun (g : Value × Value × Value) => .int k), (6, fun (g : Value × Value × Value) => .lit vp)] (fun (j' : Nat) (g : Value × Value × Value) => match j' with | 0 => [OB.row vp 28 1 (out2.map Z2)] | 1 => [OB.row g.1 3 1 (([] : List Int).map Yq), OB.row vp 28 1 (out2.map Z2)] | 2 => [OB.row g.2.1 3 1 ((([] : List Int) ++ (ge out2 ((ge (ZT (usL d d.frames.length)) k).toNat))).map Yq), OB.row vp 28 1 (out2.map Z2)] | 3 => [OB.row g.2.2 3 1 (((([] : List Int) ++ (ge out2 ((ge (ZT (usL d d.frames.length)) k).toNat))) ++ ([(k : Int)])).map Yq), OB.row vp 28 1 (out2.map Z2)] | _ => [OB.row vp 28 1 ((out2.set ((ge (ZT (usL d d.frames.length)) k).toNat) ((([] : List Int) ++ (ge out2 ((ge (ZT (usL d d.frames.length)) k).toNat))) ++ ([(k : Int)]))).map Z2)]) (fun (k' : Nat) (g : Value × Value × Value) => match k' with | 0 => g.1 | 1 => g.2.1 | 2 => g.2.2 | 3 => undef | _ => undef) [5, 13, 16, 18] 3 ((.slice none 0 0), (.slice none 0 0), (.slice none 0 0)) (fun _ => rfl) h hJ Y0 rfl rfl rfl rfl rfl rfl (fun j' g hj p hp => by rcases j' with _ | _ | _ | _ | _ | j' <;> first | exact hp | exact List.mem_cons_of_mem _ hp | exact List.mem_cons_of_mem _ (List.mem_cons_of_mem _ hp) | (exfalso; omega)) ⟨?o11_1_0, ⟨?o11_1_1, ⟨?o11_1_2, ⟨?o11_1_3, ⟨?o11_1_4, ⟨?o11_1_5, ⟨?o11_1_6, ⟨?o11_1_7, ⟨?o11_1_8, ⟨?o11_1_9, ⟨?o11_1_10, ⟨?o11_1_11, ⟨?o11_1_12, ⟨?o11_1_13, ⟨?o11_1_14, ⟨?o11_1_15, ⟨?o11_1_16, ⟨?o11_1_17, ⟨?o11_1_18, trivial⟩⟩⟩⟩⟩⟩⟩⟩⟩⟩⟩⟩⟩⟩⟩⟩⟩⟩⟩ ⟨?e11_1_0, ⟨?e11_1_1, ⟨?e11_1_2, ⟨?e11_1_3, trivial⟩⟩⟩⟩ ⟨.old 0 5 _ rfl rfl, ⟨.old 1 7 _ rfl rfl, ⟨.old 2 6 _ rfl rfl, trivial⟩⟩⟩ ?n11_1
 case o11_1_0 => exact fun _ O' _ => ⟨rfl, fun _ _ _ hx hl _ => Yj rfl (hl.env 2 6 _ rfl rfl) hx⟩
 case o11_1_1 => exact fun _ O' _ => ⟨rfl, fun _ _ _ hx hl _ => Yj rfl (hl.env 0 5 _ rfl rfl) hx⟩
 case o11_1_2 => exact fun _ O' _ => ⟨rfl, fun _ _ _ hx hl _ => Yj rfl (hl.env 1 7 _ rfl rfl) hx⟩
 case o11_1_3 => exact fun _ O' _ => ⟨rfl, fun _ _ _ hx hl _ => ZI (i := (k : Int)) Zo rfl (hl.dep 1 33 _ rfl rfl rfl rfl) (hl.dep 2 34 _ rfl rfl rfl rfl) (Int.natCast_nonneg _) (ZL (xs := (ZT (usL d d.frames.length))) (k := k) (by first | omega | (simp; omega) | grind [Zb])) rfl hx⟩
 case o11_1_4 => exact fun _ O' _ => ⟨rfl, fun _ _ _ hx hl _ => Ya Zi9 rfl (hl.dep 3 35 _ rfl rfl rfl rfl) hx⟩
 case o11_1_5 => exact Zs rfl
 case o11_1_6 => exact fun _ O' _ => ⟨rfl, fun _ _ _ hx hl _ => Yj rfl (hl.env 2 6 _ rfl rfl) hx⟩
 case o11_1_7 => exact fun _ O' _ => ⟨rfl, fun _ _ _ hx hl _ => Yj rfl (hl.env 0 5 _ rfl rfl) hx⟩
 case o11_1_8 => exact fun _ O' _ => ⟨rfl, fun _ _ _ hx hl _ => Yj rfl (hl.env 1 7 _ rfl rfl) hx⟩
 case o11_1_9 => exact fun _ O' _ => ⟨rfl, fun _ _ _ hx hl _ => ZI (i := (k : Int)) Zo rfl (hl.dep 7 39 _ rfl rfl rfl rfl) (hl.dep 8 40 _ rfl rfl rfl rfl) (Int.natCast_nonneg _) (ZL (xs := (ZT (usL d d.frames.length))) (k := k) (by first | omega | (simp; omega) | grind [Zb])) rfl hx⟩
 case o11_1_10 => exact fun _ O' _ => ⟨rfl, fun _ _ _ hx hl _ => Ya Zi9 rfl (hl.dep 9 41 _ rfl rfl rfl rfl) hx⟩
 case o11_1_11 => exact fun _ O' hO' => ⟨rfl, fun _ _ _ hx hl _ => Yu (i := (ge (ZT (usL d d.frames.length)) k)) Z7 rfl (ZA hx (hO' _ (mo 0 rfl))) (hl.dep 6 38 _ rfl rfl rfl rfl) (hl.dep 10 42 _ rfl rfl rfl rfl) (by first | omega | (simp; omega) | grind [Zb]) (by rw [List.length_map]; exact (by first | omega | (simp; omega) | grind [Zb])) hx⟩
 case o11_1_12 => exact fun _ O' hO' => ⟨rfl, fun _ _ _ hx hl _ => XP (i := (ge (ZT (usL d d.frames.length)) k).toNat) ZmX rfl (ZA hx (hO' _ (mo 0 rfl))) (hl.dep 11 43 _ rfl rfl rfl rfl) (ZaS (xs := out2) (k := (ge (ZT (usL d d.frames.length)) k).toNat) (by first | omega | (simp; omega) | grind [Zb])) hx⟩
 case o11_1_13 => exact Zs rfl
 case o11_1_14 => exact fun _ O' _ => ⟨rfl, fun _ _ _ hx hl _ => Yj rfl (hl.env 1 7 _ rfl rfl) hx⟩
 case o11_1_15 => exact fun _ O' _ => ⟨rfl, fun _ _ hk hx hl _ => ZV Zo Xu rfl (hl.dep 14 46 _ rfl rfl rfl rfl) (Zr hS _ hk hx _ (Nat.le_refl _)) (jo hJ hx)⟩
 case o11_1_16 => exact Zs rfl
 case o11_1_17 => exact fun _ O' hO' => ⟨rfl, fun _ _ _ hx hl _ => Yu (i := (ge (ZT (usL d d.frames.length)) k)) Z7 rfl (ZA hx (hO' _ (mo 0 rfl))) (hl.dep 0 32 _ rfl rfl rfl rfl) (hl.dep 4 36 _ rfl rfl rfl rfl) (by first | omega | (simp; omega) | grind [Zb]) (by rw [List.length_map]; exact (by first | omega | (simp; omega) | grind [Zb])) hx⟩
 case o11_1_18 => exact Zs rfl
 case e11_1_0 => exact ⟨_, rfl, rfl, rfl, rfl, fun g _ w hk hx _ _ => ZJ (d_own0 Zo hJ rfl hk hx) fun v w' hp => ⟨(v, g.2.1, g.2.2), rfl, fun k' hk' => absurd hk' (Nat.not_lt_zero _), fun _ => rfl, hp⟩⟩
 case e11_1_1 => exact ⟨_, rfl, rfl, rfl, rfl, fun g _ w hk hx hl hs => ZJ (QR (f := Yq) ([] : List Int) (ge out2 ((ge (ZT (usL d d.frames.length)) k).toNat)) (fun _ => rfl) YU hJ hJ0 rfl hk hx (hs 0 5 _ 37 (by omega) rfl rfl rfl) (hl.dep 12 44 _ rfl rfl rfl rfl) (by first | (simp; omega) | omega) (by first | (simp; omega) | omega)) fun v w' hp => ⟨(g.1, v, g.2.2), rfl, fun k' hk' => by rcases k' with _ | _ | _ | k' <;> first | rfl | omega, fun _ => rfl, hp⟩⟩
 case e11_1_2 => exact ⟨_, rfl, rfl, rfl, rfl, fun g _ w hk hx hl hs => ZJ (QR (f := Yq) (([] : List Int) ++ (ge out2 ((ge (ZT (usL d d.frames.length)) k).toNat))) ([(k : Int)]) (fun _ => rfl) YU hJ hJ0 rfl hk hx (hs 1 13 _ 45 (by omega) rfl rfl rfl) (hl.dep 15 47 _ rfl rfl rfl rfl) (by first | (simp; omega) | omega) (by first | (simp; omega) | omega)) fun v w' hp => ⟨(g.1, g.2.1, v), rfl, fun k' hk' => by rcases k' with _ | _ | _ | k' <;> first | rfl | omega, fun _ => rfl, hp⟩⟩
 case e11_1_3 => exact ⟨_, rfl, rfl, rfl, rfl, fun g _ w hk hx hl hs => ZJ (Zf1 (f := Z2) (g := Yq) (i := (ge (ZT (usL d d.frames.length)) k).toNat) ((([] : List Int) ++ (ge out2 ((ge (ZT (usL d d.frames.length)) k).toNat))) ++ ([(k : Int)])) rfl hS hJ hJ0 Zcc rfl hk hx (hl.dep 17 49 _ rfl rfl rfl rfl) (hs 2 16 _ 48 (by omega) rfl rfl rfl) (by first | omega | (simp; omega) | grind [Zb])) fun v w' hp => ⟨g, rfl, fun _ _ => rfl, fun e => (by cases e), hp⟩⟩
 clear a w h
 rintro ⟨v3, v4, v5⟩
 change ∀ a w, St All (SO S [OB.row vp 28 1 ((out2.set ((ge (ZT (usL d d.frames.length)) k).toNat) ((([] : List Int) ++ (ge out2 ((ge (ZT (usL d d.frames.length)) k).toNat))) ++ ([(k : Int)]))).map Z2)]) w0 51 [(5, .rd (ZG (ZT (usL d d.frames.length)))), (7, .int k), (6, .lit vp)] (XO J S w0.heap.size [OB.row vp 28 1 ((out2.set ((ge (ZT (usL d d.frames.length)) k).toNat) ((([] : List Int) ++ (ge out2 ((ge (ZT (usL d d.frames.length)) k).toNat))) ++ ([(k : Int)]))).map Z2)]) a w → _
 refine nx (Zf (fun a w h => Zj h 0 rfl) fun hl2 => rgo tb hJ [0, 2, 1002] [_, .int ((k + 1 : Nat) : Int), _] [1] [(_, _), (_, _), (_, .int ((k + 1 : Nat) : Int))] rfl rfl rfl rfl ⟨Yc (by first | omega | (simp; omega) | grind [Zb]) rfl rfl rfl rfl rfl, trivial⟩ ?_)
 intro a w h; change ∃ j, _ ∧ _
 exact ⟨(k + 1, vp, out2.set ((ge (ZT (usL d d.frames.length)) k).toNat) ((([] : List Int) ++ (ge out2 ((ge (ZT (usL d d.frames.length)) k).toNat))) ++ ([(k : Int)]))), ⟨⟨(show (k + 1) ≤ (ZT (usL d d.frames.length)).length from by omega), (show (out2.set ((ge (ZT (usL d d.frames.length)) k).toNat) ((([] : List Int) ++ (ge out2 ((ge (ZT (usL d d.frames.length)) k).toNat))) ++ ([(k : Int)]))) = Q6 (ZT (usL d d.frames.length)) (k + 1) from by rw [Q6, levI, ← f1_2, ← e5]; simp)⟩, lz [0, 2, 1] rfl h⟩, (show (ZT (usL d d.frames.length)).length - (k + 1) < (ZT (usL d d.frames.length)).length - k from by first | omega | (simp; omega))⟩
 try simp at hb2
 refine Zv (nx (Za (rgo tb hJ [1001, 1002] [_, _, _] [] [(_, .lit vo), (_, .int (0 : Int))] rfl rfl rfl rfl trivial (nx ?_))))
 refine tw (fun h => ZO hS h (m := 0) (s := 2) rfl) ?_
 refine Zi (fun a w h => YC (m := 0) (k := 1) rfl (Zl h) rfl rfl (congrArg (fun z => AV.rd (ZF z)) (show out = (if Yz d = 0 then Q6 (ZT (usL d d.frames.length)) d.frames.length else []) from by first | exact e0.symm | (rw [if_neg c9]; done) | (rw [if_pos e0, f1_2, show k = d.frames.length by omega]))) (congrArg AV.int (show (0 : Int) = (Yz d) from by first | exact e0.symm | (rw [if_neg c9]; done) | (rw [if_pos e0, f1_2, show k = d.frames.length by omega]))))
end Go.Proofs.YtnpgmdffjemnbaaGreatDoor
set_option maxHeartbeats 8000000
set_option maxRecDepth 100000
namespace Go.Proofs.YtnpgmdffjemnbaaGreatDoor
open Go.RowKit
theorem Zoi : Zu Tryz.prog 64 := Zz Tryz.func64 rfl rfl
theorem Zoj : Zu Tryz.prog 63 := Zz Tryz.func63 rfl rfl
theorem Zow : Zu Tryz.prog 30 := Zz Tryz.func30 rfl rfl
theorem Zov : Zu Tryz.prog 31 := Zz Tryz.func31 rfl rfl
theorem Zou : Zu Tryz.prog 32 := Zz Tryz.func32 rfl rfl
theorem Zot : Zu Tryz.prog 33 := Zz Tryz.func33 rfl rfl
theorem ZeM {J : World → Prop} (hJ : Stab J) (xs : List (List Int)) (ys : List (List Int)) (f : FuncId) (caps : List AV) (Os : List OB) (hf : ∀ q' r', FnR Tryz.prog J f Os ([.rd (ZG q'), .rd (ZG r')] ++ caps) (.bool (decide (q' = r')))) (hk0 : Zu Tryz.prog f) : FnR Tryz.prog J 63 Os [.rd (ZF xs), .rd (ZF ys), .fn f caps] (.bool (decide (xs = ys))) := by
 refine Yp (N := 32) Tryz.func63 rfl rfl (lb rfl) fun S w0 hS hJ0 hH => ?_
 clear hJ0
 refine Zf (fun a w h => Zj h 0 rfl) fun hl1 => Zf (fun a w h => Zj h 1 rfl) fun hl2 => Za (rg tb hJ [0, 1, 2] [_] [] [(_, _), (_, _), (_, _)] rfl rfl rfl rfl trivial (nx (Za (Za (rg tb hJ [0, 1, 2, 1004] [_, .int xs.length, _, .int ys.length, _] [1, 3] [(_, _), (_, _), (_, _), (_, .bool (!decide ((xs.length : Int) = (ys.length : Int))))] rfl rfl rfl rfl ⟨Ys Xw rfl rfl rfl rfl, Ys Xw rfl rfl rfl rfl, trivial⟩ (nx (tc 3 rfl rfl (fun hb1 => ?_) (fun hb1 => ?_))))))))
 try simp at hb1
 refine Za (rg tb hJ [1000] [_] [] [(_, .bool false)] rfl rfl rfl rfl trivial (nx (Zi (fun a w h => Zh (m := 0) rfl h rfl (congrArg AV.bool (show false = (decide (xs = ys)) from by first | (have := X4 (xs := xs) (ys := ys) (by omega) (fun j hj => f1_2 j (by omega)); simp [this]; done) | (symm; rw [decide_eq_false_iff_not]; intro e; subst e; simp_all; done)))))))
 try simp at hb1
 refine Zd (nx (Za (Za (rg tb hJ [1, 2, 1000, 1001, 1002] [_, _, _] [1] [(_, _), (_, _), (_, .rd (ZF xs)), (_, .int xs.length), (_, .int (0 : Int))] rfl rfl rfl rfl ⟨Ys Xw rfl rfl rfl rfl, trivial⟩ (nx (Ze (Zw (ι := Nat) (fun (k : Nat) a w => ((k ≤ xs.length) ∧ (∀ j, j < k → ge xs j = ge ys j)) ∧ St All S w0 32 [(1, .rd (ZF ys)), (2, .fn f caps), (15, .rd (ZF xs)), (16, .int xs.length), (17, .int k)] J a w) (fun (k : Nat) => (xs.length - k : Nat)) ?_ ?_)))))))
 intro a w h
 exact ⟨0, (show (0 ≤ xs.length) ∧ (∀ j, j < 0 → ge xs j = ge ys j) from ⟨Nat.zero_le _, fun j hj => by omega⟩), lz [0, 1, 2, 3, 4] rfl h⟩
 rintro k
 refine ZD fun hF => ?_
 obtain ⟨f1_1, f1_2⟩ := hF
 refine Za (rg tb hJ [0, 1, 2, 3, 4, 1000] [_] [] [(_, _), (_, _), (_, _), (_, _), (_, _), (_, .bool (decide ((k : Int) < (xs.length : Int))))] rfl rfl rfl rfl trivial (nx (Za (tc 5 rfl rfl (fun hb2 => ?_) (fun hb2 => ?_)))))
 try simp at hb2
 refine Zd (nx (Za (Ze (Za (rg tb hJ [0, 1, 2, 3, 4, 1002, 1003, 1004] [_, .ptr [ZG (ge xs k)], _, _, _] [1] [(_, _), (_, _), (_, _), (_, _), (_, _), (_, .rd (ZG (ge xs k))), (_, .int k), (_, .rd (ZG (ge xs k)))] rfl rfl rfl rfl ⟨hIx Z7 (by first | omega | (simp; omega) | grind [Zb]) rfl rfl rfl rfl rfl rfl, trivial⟩ (nx (Zf (fun a w h => Zj h 5 rfl) fun hl3 => Za (rg tb hJ [0, 1, 2, 3, 4, 7, 1003, 1004] [_, _, .ptr [ZG (ge ys k)], _, _] [2] [(_, _), (_, _), (_, _), (_, _), (_, _), (_, _), (_, .rd (ZG (ge ys k))), (_, .rd (ZG (ge ys k)))] rfl rfl rfl rfl ⟨hIx Z7 (by first | omega | (simp; omega) | grind [Zb]) rfl rfl rfl rfl rfl rfl, trivial⟩ (nx (Zf (fun a w h => Zj h 6 rfl) fun hl4 => Za ?_))))))))))
 refine rg tb hJ [0, 1, 2, 3, 4, 1004] [_, _, _, .bool (decide ((ge xs k) = (ge ys k))), _] [3] [(_, _), (_, _), (_, _), (_, _), (_, _), (_, .bool (!(decide ((ge xs k) = (ge ys k)))))] rfl rfl rfl rfl ⟨fun _ _ hk hx hl _ => ZaF (hf (ge xs k) (ge ys k)) hk0 rfl (hl.dep 0 26 _ rfl rfl rfl rfl) (nm hS hk) (hx) (fun _ ho => YP hH hk ho) (Zc (hl.dep 1 27 _ rfl rfl rfl rfl) (Zc (hl.dep 2 28 _ rfl rfl rfl rfl) Zm)) (js hJ hx), trivial⟩ (nx (tc 5 rfl rfl (fun hb3 => ?_) (fun hb3 => ?_)))
 try simp at hb3
 refine Za (rg tb hJ [1000] [_] [] [(_, .bool false)] rfl rfl rfl rfl trivial (nx (Zi (fun a w h => Zh (m := 0) rfl h rfl (congrArg AV.bool (show false = (decide (xs = ys)) from by first | (have := X4 (xs := xs) (ys := ys) (by omega) (fun j hj => f1_2 j (by omega)); simp [this]; done) | (symm; rw [decide_eq_false_iff_not]; intro e; subst e; simp_all; done)))))))
 try simp at hb3
 refine Zd (nx (rg tb hJ [0, 1, 2, 3, 1001] [.int ((k + 1 : Nat) : Int), _] [0] [(_, _), (_, _), (_, _), (_, _), (_, .int ((k + 1 : Nat) : Int))] rfl rfl rfl rfl ⟨Yc (by first | omega | (simp; omega) | grind [Zb]) rfl rfl rfl rfl rfl, trivial⟩ ?_))
 intro a w h; change ∃ j, _ ∧ _
 exact ⟨k + 1, ⟨⟨(show (k + 1) ≤ xs.length from by omega), (show ∀ j, j < (k + 1) → ge xs j = ge ys j from ZW f1_2 (by simpa using hb3))⟩, lz [0, 1, 2, 3, 4] rfl h⟩, (show xs.length - (k + 1) < xs.length - k from by first | omega | (simp; omega))⟩
 try simp at hb2
 refine Zv (nx (Za (rg tb hJ [1000] [_] [] [(_, .bool true)] rfl rfl rfl rfl trivial (nx (Zi (fun a w h => Zh (m := 0) rfl h rfl (congrArg AV.bool (show true = (decide (xs = ys)) from by first | (have := X4 (xs := xs) (ys := ys) (by omega) (fun j hj => f1_2 j (by omega)); simp [this]; done) | (symm; rw [decide_eq_false_iff_not]; intro e; subst e; simp_all; done)))))))))
theorem Zkj {J : World → Prop} (hJ : Stab J) (xs : List Int) (ys : List Int)  : Fn Tryz.prog J 64 [.rd (ZG xs), .rd (ZG ys)] (.bool (decide (xs = ys))) := by
 refine Zx (N := 8) Tryz.func64 rfl rfl (lb rfl) fun S w0 hS hJ0 => ?_
 clear hJ0
 refine Zf (fun a w h => Zj h 0 rfl) fun hl1 => Zf (fun a w h => Zj h 1 rfl) fun hl2 => Za (rg tb hJ [0, 1] [_] [] [(_, _), (_, _)] rfl rfl rfl rfl trivial (nx (Za (rg tb hJ [1003] [_, _, .bool (decide (xs = ys)), _] [2] [(_, .bool (decide (xs = ys)))] rfl rfl rfl rfl ⟨hFn hS hJ (ZaW hJ (xs := xs) (ys := ys) ) ZcJ rfl rfl rfl rfl, trivial⟩ (nx (Zi (fun a w h => Zh (m := 0) rfl h rfl rfl)))))))
theorem Znb {J : World → Prop} (hJ : Stab J) (xs : List (List Int)) (ys : List (List Int))  : Fn Tryz.prog J 33 [.rd (ZF xs), .rd (ZF ys)] (.bool (decide (xs = ys))) := by
 refine Zx (N := 8) Tryz.func33 rfl rfl (lb rfl) fun S w0 hS hJ0 => ?_
 clear hJ0
 refine Zf (fun a w h => Zj h 0 rfl) fun hl1 => Zf (fun a w h => Zj h 1 rfl) fun hl2 => Za (rg tb hJ [0, 1] [_] [] [(_, _), (_, _)] rfl rfl rfl rfl trivial (nx (Za (rg tb hJ [1003] [_, _, .bool (decide (xs = ys)), _] [2] [(_, .bool (decide (xs = ys)))] rfl rfl rfl rfl ⟨fun _ _ hk hx hl _ => X1 (ZeM hJ (xs := xs) (ys := ys) (f := 64) (caps := []) (Os := []) (fun q' r' => (Zkj hJ q' r').r) (Zoi)) Zoj rfl (nm hS hk) (hx) ZP (Zc (hl.dep 0 5 _ rfl rfl rfl rfl) (Zc (hl.dep 1 6 _ rfl rfl rfl rfl) (Zc (QG 64) Zm))) (js hJ hx), trivial⟩ (nx (Zi (fun a w h => Zh (m := 0) rfl h rfl rfl)))))))
theorem ZhS {J : World → Prop} (hJ : Stab J) (d : Db) (f : Int) (t : Int) (hw : ∀ f ∈ d.frames, f.wide.length * 32 ≤ 140737488351232) (hG : X5 J) : Fn Tryz.prog J 6 [.agg (dbC d), .int f, .int t] (.bool true) := by
 refine Zx (N := 92) Tryz.func6 rfl rfl (lb rfl) fun S w0 hS hJ0 => ?_
 refine tw Yi ?_
 have hw2 : ∀ i, i < d.frames.length → (ge d.frames i).wide.length * 32 ≤ 140737488351232 := fun i hi => hw _ (Zb hi)
 refine Za (rgo tb hJ [1, 2, 1000] [_, _] [0] [(_, _), (_, _), (_, .ptr (dbC d))] rfl rfl rfl rfl ⟨fun _ _ hk hx hl _ => Yv rfl (hl.env 0 0 _ rfl rfl) (Zr hS _ hk hx _ (Nat.le_refl _)) (jo hJ hx), trivial⟩ (nx (Za (Za (rgo tb hJ [0, 1, 2, 1002] [_, .bool (fewD d), _] [1] [(_, _), (_, _), (_, _), (_, .bool (!(fewD d)))] rfl rfl rfl rfl ⟨hFo hS hJ (w_Few hJ (d := d) ) call_8 rfl rfl rfl rfl, trivial⟩ (nx (tc 3 rfl rfl (fun hb1 => ?_) (fun hb1 => ?_))))))))
 refine Za (rgo tb hJ [1001] [.bool true, _] [0] [(_, .bool true)] rfl rfl rfl rfl ⟨hFo hS hJ (Zio hJ  (by exact hG)) Zm2 rfl rfl rfl rfl, trivial⟩ (nx (Zi (fun a w h => Zh (m := 0) rfl (Zl h) rfl rfl))))
 refine Zd (nx (Za (rgo tb hJ [0, 1, 2, 1005, 1007, 1008] [_, _, _, .tup [.rd (ZG (if Z8 d f t = 0 then chL (usL d d.frames.length) f t else [])), .int (Z8 d f t)], _, _, _, _, _] [3] [(_, _), (_, _), (_, _), (_, .rd (ZG (if Z8 d f t = 0 then chL (usL d d.frames.length) f t else []))), (_, .rd (ZG (if Z8 d f t = 0 then chL (usL d d.frames.length) f t else []))), (_, .int (Z8 d f t))] rfl rfl rfl rfl ⟨hFo hS hJ (ZnB hJ (d := d) (f := f) (t := t) (by exact hw) (by exact hG)) Zox rfl rfl rfl rfl, trivial⟩ (nx (Zf (fun a w h => Zj h 3 rfl) fun hl1 => Za (rgo tb hJ [0, 1, 2, 4, 5, 1007, 1008] [_, _, _, .tup [.rd (ZG (if Z8 d f t = 0 then chL (usL d d.frames.length) f t else [])), .int (Z8 d f t)], _, _, _, _, _] [3] [(_, _), (_, _), (_, _), (_, _), (_, _), (_, .rd (ZG (if Z8 d f t = 0 then chL (usL d d.frames.length) f t else []))), (_, .int (Z8 d f t))] rfl rfl rfl rfl ⟨hFo hS hJ (Zj5 hJ (d := d) (f := f) (t := t) (by exact hw2)) ZjY rfl rfl rfl rfl, trivial⟩ (nx (Za (rgo tb hJ [0, 1, 2, 3, 4, 5, 6, 1005, 1007, 1008] [_, _, _, .tup [.rd (ZG (if Z8 d f t = 0 then Zau (usL d d.frames.length) f.toNat t.toNat else [])), .int (Z8 d f t)], _, _, _, _, _] [3] [(_, _), (_, _), (_, _), (_, _), (_, _), (_, _), (_, _), (_, .rd (ZG (if Z8 d f t = 0 then Zau (usL d d.frames.length) f.toNat t.toNat else []))), (_, .rd (ZG (if Z8 d f t = 0 then Zau (usL d d.frames.length) f.toNat t.toNat else []))), (_, .int (Z8 d f t))] rfl rfl rfl rfl ⟨hFo hS hJ (ZmU hJ (d := d) (f := f) (t := t) (by exact hw) (by exact hG)) ZjZ rfl rfl rfl rfl, trivial⟩ (nx (Zf (fun a w h => Zj h 7 rfl) fun hl2 => ?_)))))))))))
 refine Za (rgo tb hJ [2, 3, 4, 5, 6, 8, 9, 1007, 1008] [_, _, _, .tup [.rd (ZG (if Z8 d f t = 0 then Zau (usL d d.frames.length) f.toNat t.toNat else [])), .int (Z8 d f t)], _, _, _, _, _] [3] [(_, _), (_, _), (_, _), (_, _), (_, _), (_, _), (_, _), (_, .rd (ZG (if Z8 d f t = 0 then Zau (usL d d.frames.length) f.toNat t.toNat else []))), (_, .int (Z8 d f t))] rfl rfl rfl rfl ⟨hFo hS hJ (c_Must hJ (d := d) (f := f) (t := t) (by exact hw2)) Zow rfl rfl rfl rfl, trivial⟩ (nx (Za (rgo tb hJ [0, 1, 2, 3, 4, 5, 6, 7, 8, 1003, 1005, 1006] [_, .tup [.rd (ZF (if Yz d = 0 then Q6 (ZT (usL d d.frames.length)) d.frames.length else [])), .int (Yz d)], _, _, _, _, _] [1] [(_, _), (_, _), (_, _), (_, _), (_, _), (_, _), (_, _), (_, _), (_, _), (_, .rd (ZF (if Yz d = 0 then Q6 (ZT (usL d d.frames.length)) d.frames.length else []))), (_, .rd (ZF (if Yz d = 0 then Q6 (ZT (usL d d.frames.length)) d.frames.length else []))), (_, .int (Yz d))] rfl rfl rfl rfl ⟨hFo hS hJ (ZkZ hJ (d := d) (by exact hw) (by exact hG)) Zov rfl rfl rfl rfl, trivial⟩ (nx (Zf (fun a w h => Zj h 9 rfl) fun hl3 => Za (rgo tb hJ [1, 2, 3, 4, 5, 6, 7, 8, 10, 11, 1005, 1006] [_, .tup [.rd (ZF (if Yz d = 0 then Q6 (ZT (usL d d.frames.length)) d.frames.length else [])), .int (Yz d)], _, _, _, _, _] [1] [(_, _), (_, _), (_, _), (_, _), (_, _), (_, _), (_, _), (_, _), (_, _), (_, _), (_, .rd (ZF (if Yz d = 0 then Q6 (ZT (usL d d.frames.length)) d.frames.length else []))), (_, .int (Yz d))] rfl rfl rfl rfl ⟨hFo hS hJ (Zms hJ (d := d) (by exact hw2)) Zou rfl rfl rfl rfl, trivial⟩ (nx (Za (rgo tb hJ [1031] [_, _, .bool (decide ((if Z8 d f t = 0 then chL (usL d d.frames.length) f t else []) = (if Z8 d f t = 0 then chL (usL d d.frames.length) f t else []))), _, _, _, _, _, _, _, _, .bool (decide ((if Z8 d f t = 0 then Zau (usL d d.frames.length) f.toNat t.toNat else []) = (if Z8 d f t = 0 then Zau (usL d d.frames.length) f.toNat t.toNat else []))), _, _, _, _, _, _, _, _, _, .bool (decide ((if Yz d = 0 then Q6 (ZT (usL d d.frames.length)) d.frames.length else []) = (if Yz d = 0 then Q6 (ZT (usL d d.frames.length)) d.frames.length else []))), _, _, _, _, _, _, _, .bool true, _, _] [2, 11, 21, 29] [(_, .bool (((((((decide ((if Z8 d f t = 0 then chL (usL d d.frames.length) f t else []) = (if Z8 d f t = 0 then chL (usL d d.frames.length) f t else []))) && (decide (Z8 d f t = Z8 d f t))) && (decide ((if Z8 d f t = 0 then Zau (usL d d.frames.length) f.toNat t.toNat else []) = (if Z8 d f t = 0 then Zau (usL d d.frames.length) f.toNat t.toNat else [])))) && (decide (Z8 d f t = Z8 d f t))) && (decide ((if Yz d = 0 then Q6 (ZT (usL d d.frames.length)) d.frames.length else []) = (if Yz d = 0 then Q6 (ZT (usL d d.frames.length)) d.frames.length else [])))) && (decide (Yz d = Yz d))) && true))] rfl rfl rfl rfl ⟨hFo hS hJ (ZaW hJ (xs := (if Z8 d f t = 0 then chL (usL d d.frames.length) f t else [])) (ys := (if Z8 d f t = 0 then chL (usL d d.frames.length) f t else [])) ) ZcJ rfl rfl rfl rfl, fun _ _ hk hx hl hc => Qk (ZaW hJ (xs := (if Z8 d f t = 0 then Zau (usL d d.frames.length) f.toNat t.toNat else [])) (ys := (if Z8 d f t = 0 then Zau (usL d d.frames.length) f.toNat t.toNat else [])) ) ZcJ rfl (Zr hS _ hk hx) (hx.1) (Zc (hl.dep 9 70 _ rfl rfl rfl hc) (Zc (hl.dep 10 71 _ rfl rfl rfl hc) Zm)) (jo hJ hx), fun _ _ hk hx hl hc => Qk (Znb hJ (xs := (if Yz d = 0 then Q6 (ZT (usL d d.frames.length)) d.frames.length else [])) (ys := (if Yz d = 0 then Q6 (ZT (usL d d.frames.length)) d.frames.length else [])) ) Zot rfl (Zr hS _ hk hx) (hx.1) (Zc (hl.dep 19 80 _ rfl rfl rfl hc) (Zc (hl.dep 20 81 _ rfl rfl rfl hc) Zm)) (jo hJ hx), fun _ _ hk hx _ hc => Qk (Zio hJ  (by have hc' : (((((((decide ((if Z8 d f t = 0 then chL (usL d d.frames.length) f t else []) = (if Z8 d f t = 0 then chL (usL d d.frames.length) f t else []))) && (decide (Z8 d f t = Z8 d f t))) && (decide ((if Z8 d f t = 0 then Zau (usL d d.frames.length) f.toNat t.toNat else []) = (if Z8 d f t = 0 then Zau (usL d d.frames.length) f.toNat t.toNat else [])))) && (decide (Z8 d f t = Z8 d f t))) && (decide ((if Yz d = 0 then Q6 (ZT (usL d d.frames.length)) d.frames.length else []) = (if Yz d = 0 then Q6 (ZT (usL d d.frames.length)) d.frames.length else [])))) && (decide (Yz d = Yz d))) == true) = true := hc; (try simp at hc'); (exact hG))) Zm2 rfl (Zr hS _ hk hx) (hx.1) Zm (jo hJ hx), trivial⟩ (nx ?_)))))))))))
 refine Zi (fun a w h => Zh (m := 0) rfl (Zl h) rfl (congrArg AV.bool (show (((((((decide ((if Z8 d f t = 0 then chL (usL d d.frames.length) f t else []) = (if Z8 d f t = 0 then chL (usL d d.frames.length) f t else []))) && (decide (Z8 d f t = Z8 d f t))) && (decide ((if Z8 d f t = 0 then Zau (usL d d.frames.length) f.toNat t.toNat else []) = (if Z8 d f t = 0 then Zau (usL d d.frames.length) f.toNat t.toNat else [])))) && (decide (Z8 d f t = Z8 d f t))) && (decide ((if Yz d = 0 then Q6 (ZT (usL d d.frames.length)) d.frames.length else []) = (if Yz d = 0 then Q6 (ZT (usL d d.frames.length)) d.frames.length else [])))) && (decide (Yz d = Yz d))) && true) = true from by simp)))
end Go.Proofs.YtnpgmdffjemnbaaGreatDoor
