/-
  DERIVED: THE SHELF's CONTRACTS AT THIS DUMP, IN PLAIN WORDS (tools/lay-plain.mjs out of 'TryzShelf.lean', which tools/lay-shelf.mjs wrote): THE SAME DECLARATIONS UNDER THE SAME NAMES: 'import', 'namespace', 'open', 'def', 'theorem' AND NOTHING ELSE: no command of the shelf's: FOR A HAND-IN. Each laying: the table of numbers ('.._ren') and one theorem, a field a fact of the dump's own or the kernel's comparison; each contract: ONE APPLICATION.
  CHAINS OF USES: the shortest, of several ones the least; a search that meets the assertions in the order of their least chains.
  CONTRACTS of the program: a least chain.
  THE ENGINE: bytes as numbers, remainders, truth values compared.
  CHAINS, CUT AND JOINED: a least one there is; what must be on every chain is on it, and parts it in two least ones.
  THE LAW DependMust returns true.
-/
import Derived.Shelf.Small.Utf8
import Derived.Shelf.Small.Bits
import Derived.Shelf.Small.Strs
import Derived.Shelf.Strconv.Itoa0
import Derived.Shelf.Strings.Search1
import Derived.Shelf.Sort.Plain
import Derived.Shelf.GgClosure.StringsIndexFunc
import Derived.Ground.GgwProg
import Derived.Shelf.GgClosure.StringsIndexFuncTop
import Derived.Shelf.GgClosure.StringsRunes
import Derived.Shelf.Strings.Prefix
import Derived.Shelf.Strings.Runes
import Derived.Shelf.Strings.FuncGrows
import Derived.Shelf.Slices.Turned
import Derived.Shelf.Slices.Reverse
import Derived.Shelf.Slices.Equal
import Derived.Ground.Names2Prog
import Derived.Shelf.Slices.Clone
import Derived.Shelf.Slices.SearchI
import Derived.Shelf.Slices.Cells
import Derived.Shelf.Slices.In.SortNone
import Derived.Shelf.Slices.Empties2
import Derived.Ground.SlgnProg
import Derived.Shelf.SlicesE.Clone
import Derived.Test.YtnpgmdffjemnbaaGreatDoorProg
import Derived.Test.YtnpgmdffjemnbaaGreatDoorJU
import Derived.Test.YtnpgmdffjemnbaaGreatDoorJV
import Derived.Test.YtnpgmdffjemnbaaGreatDoorJP
namespace Go.Proofs
open Go.Shelf
def Tryz.lays112_ren : Go.Shelf.Ren := ⟨fun | 112 => 55 | n => n, fun | 28 => 28 | 3 => 3 | 4 => 4 | 0 => 0 | n => n, fun | n => n⟩
theorem Tryz.lays112 : Go.Proofs.Lays.n112 Tryz.prog Tryz.lays112_ren := {
  mixed := by kernel_rfl
  f112 := Tryz.func55.trans (congrArg some (by kernel_rfl))
  t0 := Tryz.underlying0
  a0 := Tryz.isAgg0
  z0 := Tryz.sizeOf0
  v0 := Tryz.zeroValue0
  t3 := Tryz.underlying3
  a3 := Tryz.isAgg3
  z3 := Tryz.sizeOf3
  v3 := Tryz.zeroValue3
  t4 := Tryz.underlying4
  a4 := Tryz.isAgg4
  z4 := Tryz.sizeOf4
  v4 := Tryz.zeroValue4
  t28 := Tryz.underlying28
  a28 := Tryz.isAgg28
  z28 := Tryz.sizeOf28
  v28 := Tryz.zeroValue28 }
open Go.RowKit Go.Lib Go.Sort in
/-- slices.Reverse at []int, of an argument: the n cells hold the elements in reverse. (LAID: no walk: one application.) -/
theorem Tryz.slices_Reverse_int_cells (b off n c : Nat) (zs : List Int) (w : World) (hz : n ≤ zs.length) (hbig : n ≤ 9223372036854775807) (hc : ∀ j, j < zs.length → w.cell? ⟨b, off + j, none⟩ = some (.int .i64 (zs.getD j 0))) (hf : ∀ j, j < n → w.frozen? ⟨b, off + j, none⟩ = false) :
    Calls Tryz.prog 55 #[.slice (some ⟨b, off, none⟩) n c] w fun e w' => e = .returned (.tuple #[]) ∧ ∃ q, w' = (w.drewN q).setCells b off ((zs.take n).reverse.map (Value.int .i64)) := Any.slices_Reverse_int_cells Tryz.lays112 b off n c zs w hz hbig hc hf
end Go.Proofs
namespace Go.Proofs.YtnpgmdffjemnbaaGreatDoor

/-- A chain from f to t. -/
inductive IsCh (us : List (List Int)) (f : Int) : Int → List Int → Prop where
  | one : IsCh us f f [f]
  | snoc (b c : Int) (l : List Int) (h : IsCh us f b l) (hc : c ∈ ge us b.toNat) : IsCh us f c (l ++ [c])
/-- Shorter, or as long and less. -/
def LL (a b : List Int) : Prop := a.length < b.length ∨ (a.length = b.length ∧ a < b)
theorem lt_snoc : ∀ {a b : List Int} {x y : Int}, a.length = b.length → (a < b ∨ (a = b ∧ x < y)) → a ++ [x] < b ++ [y]
  | [], [], x, y, _, h => by
    rcases h with h | ⟨_, h⟩
    · exact absurd h (by simp)
    · simpa [List.cons_lt_cons_iff] using h
  | p :: a, q :: b, x, y, hl, h => by
    simp only [List.cons_append, List.cons_lt_cons_iff]
    have hl' : a.length = b.length := by simpa using hl
    rcases h with h | ⟨h, hxy⟩
    · rw [List.cons_lt_cons_iff] at h
      rcases h with h | ⟨h, h2⟩
      · exact .inl h
      · exact .inr ⟨h, lt_snoc hl' (.inl h2)⟩
    · injection h with h1 h2
      exact .inr ⟨h1, lt_snoc hl' (.inr ⟨h2, hxy⟩)⟩
theorem LL.snoc {a b : List Int} (h : LL a b) (x y : Int) : LL (a ++ [x]) (b ++ [y]) := by
  rcases h with h | ⟨h1, h2⟩
  · exact .inl (by simpa using h)
  · exact .inr ⟨by simpa using h1, lt_snoc h1 (.inl h2)⟩
theorem LL.snoc_same {a : List Int} {x y : Int} (h : x < y) : LL (a ++ [x]) (a ++ [y]) := .inr ⟨by simp, lt_snoc rfl (.inr ⟨rfl, h⟩)⟩
theorem LL.irr {a : List Int} (h : LL a a) : False := by
  rcases h with h | ⟨_, h⟩
  · omega
  · exact List.lt_irrefl a h
theorem LL.trans {a b c : List Int} (h : LL a b) (k : LL b c) : LL a c := by
  rcases h with h | ⟨h1, h2⟩ <;> rcases k with k | ⟨k1, k2⟩
  · exact .inl (by omega)
  · exact .inl (by omega)
  · exact .inl (by omega)
  · exact .inr ⟨by omega, List.lt_trans h2 k2⟩
theorem LL.le {a b : List Int} (h : LL a b) : a.length ≤ b.length := by
  rcases h with h | ⟨h, _⟩ <;> omega
/-- The least chain. -/
def IsLeast (us : List (List Int)) (f t : Int) (l : List Int) : Prop := IsCh us f t l ∧ ∀ l', IsCh us f t l' → l' = l ∨ LL l l'
theorem IsLeast.uniq {us : List (List Int)} {f t : Int} {a b : List Int} (ha : IsLeast us f t a) (hb : IsLeast us f t b) : a = b := by
  rcases ha.2 b hb.1 with h | h
  · exact h.symm
  · rcases hb.2 a ha.1 with k | k
    · exact k
    · exact (LL.irr (h.trans k)).elim
section
variable {us : List (List Int)} {f t : Int}
theorem IsCh.rch {l : List Int} (h : IsCh us f t l) : Rch us f t := by
  induction h with
  | one => exact .refl _
  | snoc b c l _ hc ih => exact ih.trans (.one hc)
theorem IsCh.pos {l : List Int} (h : IsCh us f t l) : 1 ≤ l.length := by
  cases h with
  | one => exact Nat.le_refl _
  | snoc => simp
theorem least_self : IsLeast us f f [f] := by
  refine ⟨.one, fun l' h => ?_⟩
  cases h with
  | one => exact .inl rfl
  | snoc b c l h hc => exact .inr (.inl (by have := h.pos; simp; omega))
/-- A chain that leaves what is met. -/
theorem IsCh.leaves {K : List Int} {l : List Int} (h : IsCh us f t l) (hf : f ∈ K) (ht : t ∉ K) : ∃ w x l0, IsCh us f w l0 ∧ w ∈ K ∧ x ∈ ge us w.toNat ∧ x ∉ K ∧ l0.length < l.length := by
  induction h with
  | one => exact absurd hf ht
  | snoc b c l h hc ih =>
    by_cases hb : b ∈ K
    · exact ⟨b, c, l, h, hb, hc, ht, by simp⟩
    · obtain ⟨w, x, l0, h1, h2, h3, h4, h5⟩ := ih hb
      exact ⟨w, x, l0, h1, h2, h3, h4, by simp; omega⟩
/-- The way back by what each one was met from. -/
inductive Pth (L : List (Int × Int)) (f : Int) : Int → List Int → Prop where
  | one : Pth L f f [f]
  | snoc (v u : Int) (l : List Int) (hv : v ≠ f) (hm : mget L v = some u) (h : Pth L f u l) : Pth L f v (l ++ [v])
theorem Pth.uniq {L : List (Int × Int)} {v : Int} {a : List Int} (h : Pth L f v a) : ∀ {b}, Pth L f v b → a = b := by
  induction h with
  | one =>
    intro b k
    cases k with
    | one => rfl
    | snoc v u l hv => exact absurd rfl hv
  | snoc v u l hv hm _ ih =>
    intro b k
    cases k with
    | one => exact absurd rfl hv
    | snoc v u' l' hv' hm' h' =>
      rw [hm] at hm'
      cases hm'
      rw [ih h']
theorem Pth.put {L : List (Int × Int)} {v k i : Int} {l : List Int} (h : Pth L f v l) (hk : mget L k = none) : Pth (mput L k i) f v l := by
  induction h with
  | one => exact .one
  | snoc v u l hv hm _ ih =>
    refine .snoc v u l hv ?_ ih
    rw [mget_put, if_neg (fun e => by rw [e, hk] at hm; cases hm)]
    exact hm
theorem Pth.pos {L : List (Int × Int)} {v : Int} {l : List Int} (h : Pth L f v l) : 1 ≤ l.length := by
  cases h <;> simp

/-- The search, in the midst of i: E has been looked at, of i's uses the first j. -/
structure BfI (us : List (List Int)) (f : Int) (L : List (Int × Int)) (E : List Int) (i : Int) (q : List Int) (j : Nat) : Prop where
  keys : L.map (·.1) = E ++ i :: q
  first : f ∈ E ++ i :: q
  nod : (E ++ i :: q).Nodup
  pth : ∀ v ∈ E ++ i :: q, ∃ l, Pth L f v l ∧ IsLeast us f v l
  ord : (E ++ i :: q).Pairwise fun u v => ∀ a b, IsLeast us f u a → IsLeast us f v b → LL a b
  clo : ∀ u ∈ E, ∀ x ∈ ge us u.toNat, x ∈ E ++ i :: q
  cloi : ∀ x ∈ (ge us i.toNat).take j, x ∈ E ++ i :: q
  par : ∀ v ∈ E ++ i :: q, v ≠ f → ∃ u, mget L v = some u ∧ v ∈ ge us u.toNat ∧ (u ∈ E ∨ (u = i ∧ v ∈ (ge us i.toNat).take j))
variable {L : List (Int × Int)} {E q : List Int} {i k : Int} {j : Nat}
theorem BfI.start (us : List (List Int)) (f : Int) : BfI us f [(f, f)] [] f [] 0 where
  keys := rfl
  first := by simp
  nod := by simp
  pth := fun v hv => by obtain rfl : v = f := by simpa using hv
                        exact ⟨_, .one, least_self⟩
  ord := by simp
  clo := fun u hu => by cases hu
  cloi := fun x hx => by simp at hx
  par := fun v hv hn => absurd (by simpa using hv) hn
theorem BfI.met (h : BfI us f L E i q j) (v : Int) : (mget L v).isSome = decide (v ∈ E ++ i :: q) := by rw [mget_isSome, h.keys]
theorem BfI.skip (h : BfI us f L E i q j) (hj : j < (ge us i.toNat).length) (hm : (mget L (ge (ge us i.toNat) j)).isSome = true) : BfI us f L E i q (j + 1) :=
  { h with
    cloi := fun x hx => by
      rw [take_ge hj] at hx
      rcases List.mem_append.1 hx with hx | hx
      · exact h.cloi x hx
      · rw [List.mem_singleton.1 hx]; rw [h.met] at hm; exact of_decide_eq_true hm
    par := fun v hv hn => by
      obtain ⟨u, h1, h2, h3⟩ := h.par v hv hn
      refine ⟨u, h1, h2, h3.imp id fun ⟨e, k⟩ => ⟨e, ?_⟩⟩
      rw [take_ge hj]; exact List.mem_append_left _ k }
theorem BfI.add (ha : ∀ n, (ge us n).Pairwise (· < ·)) (h : BfI us f L E i q j) (hj : j < (ge us i.toNat).length) (hm : (mget L (ge (ge us i.toNat) j)).isSome = false) : BfI us f (mput L (ge (ge us i.toNat) j) i) E i (q ++ [ge (ge us i.toNat) j]) (j + 1) := by
  generalize hk : ge (ge us i.toNat) j = k at *
  have hku : k ∈ ge us i.toNat := hk ▸ ge_mem hj
  have hnone : mget L k = none := by simpa using hm
  rw [h.met] at hm
  have hnew : k ∉ E ++ i :: q := of_decide_eq_false hm
  have hkeys : E ++ i :: (q ++ [k]) = (E ++ i :: q) ++ [k] := by simp
  have hsub : ∀ {x}, x ∈ E ++ i :: q → x ∈ E ++ i :: (q ++ [k]) := fun hx => by rw [hkeys]; exact List.mem_append_left _ hx
  have hik : i ∈ E ++ i :: q := by simp
  have hkf : k ≠ f := fun e => hnew (e ▸ h.first)
  obtain ⟨pi, hpi, hli⟩ := h.pth i hik
  -- i stands ahead of all that wait
  have hq : ∀ u ∈ q, ∀ b, IsLeast us f u b → LL pi b := fun u hu b hb => by
    have h1 := (List.pairwise_append.1 h.ord).2.1
    exact (List.pairwise_cons.1 h1).1 u hu pi b hli hb
  have hE : ∀ u ∈ E, ∀ b, IsLeast us f u b → LL b pi := fun u hu b hb => (List.pairwise_append.1 h.ord).2.2 u hu i (List.mem_cons_self ..) b pi hb hli
  have hlk : IsLeast us f k (pi ++ [k]) := by
    refine ⟨.snoc i k pi hli.1 hku, fun l' hl' => ?_⟩
    cases hl' with
    | one => exact absurd rfl hkf
    | snoc u _ l hu hc =>
      by_cases hin : u ∈ E ++ i :: q
      · rcases List.mem_append.1 hin with hin | hin
        · exact absurd (h.clo u hin k hc) hnew
        · rcases List.mem_cons.1 hin with rfl | hin
          · rcases hli.2 l hu with e | e
            · exact .inl (by rw [e])
            · exact .inr (e.snoc _ _)
          · obtain ⟨pu, _, hlu⟩ := h.pth u (by simp [hin])
            have h1 := hq u hin pu hlu
            rcases hlu.2 l hu with e | e
            · exact .inr ((e ▸ h1).snoc _ _)
            · exact .inr ((h1.trans e).snoc _ _)
      · obtain ⟨w, x, l0, h1, h2, h3, h4, h5⟩ := hu.leaves h.first hin
        obtain ⟨pw, _, hlw⟩ := h.pth w h2
        have hle : pi.length ≤ pw.length := by
          rcases List.mem_append.1 h2 with h2 | h2
          · exact absurd (h.clo w h2 x h3) h4
          · rcases List.mem_cons.1 h2 with rfl | h2
            · rw [hlw.uniq hli]; exact Nat.le_refl _
            · exact (hq w h2 pw hlw).le
        have hle2 : pw.length ≤ l0.length := by
          rcases hlw.2 l0 h1 with e | e
          · rw [e]; exact Nat.le_refl _
          · exact e.le
        exact .inr (.inl (by simp; omega))
  refine ⟨?_, hsub h.first, ?_, ?_, ?_, fun u hu x hx => hsub (h.clo u hu x hx), ?_, ?_⟩
  · rw [mput_keys, h.keys, if_neg hnew, hkeys]
  · rw [hkeys]
    exact List.nodup_append.2 ⟨h.nod, by simp, fun a ha' b hb e => hnew (by rw [← List.mem_singleton.1 hb, ← e]; exact ha')⟩
  · intro v hv
    rw [hkeys] at hv
    rcases List.mem_append.1 hv with hv | hv
    · obtain ⟨l, h1, h2⟩ := h.pth v hv
      exact ⟨l, h1.put hnone, h2⟩
    · rw [List.mem_singleton.1 hv]
      exact ⟨_, .snoc k i pi hkf (by rw [mget_put, if_pos rfl]) (hpi.put hnone), hlk⟩
  · rw [hkeys, List.pairwise_append]
    refine ⟨h.ord, by simp, fun v hv b hb => ?_⟩
    rw [List.mem_singleton.1 hb]
    intro a c hla hlc
    rw [hlc.uniq hlk]
    by_cases hvf : v = f
    · subst hvf
      rw [hla.uniq least_self]
      exact .inl (by have := hpi.pos; simp; omega)
    · obtain ⟨u, h1, h2, h3⟩ := h.par v hv hvf
      obtain ⟨pv, hpv, hlv⟩ := h.pth v hv
      rw [hla.uniq hlv]
      cases hpv with
      | one => exact absurd rfl hvf
      | snoc _ u' pu _ hm' hpu =>
        rw [h1] at hm'
        cases hm'
        rcases h3 with h3 | ⟨rfl, h3⟩
        · obtain ⟨pu', hpu', hlu'⟩ := h.pth u (List.mem_append_left _ h3)
          rw [hpu.uniq hpu']
          exact (hE u h3 pu' hlu').snoc _ _
        · rw [hpu.uniq hpi]
          refine LL.snoc_same ?_
          obtain ⟨j', hj', e⟩ := mem_ge h3
          rw [List.length_take] at hj'
          have h4 := List.pairwise_iff_getElem.1 (ha u.toNat) j' j (by omega) hj (by omega)
          rw [← hk, ← e, ge_eq hj, ge, List.getD_eq_getElem?_getD, List.getElem?_take, if_pos (by omega), List.getElem?_eq_getElem (by omega)]
          exact h4
  · intro x hx
    rw [take_ge hj, hk] at hx
    rcases List.mem_append.1 hx with hx | hx
    · exact hsub (h.cloi x hx)
    · rw [List.mem_singleton.1 hx]; simp
  · intro v hv hn
    rw [hkeys] at hv
    rcases List.mem_append.1 hv with hv | hv
    · obtain ⟨u, h1, h2, h3⟩ := h.par v hv hn
      refine ⟨u, ?_, h2, h3.imp id fun ⟨e, g⟩ => ⟨e, by rw [take_ge hj]; exact List.mem_append_left _ g⟩⟩
      rw [mget_put, if_neg fun e : v = k => hnew (e ▸ hv)]
      exact h1
    · rw [List.mem_singleton.1 hv]
      exact ⟨i, by rw [mget_put, if_pos rfl], hku, .inr ⟨rfl, by rw [take_ge hj, hk]; simp⟩⟩
/-- The search between two of them. -/
structure Bf (us : List (List Int)) (f t : Int) (L : List (Int × Int)) (q : List Int) : Prop where
  more : ∀ i r, q = i :: r → ∃ E, BfI us f L E i r 0
  empty : q = [] → ∃ E i, BfI us f L E i [] (ge us i.toNat).length
theorem Bf.start (us : List (List Int)) (f t : Int) : Bf us f t [(f, f)] [f] :=
  ⟨fun i r e => by cases e; exact ⟨[], BfI.start us _⟩, fun e => by cases e⟩
theorem BfI.done (h : BfI us f L E i q j) (hj : (ge us i.toNat).length ≤ j) : Bf us f t L q := by
  have htk : (ge us i.toNat).take j = ge us i.toNat := List.take_of_length_le hj
  have hcl := h.cloi
  have hpar := h.par
  rw [htk] at hcl hpar
  constructor
  · rintro i2 r rfl
    have e : E ++ i :: i2 :: r = (E ++ [i]) ++ i2 :: r := by simp
    refine ⟨E ++ [i], e ▸ h.keys, e ▸ h.first, e ▸ h.nod, e ▸ h.pth, e ▸ h.ord, fun u hu x hx => ?_, fun x hx => by simp at hx, fun v hv hn => ?_⟩
    · rw [← e]
      rcases List.mem_append.1 hu with hu | hu
      · exact h.clo u hu x hx
      · rw [List.mem_singleton.1 hu] at hx; exact hcl x hx
    · rw [← e] at hv
      obtain ⟨u, h1, h2, h3⟩ := hpar v hv hn
      refine ⟨u, h1, h2, .inl ?_⟩
      rcases h3 with h3 | ⟨rfl, _⟩
      · exact List.mem_append_left _ h3
      · simp
  · rintro rfl
    exact ⟨E, i, { h with cloi := by rw [List.take_length]; exact hcl, par := by rw [List.take_length]; exact hpar }⟩
/-- Nobody waits: what is reached is met. -/
theorem Bf.closed (h : Bf us f t L []) {x : Int} (hr : Rch us f x) : (mget L x).isSome = true := by
  obtain ⟨E, i, hb⟩ := h.empty rfl
  rw [hb.met]
  have key : ∀ {a b : Int}, Rch us a b → a ∈ E ++ [i] → b ∈ E ++ [i] := fun {a b} h => by
    induction h with
    | refl => exact id
    | step a x y hx _ ih =>
      intro ha
      refine ih ?_
      rcases List.mem_append.1 ha with ha | ha
      · exact hb.clo a ha x hx
      · rw [List.mem_singleton.1 ha] at hx
        exact hb.cloi x (by rw [List.take_length]; exact hx)
  exact decide_eq_true (key hr hb.first)
theorem Bf.empty_chain (h : Bf us f t L []) (hm : (mget L t).isSome = true) : ∃ l, Pth L f t l ∧ IsLeast us f t l := by
  obtain ⟨E, i, hb⟩ := h.empty rfl
  rw [hb.met] at hm
  exact hb.pth t (of_decide_eq_true hm)
theorem BfI.chain (h : BfI us f L E i q j) : ∃ l, Pth L f i l ∧ IsLeast us f i l := h.pth i (by simp)
theorem BfI.here (h : BfI us f L E i q j) : (mget L i).isSome = true := by rw [h.met]; simp
theorem BfI.size (h : BfI us f L E i q j) {n : Nat} (hb : ∀ v ∈ E ++ i :: q, 0 ≤ v ∧ v < n) : (E ++ i :: q).length ≤ n := by
  have hsub : E ++ i :: q ⊆ (List.range n).map fun (p : Nat) => (p : Int) := fun v hv => by
    have := hb v hv
    exact List.mem_map.2 ⟨v.toNat, List.mem_range.2 (by omega), by omega⟩
  have := h.nod.length_le_of_subset hsub
  simpa using this
theorem BfI.range (hd : DownL us) (h : BfI us f L E i q j) (hf : 0 ≤ f) : ∀ v ∈ E ++ i :: q, 0 ≤ v ∧ v ≤ f := fun v hv => by
  obtain ⟨l, _, hl⟩ := h.pth v hv
  exact hl.1.rch.le hd hf
end
open Classical in
/-- The least chain, where there is one. -/
noncomputable def chL (us : List (List Int)) (f t : Int) : List Int := if h : ∃ l, IsLeast us f t l then Classical.choose h else []
theorem chL_eq {us : List (List Int)} {f t : Int} {l : List Int} (h : IsLeast us f t l) : chL us f t = l := by
  have hx : ∃ l, IsLeast us f t l := ⟨l, h⟩
  unfold chL
  rw [dif_pos hx]
  exact (Classical.choose_spec hx).uniq h
theorem usL_asc (d : Db) (m : Nat) : ∀ n, (ge (usL d m) n).Pairwise (· < ·) := fun n => by
  rcases Nat.lt_or_ge n m with h | h
  · rw [usL_at h, usesD]
    split
    · exact usesK_asc _ _ _
    · exact .nil
  · rw [usL_high h]; exact .nil
section
variable {us : List (List Int)} {f t : Int} {L : List (Int × Int)} {E q : List Int} {i : Int} {j : Nat}
theorem Pth.step {z : Int} {l : List Int} (h : Pth L f z l) (hn : z ≠ f) : ∃ u l', mget L z = some u ∧ Pth L f u l' ∧ l = l' ++ [z] := by
  cases h with
  | one => exact absurd rfl hn
  | snoc v u l hv hm h => exact ⟨u, l, hm, h, rfl⟩
theorem Pth.last {z : Int} {l : List Int} (h : Pth L f z l) : l.reverse = z :: l.reverse.tail := by
  cases h with
  | one => rfl
  | snoc v u l hv hm h => simp
theorem Pth.end {l : List Int} (h : Pth L f f l) : l = [f] := by
  cases h with
  | one => rfl
  | snoc v u l hv => exact absurd rfl hv
theorem IsCh.len (hd : DownL us) {l : List Int} (h : IsCh us f t l) (hf : 0 ≤ f) : l.length + t ≤ f + 1 ∧ 0 ≤ t := by
  induction h with
  | one => exact ⟨by simp; omega, hf⟩
  | snoc b c l h hc ih =>
    have := hd _ c hc
    simp only [List.length_append, List.length_singleton]
    omega
theorem BfI.small (hd : DownL us) (h : BfI us f L E i q j) (hf : 0 ≤ f) : E.length + 1 + q.length ≤ f.toNat + 1 := by
  have h1 := h.size (n := f.toNat + 1) fun v hv => by have := h.range hd hf v hv; omega
  simpa [Nat.add_assoc, Nat.add_comm, Nat.add_left_comm] using h1
theorem BfI.count (h : BfI us f L E i q j) : L.length = E.length + 1 + q.length := by
  have := congrArg List.length h.keys
  simp at this
  omega
/-- What the search found. -/
def Found (us : List (List Int)) (f t : Int) (L : List (Int × Int)) : Prop := ((mget L t).isSome = true ∧ ∃ l, Pth L f t l ∧ IsLeast us f t l) ∨ ((mget L t).isSome = false ∧ ¬ Rch us f t)
theorem Bf.found (h : Bf us f t L []) : Found us f t L := by
  cases hm : (mget L t).isSome with
  | true => exact .inl ⟨hm, h.empty_chain hm⟩
  | false => exact .inr ⟨hm, fun hr => by rw [h.closed hr] at hm; cases hm⟩
theorem BfI.found (h : BfI us f L E i q j) (e : i = t) : Found us f t L := e ▸ .inl ⟨h.here, h.chain⟩
end
end Go.Proofs.YtnpgmdffjemnbaaGreatDoor
set_option maxHeartbeats 8000000
set_option maxRecDepth 100000
namespace Go.Proofs.YtnpgmdffjemnbaaGreatDoor
open Go.RowKit
theorem mapT_77_3_3 : MapT Tryz.prog 77 3 3 keyI.kind := ⟨by kernel_rfl, by kernel_rfl⟩
theorem call_55 : CallOk Tryz.prog 55 := callOk Tryz.func55 rfl rfl
open Go.Shelf Go.Sort in
theorem p_ReverseQ {J : World → Prop} (hJ : Stab J) (v : Value) (xs : List Int) : FnM (ι := Unit) Tryz.prog J 55 [] [.lit v] [OB.q v (xs.map intC)] (fun _ => .tup []) (fun _ => [OB.q v (xs.reverse.map intC)]) := by
  intro S w0 R w vs hS hJ0 _ hk0 hxo ha
  simp only [RelL] at ha
  obtain ⟨u, us0, rfl, h1, rfl⟩ := ha
  rw [h1.lit]
  obtain ⟨us, g, off, cap, hve, hlo, hg, hlc, hcm, hr, hn, hc, hu⟩ := hxo.2.1 (OB.q v (xs.map intC)) (by simp)
  rw [List.length_map] at hlc hve
  have hus := ints_of hr
  have hcell : ∀ j, j < xs.length → w.cell? ⟨g, off + j, none⟩ = some (.int .i64 (xs.getD j 0)) := fun j hj => by
    refine hu j _ ?_
    rw [hus, List.getElem?_map, List.getElem?_eq_getElem hj, List.getD_eq_getElem?_getD, List.getElem?_eq_getElem hj]
    rfl
  have hcall := Tryz.slices_Reverse_int_cells g off xs.length cap xs w (Nat.le_refl _) (by unfold maxLen at hcm; omega) hcell fun j hj => (hc j (by omega)).2
  rw [List.take_length, ← hve] at hcall
  refine hcall.mono fun e w' ⟨he, q, hw'⟩ => ?_
  have hk : Keeps (fun b => b ≠ g) w w' := by
    rw [hw']
    exact ((keeps_drewN q w).sub fun _ _ _ => trivial).trans (keeps_cells _ _ _)
  have hk2 : Keeps (fun b => ¬ (OB.q v (xs.map intC)).blk b) w w' := hk.sub fun b _ hb => by
    rintro rfl
    exact hb (by rw [hve]; rfl)
  have hlen : (xs.reverse.map fun z => Value.int .i64 z).length = xs.length := by simp
  have hsome : ∀ j, j < (xs.reverse.map fun z => Value.int .i64 z).length → ((w.drewN q).cell? ⟨g, off + j, none⟩).isSome = true := fun j hj => by
    rw [World.cell?_drewN]; exact (hc j (by rw [hlen] at hj; omega)).1
  have hst := step_set (o' := OB.q v (xs.reverse.map intC)) hJ hJ0 hk0 hxo hk2 (fun k hb => .inl hb) (by
    refine ⟨xs.reverse.map fun z => Value.int .i64 z, g, off, cap, by rw [List.length_map, List.length_reverse]; exact hve, hlo, by have := hk.size; omega, by simpa using hlc, hcm, ?_, fun r hr => by obtain ⟨z, _, rfl⟩ := List.mem_map.1 hr; rfl, fun j hj => ?_, fun j u hj => ?_⟩
    · exact ints_rd _
    · rw [hw', World.frozen?_setCells]
      refine ⟨?_, (hc j hj).2⟩
      by_cases e : j < xs.length
      · rw [World.cell?_setCells_in g _ off (w.drewN q) hsome j (by rw [hlen]; exact e)]; rfl
      · rw [World.cell?_setCells_out g _ off (w.drewN q) _ (fun _ _ => by rw [hlen]; simp only; omega)]
        exact (hc j hj).1
    · have hj' := (List.getElem?_eq_some_iff.1 hj)
      obtain ⟨h1, h2⟩ := hj'
      rw [hw', World.cell?_setCells_in g _ off (w.drewN q) hsome j h1, h2])
  exact ⟨(), .tuple #[], he, by simp only [Rel, RelL]; exact ⟨[], rfl, rfl⟩, hst.1, hst.2.1⟩

theorem p_Chain {J : World → Prop} (hJ : Stab J) (d : Db) (f : Int) (t : Int) (hw : ∀ f ∈ d.frames, f.wide.length * 32 ≤ 140737488351232) (hG : FormsJ J) : Fn Tryz.prog J 22 [.agg (dbC d), .int f, .int t] (.tup [.rd (intsC (if mstE d f t = 0 then chL (usL d d.frames.length) f t else [])), .int (mstE d f t)]) := by
 refine fn_enter (N := 101) Tryz.func22 rfl rfl (lb rfl) fun S w0 hS hJ0 => ?_
 refine tw st_own ?_
 refine k_seq (rgo tb hJ [1, 2, 1000] [_, _, _] [0] [(_, _), (_, _), (_, .ptr (dbC d))] rfl rfl rfl rfl ⟨fun _ _ hk hx hl _ => r_box rfl (hl.env 0 0 _ rfl rfl) (xo_new hS _ hk hx _ (Nat.le_refl _)) (jo hJ hx), trivial⟩ (nx (tr_scope (k_seq (rgo tb hJ [0, 1, 1003, 1008, 1009] [_, _, _, _, .tup [gAV (rdE d ([f, t] : List Int)) [strsC d.consts, strsC d.vars, frsC d.frames, intssC (usL d d.frames.length)], .int (rdE d ([f, t] : List Int))], _, _, _, _, _] [3, 4] [(_, _), (_, _), (_, .rd (intsC ([f, t] : List Int))), (_, gAV (rdE d ([f, t] : List Int)) [strsC d.consts, strsC d.vars, frsC d.frames, intssC (usL d d.frames.length)]), (_, .int (rdE d ([f, t] : List Int)))] rfl rfl rfl rfl ⟨fun a _ hk hx hl _ => r_buildK (k := 2) (us := [a.eval (Go.Operand.tmp 23), a.eval (Go.Operand.tmp 24)]) elem_28_3_1 zeroK_3_1 rfl (by simp) (rdL_cons (hl.dep 1 23 _ rfl rfl rfl rfl) (rdL_cons (hl.dep 2 24 _ rfl rfl rfl rfl) rdL_nil)) rfl (by decide) (by decide) (xo_new hS _ hk hx _ (Nat.le_refl _)) (jo hJ hx), hFo hS hJ (p_read hJ (d := d) (ns := ([f, t] : List Int)) (hw) (hG)) call_43 rfl rfl rfl rfl, trivial⟩ (nx (tr_fact (fun a w h => len_le h 2 rfl) fun hl1 => k_seq (k_seq (rgo tb hJ [0, 1, 3, 4, 1001] [_, _] [] [(_, _), (_, _), (_, _), (_, _), (_, .bool (!decide (rdE d ([f, t] : List Int) = (0 : Int))))] rfl rfl rfl rfl trivial (nx (tc 4 rfl rfl (fun hb1 => ?_) (fun hb1 => ?_))))))))))))
 ·
  have c1 : mstE d f t = rdE d [f, t] := by rw [mstE, if_pos hb1]
  have c9 : ¬ mstE d f t = 0 := by rw [c1]; exact nd_t hb1
  refine k_seq (rgo tb hJ [1001, 1002] [_, _, _] [] [(_, .lit (.slice none 0 0)), (_, .int (rdE d ([f, t] : List Int)))] rfl rfl rfl rfl trivial (nx ?_))
  refine tw (fun h => st_nilrd h (m := 0) (s := 6) rfl) ?_
  refine tr_ret (fun a w h => leave2' (m := 0) (k := 1) rfl (st_disown h) rfl rfl (congrArg (fun z => AV.rd (intsC z)) (show ([] : List Int) = (if mstE d f t = 0 then chL (usL d d.frames.length) f t else []) from by first | exact c1.symm | exact c8.symm | exact c0.symm | (rw [if_neg c9]; done) | (rw [c8]; rfl) | (rw [if_pos c0, chL_eq hl, e10]; simp))) (congrArg AV.int (show (rdE d ([f, t] : List Int)) = (mstE d f t) from by first | exact c1.symm | exact c8.symm | exact c0.symm | (rw [if_neg c9]; done) | (rw [c8]; rfl) | (rw [if_pos c0, chL_eq hl, e10]; simp))))
 ·
  have e0 : rdE d [f, t] = 0 := nd_f hb1
  have c2 := rdE_two e0
  have c3 := chkE_size c2.1
  have hul := usL_len d d.frames.length
  refine tw (sa 2 rfl (show (gAV (rdE d ([f, t] : List Int)) [strsC d.consts, strsC d.vars, frsC d.frames, intssC (usL d d.frames.length)] : AV) = .ptr [strsC d.consts, strsC d.vars, frsC d.frames, intssC (usL d d.frames.length)] from gAV_ok e0)) ?_
  refine tr_skip (nx (k_seq (tr_text (sq_map keyI (fun z' : Int => AV.int z') hJ rfl rfl rfl (lb rfl) fun m1 => ?_))))
  refine sv tb rfl rfl rfl rfl (sv tb rfl rfl rfl rfl (sq_put (f := (fun z' : Int => AV.int z')) mapT_77_3_3 hJ hJ0 f f rfl rfl (.inr rfl) (fun a w h => ⟨(h.get 2 rfl), (h.get 1 rfl), (h.get 0 rfl)⟩) (sv tb rfl rfl rfl rfl (sv tb rfl rfl rfl rfl (sq_end ?_)))))
  refine kw (lz [0, 5, 6, 7] (env' := [(_, _), (_, _), (_, _), (_, _)]) rfl) ?_
  refine nx (k_seq (tr_text (sv tb rfl rfl rfl rfl (sq_own1 elem_28_3_1 zero_3 hJ rfl rfl rfl (lb rfl) (fun _ _ h => (h.get 0 rfl)) fun v2 => ?_))))
  refine sv tb rfl rfl rfl rfl (sq_end ?_)
  refine kw (lz [0, 3, 4, 5, 6] (env' := [(_, _), (_, _), (_, _), (_, _), (_, _)]) rfl) ?_
  refine kw (st_toq (by first | (simp; done) | (rw [List.length_map, e10, List.length_reverse]; exact hl.1.pos))) ?_
  refine nx (k_seq (tr_label (nx (k_seq (tr_block (tr_loop (ι := Value × (List Int) × (List (Int × Int))) (fun (ii' : Value × (List Int) × (List (Int × Int))) a w => match ii' with | (vq, q, L) => ((Bf (usL d d.frames.length) f t L q)) ∧ St All (SO S [OB.q vq (q.map intC), OB.map keyI (fun z' : Int => AV.int z') m1 L]) w0 101 [(10, .lit (.map (some m1))), (1, .int f), (2, .int t), (8, .ptr [strsC d.consts, strsC d.vars, frsC d.frames, intssC (usL d d.frames.length)]), (11, .lit vq)] (XO J S w0.heap.size [OB.q vq (q.map intC), OB.map keyI (fun z' : Int => AV.int z') m1 L]) a w) (fun (ii' : Value × (List Int) × (List (Int × Int))) => match ii' with | (_, q, L) => (d.frames.length + 1 - (L.length - q.length) : Nat)) ?_ ?_))))))
  ·
   intro a w h
   exact ⟨(v2, [f], mput (([] : List (Int × Int))) f f), (show (Bf (usL d d.frames.length) f t (mput (([] : List (Int × Int))) f f) ([f])) from Bf.start _ _ _), lz [1, 2, 3, 4, 0] rfl h⟩
  ·
   rintro ⟨vq, q, L⟩
   refine tr_and fun hF => ?_
   have f1_1 : Bf (usL d d.frames.length) f t L q := hF
   refine k_seq (k_seq (rgr tb hJ [0, 1, 2, 3, 4, 1002] [_, .int (((q.length : Nat) : Int)), _] [1] [(_, _), (_, _), (_, _), (_, _), (_, _), (_, .bool (decide ((0 : Int) < ((q.length : Nat) : Int))))] rfl rfl rfl rfl ⟨fun _ _ _ hx hl _ => r_lenM unds_28_3 rfl (q_view hS hx (mo 0 rfl) (hl.dep 0 38 _ rfl rfl rfl rfl)) hx, trivial⟩ (nx (tc 5 rfl rfl (fun hb2 => ?_) (fun hb2 => ?_)))))
   ·
    try simp at hb2
    obtain ⟨i, r, hq⟩ : ∃ i r, q = i :: r := List.exists_cons_of_length_pos (by omega)
    obtain ⟨E, hE⟩ := f1_1.more i r hq
    have e6 := hE.range (usL_down _ _) c2.2.1.1 i (by simp)
    have e7 := hE.small (usL_down _ _) c2.2.1.1
    have e8 := hE.count
    refine tw (ob0 (congrArg (fun z' => OB.q vq ((z').map intC)) (show q = (i :: r) from hq))) ?_
    refine tr_skip (nx (tr_block (k_seq (rgr tb hJ [0, 1, 2, 3, 4, 1003] [_, .ptr [.lit (.int .i64 ((ge (i :: r) 0)))], _, _] [1] [(_, _), (_, _), (_, _), (_, _), (_, _), (_, .int ((ge (i :: r) 0)))] rfl rfl rfl rfl ⟨fun _ _ _ hx hl _ => r_index (i := ((0 : Nat) : Int)) elem_28_3_1 rfl (q_view hS hx (mo 0 rfl) (hl.dep 0 41 _ rfl rfl rfl rfl)) (Rel.of_lit (Go.Value.int Go.IntKind.i64 0)) (Int.natCast_nonneg _) (row_nat (xs := (i :: r)) (k := 0) (by simp)) rfl hx, trivial⟩ ?_))))
    refine kw (sa 5 rfl (congrArg AV.int (show (ge (i :: r) 0) = i from rfl))) ?_
    refine nx (k_seq (tr_text (sv tb rfl rfl rfl rfl (sq_qtail (m := 0) (s := 44) elem_28_3_1 rfl rfl rfl (lb rfl) rfl rfl (fun _ => rfl) fun v3 => ?_))))
    refine sv tb rfl rfl rfl rfl (sq_end ?_)
    refine kw (lz [0, 3, 4, 5, 6, 7] (env' := [(_, _), (_, _), (_, _), (_, _), (_, _), (_, _)]) rfl) ?_
    refine nx (k_seq (k_seq (rgo tb hJ [0, 1, 2, 3, 4, 5, 1002] [_, _, _] [] [(_, _), (_, _), (_, _), (_, _), (_, _), (_, _), (_, .bool (decide (i = t)))] rfl rfl rfl rfl trivial (nx (tc 6 rfl rfl (fun hb3 => ?_) (fun hb3 => ?_))))))
    ·
     try simp at hb3
     have hF := hE.found hb3
     refine tr_exit (nx (k_seq (k_seq (rgo tb hJ [1, 2, 3, 1007] [_, _, .tup [.int (((mget L t).getD default)), .bool ((mget L t).isSome)], _, _, _, _, _] [2] [(_, _), (_, _), (_, _), (_, .bool ((mget L t).isSome))] rfl rfl rfl rfl ⟨fun _ _ _ hx hl _ => r_lookup2 (Kd := keyI) (f := (fun z' : Int => AV.int z')) (L := L) mapT_77_3_3 zeroF_3_int t rfl (own_now hx (mo 1 rfl)) (hl.dep 0 78 _ rfl rfl rfl rfl) (hl.dep 1 79 _ rfl rfl rfl rfl) hx, trivial⟩ (nx (k_seq (rgo tb hJ [0, 1, 2, 1001] [_, _] [] [(_, _), (_, _), (_, _), (_, .bool (!((mget L t).isSome)))] rfl rfl rfl rfl trivial (nx (tc 3 rfl rfl (fun hb6 => ?_) (fun hb6 => ?_))))))))))
     ·
      have c8 : mstE d f t = 5 := by rw [mstE, if_neg (by rw [e0]; decide), if_pos (by rcases hF with h | h; (rw [h.1] at hb6; cases hb6); simpa using h.2)]
      refine k_seq (rgo tb hJ [1000, 1001] [_, _] [] [(_, .lit (.slice none 0 0)), (_, .int (5 : Int))] rfl rfl rfl rfl trivial (nx ?_))
      refine tw (fun h => st_nilrd h (m := 0) (s := 6) rfl) ?_
      refine tr_ret (fun a w h => leave2' (m := 0) (k := 1) rfl (st_disown h) rfl rfl (congrArg (fun z => AV.rd (intsC z)) (show ([] : List Int) = (if mstE d f t = 0 then chL (usL d d.frames.length) f t else []) from by first | exact c1.symm | exact c8.symm | exact c0.symm | (rw [if_neg c9]; done) | (rw [c8]; rfl) | (rw [if_pos c0, chL_eq hl, e10]; simp))) (congrArg AV.int (show (5 : Int) = (mstE d f t) from by first | exact c1.symm | exact c8.symm | exact c0.symm | (rw [if_neg c9]; done) | (rw [c8]; rfl) | (rw [if_pos c0, chL_eq hl, e10]; simp))))
     ·
      obtain ⟨l, hp, hl⟩ : ∃ l, Pth L f t l ∧ IsLeast (usL d d.frames.length) f t l := by rcases hF with h | h; exact h.2; (rw [h.1] at hb6; cases hb6)
      have c0 : mstE d f t = 0 := by rw [mstE, if_neg (by rw [e0]; decide), if_neg (by simpa using hl.1.rch)]
      have e9 := hl.1.len (usL_down _ _) c2.2.1.1
      refine tr_skip (nx (k_seq (tr_text (sv tb rfl rfl rfl rfl (sq_own1 elem_28_3_1 zero_3 hJ rfl rfl rfl (lb rfl) (fun _ _ h => (h.get 0 rfl)) fun v4 => ?_)))))
      refine sv tb rfl rfl rfl rfl (sq_end ?_)
      refine kw (lz [0, 3, 4, 5] (env' := [(_, _), (_, _), (_, _), (_, _)]) rfl) ?_
      refine nx (k_seq (k_seq (rgo tb hJ [0, 1, 2, 1001] [_, _] [] [(_, _), (_, _), (_, _), (_, .int t)] rfl rfl rfl rfl trivial (nx (tr_block (tr_loop (ι := Int × (List Int) × Value × (List Int)) (fun (ii' : Int × (List Int) × Value × (List Int)) a w => match ii' with | (z, rp, vo, out) => ((Pth L f z rp) ∧ (l.reverse = out ++ rp.reverse.tail)) ∧ St All (SO S [OB.row vo 3 1 (out.map intC), OB.q v3 (r.map intC), OB.map keyI (fun z' : Int => AV.int z') m1 L]) w0 101 [(10, .lit (.map (some m1))), (1, .int f), (20, .int z), (19, .lit vo)] (XO J S w0.heap.size [OB.row vo 3 1 (out.map intC), OB.q v3 (r.map intC), OB.map keyI (fun z' : Int => AV.int z') m1 L]) a w) (fun (ii' : Int × (List Int) × Value × (List Int)) => match ii' with | (_, rp, _, _) => (rp.length : Nat)) ?_ ?_))))))
      ·
       intro a w h
       exact ⟨(t, l, v4, [t]), (show (Pth L f t l) ∧ (l.reverse = ([t]) ++ l.reverse.tail) from ⟨hp, by rw [hp.last]; simp⟩), lz [1, 2, 3, 0] rfl h⟩
      ·
       rintro ⟨z, rp, vo, out⟩
       refine tr_and fun hF => ?_
       obtain ⟨f3_1, f3_2⟩ := hF
       refine k_seq (k_seq (rgo tb hJ [0, 1, 2, 3, 1002] [_, _, _] [] [(_, _), (_, _), (_, _), (_, _), (_, .bool (!decide (z = f)))] rfl rfl rfl rfl trivial (nx (tc 4 rfl rfl (fun hb7 => ?_) (fun hb7 => ?_)))))
       ·
        try simp at hb7
        obtain ⟨u, rp2, hu, hp2, hrp⟩ := f3_1.step hb7
        refine tr_skip (nx (tr_block (k_seq (rgo tb hJ [0, 1, 3, 1003] [_, _, .int (((mget L z).getD default)), _] [2] [(_, _), (_, _), (_, _), (_, .int (((mget L z).getD default)))] rfl rfl rfl rfl ⟨fun _ _ _ hx hl _ => r_lookup (Kd := keyI) (f := (fun z' : Int => AV.int z')) (L := L) mapT_77_3_3 zeroF_3_int z rfl (own_now hx (mo 2 rfl)) (hl.dep 0 91 _ rfl rfl rfl rfl) (hl.dep 1 92 _ rfl rfl rfl rfl) hx, trivial⟩ ?_))))
        refine kw (sa 3 rfl (congrArg AV.int (show ((mget L z).getD default) = u from by rw [hu]; rfl))) ?_
        refine nx (tr_text (sv tb rfl rfl rfl rfl (sv tb rfl rfl rfl rfl (sq (.rd (intsC ([u]))) rfl rfl (lb rfl) (fun _ _ h => r_build1 elem_28_3_1 zero_3 rfl (h.get 0 rfl) (xo_new hS _ h.keep h.x _ (Nat.le_refl _)) (jo hJ h.x)) (sq_appendM (f := intC) (m := 2) (s := 94) out ([u]) (fun _ => rfl) app_28_3 hJ hJ0 rfl rfl rfl (lb rfl) rfl rfl (fun a w h => (h.get 0 rfl)) (by first | (have := f2_2.small (usL_down _ _) c2.2.1.1; omega) | (have := congrArg List.length f3_2; rw [hrp] at this; simp at this; simp; omega)) (by first | (have := f2_2.small (usL_down _ _) c2.2.1.1; omega) | (have := congrArg List.length f3_2; rw [hrp] at this; simp at this; simp; omega)) fun v5 => ?_)))))
        refine sv tb rfl rfl rfl rfl (sq_end ?_)
        refine kw (lz [0, 2, 5, 6, 7] (env' := [(_, _), (_, _), (_, _), (_, _), (_, _)]) rfl) ?_
        intro a w h; change ∃ j, _ ∧ _
        exact ⟨(u, rp2, v5, out ++ ([u])), ⟨⟨(show Pth L f u rp2 from hp2), (show l.reverse = (out ++ ([u])) ++ rp2.reverse.tail from by rw [f3_2, hrp, List.reverse_append]; simp only [List.reverse_cons, List.reverse_nil, List.nil_append, List.singleton_append, List.tail_cons]; rw [hp2.last]; simp)⟩, lz [2, 3, 4, 0] rfl h⟩, (show rp2.length < rp.length from by rw [hrp]; simp)⟩
       ·
        try simp at hb7
        have e10 : out = l.reverse := by subst hb7; rw [f3_2, f3_1.end]; simp
        refine tr_exit (nx (k_seq ?_))
        refine tw (st_toq (by first | (simp; done) | (rw [List.length_map, e10, List.length_reverse]; exact hl.1.pos))) ?_
        refine tr_text (sv tb rfl rfl rfl rfl (sq_fn (O := [OB.q vo (out.map intC)]) (R := [OB.q v3 (r.map intC), OB.map keyI (fun z' : Int => AV.int z') m1 L]) (p_ReverseQ hJ (v := vo) (xs := out) ) call_55 rfl rfl rfl (lb rfl) hS hJ0 has_nil (fun a w h => (relL_cons (h.get 0 rfl) relL_nil)) fun _ => ?_))
        refine sq_end ?_
        refine kw (lz [5] (env' := [(_, _)]) rfl) ?_
        refine nx (k_seq (rgo tb hJ [1001, 1002] [_, _, _] [] [(_, .lit vo), (_, .int (0 : Int))] rfl rfl rfl rfl trivial (nx ?_)))
        refine tw (fun h => st_freezeQ hS h (m := 0) (s := 6) rfl) ?_
        refine tr_ret (fun a w h => leave2' (m := 0) (k := 1) rfl (st_disown h) rfl rfl (congrArg (fun z => AV.rd (intsC z)) (show out.reverse = (if mstE d f t = 0 then chL (usL d d.frames.length) f t else []) from by first | exact c1.symm | exact c8.symm | exact c0.symm | (rw [if_neg c9]; done) | (rw [c8]; rfl) | (rw [if_pos c0, chL_eq hl, e10]; simp))) (congrArg AV.int (show (0 : Int) = (mstE d f t) from by first | exact c1.symm | exact c8.symm | exact c0.symm | (rw [if_neg c9]; done) | (rw [c8]; rfl) | (rw [if_pos c0, chL_eq hl, e10]; simp))))
    ·
     try simp at hb3
     refine tr_skip (nx (k_seq (rgo tb hJ [0, 1, 2, 3, 4, 5, 1003, 1006, 1007, 1008] [_, _, _, _, _, .ptr [intsC ((ge (usL d d.frames.length) i.toNat))], _, _, _] [5, 7] [(_, _), (_, _), (_, _), (_, _), (_, _), (_, _), (_, .rd (intssC (usL d d.frames.length))), (_, .rd (intsC ((ge (usL d d.frames.length) i.toNat)))), (_, .int (((((ge (usL d d.frames.length) i.toNat)).length : Nat) : Int))), (_, .int (0 : Int))] rfl rfl rfl rfl ⟨hIz elem_44_28_1 (by omega) (by omega) rfl rfl rfl rfl rfl rfl, hLen unds_28_3 rfl rfl rfl rfl, trivial⟩ (nx (tr_fact (fun a w h => len_le h 6 rfl) fun hl2 => tr_fact (fun a w h => len_le h 7 rfl) fun hl3 => tr_block (tr_loop (ι := Nat × Value × (List Int) × (List (Int × Int))) (fun (ii' : Nat × Value × (List Int) × (List (Int × Int))) a w => match ii' with | (j, vr, q2, L2) => ((j ≤ (ge (usL d d.frames.length) i.toNat).length) ∧ (BfI (usL d d.frames.length) f L2 E i q2 j)) ∧ St All (SO S [OB.q vr (q2.map intC), OB.map keyI (fun z' : Int => AV.int z') m1 L2]) w0 101 [(10, .lit (.map (some m1))), (1, .int f), (2, .int t), (8, .ptr [strsC d.consts, strsC d.vars, frsC d.frames, intssC (usL d d.frames.length)]), (12, .int i), (55, .rd (intsC ((ge (usL d d.frames.length) i.toNat)))), (56, .int (((((ge (usL d d.frames.length) i.toNat)).length : Nat) : Int))), (57, .int (((j : Nat) : Int))), (11, .lit vr)] (XO J S w0.heap.size [OB.q vr (q2.map intC), OB.map keyI (fun z' : Int => AV.int z') m1 L2]) a w) (fun (ii' : Nat × Value × (List Int) × (List (Int × Int))) => match ii' with | (j, _, _, _) => ((ge (usL d d.frames.length) i.toNat).length - j : Nat)) ?_ ?_))))))
     ·
      intro a w h
      exact ⟨(0, v3, r, L), (show (0 ≤ (ge (usL d d.frames.length) i.toNat).length) ∧ (BfI (usL d d.frames.length) f L E i r 0) from ⟨Nat.zero_le _, hE⟩), lz [1, 2, 3, 4, 5, 7, 8, 9, 0] rfl h⟩
     ·
      rintro ⟨j, vr, q2, L2⟩
      refine tr_and fun hF => ?_
      obtain ⟨f2_1, f2_2⟩ := hF
      refine k_seq (rgo tb hJ [0, 1, 2, 3, 4, 5, 6, 7, 8, 1000] [_] [] [(_, _), (_, _), (_, _), (_, _), (_, _), (_, _), (_, _), (_, _), (_, _), (_, .bool (decide (((j : Nat) : Int) < ((((ge (usL d d.frames.length) i.toNat)).length : Nat) : Int))))] rfl rfl rfl rfl trivial (nx (k_seq (tc 9 rfl rfl (fun hb4 => ?_) (fun hb4 => ?_)))))
      ·
       try simp at hb4
       refine tr_skip (nx (k_seq (tr_block (k_seq (rgo tb hJ [0, 1, 2, 3, 4, 5, 6, 7, 8, 1002] [.ptr [.lit (.int .i64 ((ge ((ge (usL d d.frames.length) i.toNat)) j)))], _, _] [0] [(_, _), (_, _), (_, _), (_, _), (_, _), (_, _), (_, _), (_, _), (_, _), (_, .int ((ge ((ge (usL d d.frames.length) i.toNat)) j)))] rfl rfl rfl rfl ⟨hIx elem_28_3_1 (by first | omega | (simp; omega) | grind [ge_mem]) rfl rfl rfl rfl rfl rfl, trivial⟩ (nx (k_seq (rgo tb hJ [0, 1, 2, 3, 4, 5, 6, 7, 8, 9, 1007] [_, _, .tup [.int (((mget L2 ((ge ((ge (usL d d.frames.length) i.toNat)) j))).getD default)), .bool ((mget L2 ((ge ((ge (usL d d.frames.length) i.toNat)) j))).isSome)], _, _, _, _, _] [2] [(_, _), (_, _), (_, _), (_, _), (_, _), (_, _), (_, _), (_, _), (_, _), (_, _), (_, .bool ((mget L2 ((ge ((ge (usL d d.frames.length) i.toNat)) j))).isSome))] rfl rfl rfl rfl ⟨fun _ _ _ hx hl _ => r_lookup2 (Kd := keyI) (f := (fun z' : Int => AV.int z')) (L := L2) mapT_77_3_3 zeroF_3_int ((ge ((ge (usL d d.frames.length) i.toNat)) j)) rfl (own_now hx (mo 1 rfl)) (hl.dep 0 62 _ rfl rfl rfl rfl) (hl.dep 1 63 _ rfl rfl rfl rfl) hx, trivial⟩ (nx (k_seq (rgo tb hJ [0, 1, 2, 3, 4, 5, 6, 7, 8, 9, 1001] [_, _] [] [(_, _), (_, _), (_, _), (_, _), (_, _), (_, _), (_, _), (_, _), (_, _), (_, _), (_, .bool (!((mget L2 ((ge ((ge (usL d d.frames.length) i.toNat)) j))).isSome)))] rfl rfl rfl rfl trivial (nx ?_))))))))))))
       refine tc 10 rfl rfl (fun hb5 => ?_) (fun hb5 => ?_)
       ·
        try simp at hb5
        refine k_seq (tr_text (sv tb rfl rfl rfl rfl (sv tb rfl rfl rfl rfl (sv tb rfl rfl rfl rfl ?_))))
        refine kw pm1 ?_
        refine sq_put (f := (fun z' : Int => AV.int z')) mapT_77_3_3 hJ hJ0 ((ge ((ge (usL d d.frames.length) i.toNat)) j)) i rfl rfl (.inl rfl) (fun a w h => ⟨(h.get 2 rfl), (h.get 1 rfl), (h.get 0 rfl)⟩) (sq_end ?_)
        refine kw (lz [3, 4, 5, 6, 7, 8, 9, 10, 11, 12] (env' := [(_, _), (_, _), (_, _), (_, _), (_, _), (_, _), (_, _), (_, _), (_, _), (_, _)]) rfl) ?_
        refine nx (tr_text (sv tb rfl rfl rfl rfl (sv tb rfl rfl rfl rfl (sq (.rd (intsC ([(ge ((ge (usL d d.frames.length) i.toNat)) j)]))) rfl rfl (lb rfl) (fun _ _ h => r_build1 elem_28_3_1 zero_3 rfl (h.get 0 rfl) (xo_new hS _ h.keep h.x _ (Nat.le_refl _)) (jo hJ h.x)) ?_))))
        refine kw pm1 ?_
        refine sq_qappend (f := intC) (m := 2) (s := 72) q2 ((ge ((ge (usL d d.frames.length) i.toNat)) j)) (fun _ => rfl) app_28_3 hJ hJ0 rfl rfl rfl (lb rfl) rfl rfl (fun a w h => (h.get 0 rfl)) (by first | (have := f2_2.small (usL_down _ _) c2.2.1.1; omega) | (have := congrArg List.length f3_2; rw [hrp] at this; simp at this; simp; omega)) (by first | (have := f2_2.small (usL_down _ _) c2.2.1.1; omega) | (have := congrArg List.length f3_2; rw [hrp] at this; simp at this; simp; omega)) fun v6 => ?_
        refine sv tb rfl rfl rfl rfl (sq_end ?_)
        refine kw (lz [0, 2, 5, 6, 7, 8, 9, 10, 11, 12] (env' := [(_, _), (_, _), (_, _), (_, _), (_, _), (_, _), (_, _), (_, _), (_, _), (_, _)]) rfl) ?_
        refine nx (tr_fact (fun a w h => len_le h 1 rfl) fun hl4 => rgo tb hJ [0, 2, 3, 4, 5, 6, 7, 8, 1001] [.int (((j + 1 : Nat) : Int)), _] [0] [(_, _), (_, _), (_, _), (_, _), (_, _), (_, _), (_, _), (_, _), (_, .int (((j + 1 : Nat) : Int)))] rfl rfl rfl rfl ⟨hAdd (by first | omega | (simp; omega) | grind [ge_mem]) rfl rfl rfl rfl rfl, trivial⟩ ?_)
        intro a w h; change ∃ j, _ ∧ _
        exact ⟨(j + 1, v6, q2 ++ ([(ge ((ge (usL d d.frames.length) i.toNat)) j)]), mput L2 ((ge ((ge (usL d d.frames.length) i.toNat)) j)) i), ⟨⟨(show (j + 1) ≤ (ge (usL d d.frames.length) i.toNat).length from by omega), (show BfI (usL d d.frames.length) f (mput L2 ((ge ((ge (usL d d.frames.length) i.toNat)) j)) i) E i (q2 ++ ([(ge ((ge (usL d d.frames.length) i.toNat)) j)])) (j + 1) from by first | exact f2_2.add (usL_asc _ _) (by omega) (by simpa using hb5) | exact f2_2.skip (by omega) (by simpa using hb5))⟩, lz [1, 2, 3, 4, 5, 6, 7, 8, 0] rfl h⟩, (show (ge (usL d d.frames.length) i.toNat).length - (j + 1) < (ge (usL d d.frames.length) i.toNat).length - j from by first | omega | (simp; omega))⟩
       ·
        try simp at hb5
        refine tr_skip (nx (rgo tb hJ [0, 1, 2, 3, 4, 5, 6, 8, 1001] [.int (((j + 1 : Nat) : Int)), _] [0] [(_, _), (_, _), (_, _), (_, _), (_, _), (_, _), (_, _), (_, _), (_, .int (((j + 1 : Nat) : Int)))] rfl rfl rfl rfl ⟨hAdd (by first | omega | (simp; omega) | grind [ge_mem]) rfl rfl rfl rfl rfl, trivial⟩ ?_))
        intro a w h; change ∃ j, _ ∧ _
        exact ⟨(j + 1, vr, q2, L2), ⟨⟨(show (j + 1) ≤ (ge (usL d d.frames.length) i.toNat).length from by omega), (show BfI (usL d d.frames.length) f L2 E i q2 (j + 1) from by first | exact f2_2.add (usL_asc _ _) (by omega) (by simpa using hb5) | exact f2_2.skip (by omega) (by simpa using hb5))⟩, lz [0, 1, 2, 3, 4, 5, 6, 8, 7] rfl h⟩, (show (ge (usL d d.frames.length) i.toNat).length - (j + 1) < (ge (usL d d.frames.length) i.toNat).length - j from by first | omega | (simp; omega))⟩
      ·
       try simp at hb4
       refine tr_exit ?_
       intro a w h; change ∃ j, _ ∧ _
       exact ⟨(vr, q2, L2), ⟨(show (Bf (usL d d.frames.length) f t L2 q2) from f2_2.done (by omega)), lz [0, 1, 2, 3, 8] rfl h⟩, (show d.frames.length + 1 - (L2.length - q2.length) < d.frames.length + 1 - (L.length - q.length) from by (have h1 := f2_2.small (usL_down _ _) c2.2.1.1); (have h2 := f2_2.count); rw [hq]; simp only [List.length_cons]; omega)⟩
   ·
    try simp at hb2
    have hq : q = [] := by first | exact hb2 | exact List.eq_nil_of_length_eq_zero (by omega)
    have hF := (show Bf (usL d d.frames.length) f t L [] from hq ▸ f1_1).found
    refine tr_exit (nx (k_seq (k_seq (rgo tb hJ [0, 1, 2, 1007] [_, _, .tup [.int (((mget L t).getD default)), .bool ((mget L t).isSome)], _, _, _, _, _] [2] [(_, _), (_, _), (_, _), (_, .bool ((mget L t).isSome))] rfl rfl rfl rfl ⟨fun _ _ _ hx hl _ => r_lookup2 (Kd := keyI) (f := (fun z' : Int => AV.int z')) (L := L) mapT_77_3_3 zeroF_3_int t rfl (own_now hx (mo 1 rfl)) (hl.dep 0 78 _ rfl rfl rfl rfl) (hl.dep 1 79 _ rfl rfl rfl rfl) hx, trivial⟩ (nx (k_seq (rgo tb hJ [0, 1, 2, 1001] [_, _] [] [(_, _), (_, _), (_, _), (_, .bool (!((mget L t).isSome)))] rfl rfl rfl rfl trivial (nx (tc 3 rfl rfl (fun hb6 => ?_) (fun hb6 => ?_))))))))))
    ·
     have c8 : mstE d f t = 5 := by rw [mstE, if_neg (by rw [e0]; decide), if_pos (by rcases hF with h | h; (rw [h.1] at hb6; cases hb6); simpa using h.2)]
     refine k_seq (rgo tb hJ [1000, 1001] [_, _] [] [(_, .lit (.slice none 0 0)), (_, .int (5 : Int))] rfl rfl rfl rfl trivial (nx ?_))
     refine tw (fun h => st_nilrd h (m := 0) (s := 6) rfl) ?_
     refine tr_ret (fun a w h => leave2' (m := 0) (k := 1) rfl (st_disown h) rfl rfl (congrArg (fun z => AV.rd (intsC z)) (show ([] : List Int) = (if mstE d f t = 0 then chL (usL d d.frames.length) f t else []) from by first | exact c1.symm | exact c8.symm | exact c0.symm | (rw [if_neg c9]; done) | (rw [c8]; rfl) | (rw [if_pos c0, chL_eq hl, e10]; simp))) (congrArg AV.int (show (5 : Int) = (mstE d f t) from by first | exact c1.symm | exact c8.symm | exact c0.symm | (rw [if_neg c9]; done) | (rw [c8]; rfl) | (rw [if_pos c0, chL_eq hl, e10]; simp))))
    ·
     obtain ⟨l, hp, hl⟩ : ∃ l, Pth L f t l ∧ IsLeast (usL d d.frames.length) f t l := by rcases hF with h | h; exact h.2; (rw [h.1] at hb6; cases hb6)
     have c0 : mstE d f t = 0 := by rw [mstE, if_neg (by rw [e0]; decide), if_neg (by simpa using hl.1.rch)]
     have e9 := hl.1.len (usL_down _ _) c2.2.1.1
     refine tr_skip (nx (k_seq (tr_text (sv tb rfl rfl rfl rfl (sq_own1 elem_28_3_1 zero_3 hJ rfl rfl rfl (lb rfl) (fun _ _ h => (h.get 0 rfl)) fun v7 => ?_)))))
     refine sv tb rfl rfl rfl rfl (sq_end ?_)
     refine kw (lz [0, 3, 4, 5] (env' := [(_, _), (_, _), (_, _), (_, _)]) rfl) ?_
     refine nx (k_seq (k_seq (rgo tb hJ [0, 1, 2, 1001] [_, _] [] [(_, _), (_, _), (_, _), (_, .int t)] rfl rfl rfl rfl trivial (nx (tr_block (tr_loop (ι := Int × (List Int) × Value × (List Int)) (fun (ii' : Int × (List Int) × Value × (List Int)) a w => match ii' with | (z, rp, vo, out) => ((Pth L f z rp) ∧ (l.reverse = out ++ rp.reverse.tail)) ∧ St All (SO S [OB.row vo 3 1 (out.map intC), OB.q vq (q.map intC), OB.map keyI (fun z' : Int => AV.int z') m1 L]) w0 101 [(10, .lit (.map (some m1))), (1, .int f), (20, .int z), (19, .lit vo)] (XO J S w0.heap.size [OB.row vo 3 1 (out.map intC), OB.q vq (q.map intC), OB.map keyI (fun z' : Int => AV.int z') m1 L]) a w) (fun (ii' : Int × (List Int) × Value × (List Int)) => match ii' with | (_, rp, _, _) => (rp.length : Nat)) ?_ ?_))))))
     ·
      intro a w h
      exact ⟨(t, l, v7, [t]), (show (Pth L f t l) ∧ (l.reverse = ([t]) ++ l.reverse.tail) from ⟨hp, by rw [hp.last]; simp⟩), lz [1, 2, 3, 0] rfl h⟩
     ·
      rintro ⟨z, rp, vo, out⟩
      refine tr_and fun hF => ?_
      obtain ⟨f3_1, f3_2⟩ := hF
      refine k_seq (k_seq (rgo tb hJ [0, 1, 2, 3, 1002] [_, _, _] [] [(_, _), (_, _), (_, _), (_, _), (_, .bool (!decide (z = f)))] rfl rfl rfl rfl trivial (nx (tc 4 rfl rfl (fun hb7 => ?_) (fun hb7 => ?_)))))
      ·
       try simp at hb7
       obtain ⟨u, rp2, hu, hp2, hrp⟩ := f3_1.step hb7
       refine tr_skip (nx (tr_block (k_seq (rgo tb hJ [0, 1, 3, 1003] [_, _, .int (((mget L z).getD default)), _] [2] [(_, _), (_, _), (_, _), (_, .int (((mget L z).getD default)))] rfl rfl rfl rfl ⟨fun _ _ _ hx hl _ => r_lookup (Kd := keyI) (f := (fun z' : Int => AV.int z')) (L := L) mapT_77_3_3 zeroF_3_int z rfl (own_now hx (mo 2 rfl)) (hl.dep 0 91 _ rfl rfl rfl rfl) (hl.dep 1 92 _ rfl rfl rfl rfl) hx, trivial⟩ ?_))))
       refine kw (sa 3 rfl (congrArg AV.int (show ((mget L z).getD default) = u from by rw [hu]; rfl))) ?_
       refine nx (tr_text (sv tb rfl rfl rfl rfl (sv tb rfl rfl rfl rfl (sq (.rd (intsC ([u]))) rfl rfl (lb rfl) (fun _ _ h => r_build1 elem_28_3_1 zero_3 rfl (h.get 0 rfl) (xo_new hS _ h.keep h.x _ (Nat.le_refl _)) (jo hJ h.x)) (sq_appendM (f := intC) (m := 2) (s := 94) out ([u]) (fun _ => rfl) app_28_3 hJ hJ0 rfl rfl rfl (lb rfl) rfl rfl (fun a w h => (h.get 0 rfl)) (by first | (have := f2_2.small (usL_down _ _) c2.2.1.1; omega) | (have := congrArg List.length f3_2; rw [hrp] at this; simp at this; simp; omega)) (by first | (have := f2_2.small (usL_down _ _) c2.2.1.1; omega) | (have := congrArg List.length f3_2; rw [hrp] at this; simp at this; simp; omega)) fun v8 => ?_)))))
       refine sv tb rfl rfl rfl rfl (sq_end ?_)
       refine kw (lz [0, 2, 5, 6, 7] (env' := [(_, _), (_, _), (_, _), (_, _), (_, _)]) rfl) ?_
       intro a w h; change ∃ j, _ ∧ _
       exact ⟨(u, rp2, v8, out ++ ([u])), ⟨⟨(show Pth L f u rp2 from hp2), (show l.reverse = (out ++ ([u])) ++ rp2.reverse.tail from by rw [f3_2, hrp, List.reverse_append]; simp only [List.reverse_cons, List.reverse_nil, List.nil_append, List.singleton_append, List.tail_cons]; rw [hp2.last]; simp)⟩, lz [2, 3, 4, 0] rfl h⟩, (show rp2.length < rp.length from by rw [hrp]; simp)⟩
      ·
       try simp at hb7
       have e10 : out = l.reverse := by subst hb7; rw [f3_2, f3_1.end]; simp
       refine tr_exit (nx (k_seq ?_))
       refine tw (st_toq (by first | (simp; done) | (rw [List.length_map, e10, List.length_reverse]; exact hl.1.pos))) ?_
       refine tr_text (sv tb rfl rfl rfl rfl (sq_fn (O := [OB.q vo (out.map intC)]) (R := [OB.q vq (q.map intC), OB.map keyI (fun z' : Int => AV.int z') m1 L]) (p_ReverseQ hJ (v := vo) (xs := out) ) call_55 rfl rfl rfl (lb rfl) hS hJ0 has_nil (fun a w h => (relL_cons (h.get 0 rfl) relL_nil)) fun _ => ?_))
       refine sq_end ?_
       refine kw (lz [5] (env' := [(_, _)]) rfl) ?_
       refine nx (k_seq (rgo tb hJ [1001, 1002] [_, _, _] [] [(_, .lit vo), (_, .int (0 : Int))] rfl rfl rfl rfl trivial (nx ?_)))
       refine tw (fun h => st_freezeQ hS h (m := 0) (s := 6) rfl) ?_
       refine tr_ret (fun a w h => leave2' (m := 0) (k := 1) rfl (st_disown h) rfl rfl (congrArg (fun z => AV.rd (intsC z)) (show out.reverse = (if mstE d f t = 0 then chL (usL d d.frames.length) f t else []) from by first | exact c1.symm | exact c8.symm | exact c0.symm | (rw [if_neg c9]; done) | (rw [c8]; rfl) | (rw [if_pos c0, chL_eq hl, e10]; simp))) (congrArg AV.int (show (0 : Int) = (mstE d f t) from by first | exact c1.symm | exact c8.symm | exact c0.symm | (rw [if_neg c9]; done) | (rw [c8]; rfl) | (rw [if_pos c0, chL_eq hl, e10]; simp))))

end Go.Proofs.YtnpgmdffjemnbaaGreatDoor
namespace Go.Proofs.YtnpgmdffjemnbaaGreatDoor
open Go.RowKit

section
variable {n : Nat} {P : Program} {S S' : Nat → Prop} {X : World → Prop} {o : Oper} {a : Act} {w : World} {x y : Operand} {t u : TypeId}
theorem r_convI {s d : TypeId} {b : UInt8} (hs : P.underlying s = some (.int .u8)) (hd : P.underlying d = some (.int .i64)) (hop : o.op = .convert s d x) (h : Rel S' w (.lit (.int .u8 (b.toNat : Int))) (a.eval x)) (hx : X w) : Does n P o a w (Post S X (.int (b.toNat : Int)) w) := by
  have hb := UInt8.toNat_lt b
  refine does_pure (v := .int .i64 (b.toNat : Int)) ?_ (Rel.of_lit _) hx
  have hw : IntKind.i64.wrap (b.toNat : Int) = b.toNat := by
    have := IntWalk.i64_in (b.toNat : Int) ⟨by omega, by omega⟩
    simp [IntKind.wrap, IntKind.bits, IntKind.signed]; omega
  simp [execOp, hop, h.lit, convert, Conv.intToInt, Sem.run_bind, run_underlying hs, run_underlying hd, hw]
theorem r_rem {i j : Int} (hop : o.op = .binOp .rem t x y u) (h1 : Rel S w (.int i) (a.eval x)) (h2 : Rel S w (.int j) (a.eval y)) (h0 : 0 ≤ i) (hj : 0 < j) (hx : X w) : Does n P o a w (Post S X (.int (i % j)) w) := by
  have hne : ¬ j = 0 := by omega
  have hr : i.tmod j = i % j := Int.tmod_eq_emod_of_nonneg h0
  exact r_bin True.intro (guard_int ..) (by simp only [binOp, ne_eq, not_true, if_false, Op.intDiv, hne, hr]; rfl) hop h1 h2 hx
theorem r_neqB {g b : Bool} (ht : P.underlying t = some .bool) (hop : o.op = .binOp .neq t x y u) (h1 : Rel S w (.bool g) (a.eval x)) (h2 : Rel S w (.bool b) (a.eval y)) (hx : X w) : Does n P o a w (Post S X (.bool (!(g == b))) w) := by
  refine r_bin True.intro (guard_bool ..) ?_ hop h1 h2 hx
  simp only [binOp, Op.equal, Op.maxDepth, Sem.run_bind]
  have : (Op.equalIn 10000 t (.bool g) (.bool b)).run P w = .ok (g == b) w := by
    show (Op.equalIn (9999 + 1) t (.bool g) (.bool b)).run P w = _
    unfold Op.equalIn
    simp [Sem.run_bind, run_underlying ht]
  rw [this]
  rfl
end
end Go.Proofs.YtnpgmdffjemnbaaGreatDoor
namespace Go.Proofs.YtnpgmdffjemnbaaGreatDoor

section
variable {us : List (List Int)} {f t m : Int}
theorem IsCh.join {l1 l2 : List Int} (h1 : IsCh us f m l1) (h2 : IsCh us m t l2) : ∃ l, IsCh us f t l ∧ l.length + 1 = l1.length + l2.length := by
  induction h2 with
  | one => exact ⟨l1, h1, by simp⟩
  | snoc b c l _ hc ih =>
    obtain ⟨l', h3, h4⟩ := ih
    exact ⟨l' ++ [c], .snoc b c l' h3 hc, by simp; omega⟩
theorem IsCh.part {l : List Int} (h : IsCh us f t l) (hm : m ∈ l) : ∃ l1 l2, IsCh us f m l1 ∧ IsCh us m t l2 ∧ l1.length + l2.length = l.length + 1 := by
  induction h with
  | one =>
    obtain rfl : m = f := by simpa using hm
    exact ⟨[m], [m], .one, .one, rfl⟩
  | snoc b c l h hc ih =>
    by_cases hl : m ∈ l
    · obtain ⟨l1, l2, h1, h2, h3⟩ := ih hl
      exact ⟨l1, l2 ++ [c], h1, .snoc b c l2 h2 hc, by simp; omega⟩
    · obtain rfl : m = c := by
        rcases List.mem_append.1 hm with h | h
        · exact absurd h hl
        · exact List.mem_singleton.1 h
      exact ⟨l ++ [m], [m], .snoc b m l h hc, .one, by simp⟩
theorem IsCh.cons {x : Int} {l : List Int} (hx : x ∈ ge us f.toNat) (h : IsCh us x t l) : IsCh us f t (f :: l) := by
  induction h with
  | one => exact .snoc f x [f] .one hx
  | snoc b c l _ hc ih => exact .snoc b c (f :: l) ih hc
theorem IsCh.uncons {l : List Int} (h : IsCh us f t l) : (f = t ∧ l = [f]) ∨ ∃ x l', x ∈ ge us f.toNat ∧ IsCh us x t l' ∧ l = f :: l' := by
  induction h with
  | one => exact .inl ⟨rfl, rfl⟩
  | snoc b c l h hc ih =>
    rcases ih with ⟨rfl, rfl⟩ | ⟨x, l', h1, h2, rfl⟩
    · exact .inr ⟨c, [c], hc, .one, rfl⟩
    · exact .inr ⟨x, l' ++ [c], h1, .snoc b c l' h2 hc, rfl⟩
theorem IsCh.head {l : List Int} (h : IsCh us f t l) : ge l 0 = f := by
  rcases h.uncons with ⟨_, rfl⟩ | ⟨x, l', _, _, rfl⟩ <;> rfl
theorem IsCh.last {l : List Int} (h : IsCh us f t l) : ge l (l.length - 1) = t := by
  cases h with
  | one => rfl
  | snoc b c l h hc => simp [ge, List.getD_eq_getElem?_getD]
theorem IsCh.steps {l : List Int} (h : IsCh us f t l) : ∀ i, i + 1 < l.length → ge l (i + 1) ∈ ge us (ge l i).toNat := by
  induction h with
  | one => intro i hi; simp at hi
  | snoc b c l h hc ih =>
    intro i hi
    rw [List.length_append, List.length_singleton] at hi
    by_cases e : i + 1 < l.length
    · have g1 : ge (l ++ [c]) (i + 1) = ge l (i + 1) := by rw [ge, ge, List.getD_eq_getElem?_getD, List.getD_eq_getElem?_getD, List.getElem?_append_left e]
      have g2 : ge (l ++ [c]) i = ge l i := by rw [ge, ge, List.getD_eq_getElem?_getD, List.getD_eq_getElem?_getD, List.getElem?_append_left (by omega)]
      rw [g1, g2]
      exact ih i e
    · have hp := h.pos
      have ei : i + 1 = l.length := by omega
      have g1 : ge (l ++ [c]) (i + 1) = c := by rw [ei]; simp [ge, List.getD_eq_getElem?_getD]
      have g2 : ge (l ++ [c]) i = b := by
        rw [show ge (l ++ [c]) i = ge l i by rw [ge, ge, List.getD_eq_getElem?_getD, List.getD_eq_getElem?_getD, List.getElem?_append_left (by omega)], show i = l.length - 1 by omega]
        exact h.last
      rw [g1, g2]
      exact hc
/-- A chain without m. -/
theorem IsCh.past (hd : DownL us) (hm : 0 ≤ m) (hf : 0 ≤ f) {l : List Int} (h : IsCh us f t l) (hn : m ∉ l) : Rch (us.set m.toNat []) f t := by
  induction h with
  | one => exact .refl _
  | snoc b c l h hc ih =>
    have hb : b ≠ m := fun e => hn (by
      rw [← e, List.mem_append]
      have := h.last
      exact .inl (this ▸ ge_mem (by have := h.pos; omega)))
    have hb0 := (h.len hd hf).2
    refine (ih fun hx => hn (List.mem_append_left _ hx)).trans (.one ?_)
    by_cases hlt : m.toNat < us.length
    · rw [ge_set hlt, if_neg (by omega)]; exact hc
    · rw [List.set_eq_of_length_le (by omega)]; exact hc
theorem IsCh.range (hd : DownL us) (hf : 0 ≤ f) {l : List Int} (h : IsCh us f t l) : ∀ x ∈ l, 0 ≤ x ∧ x ≤ f := fun x hx => by
  obtain ⟨l1, l2, h1, _, _⟩ := h.part hx
  exact h1.rch.le hd hf
theorem LL.cons {a b : List Int} (h : LL a b) (x : Int) : LL (x :: a) (x :: b) := by
  rcases h with h | ⟨h1, h2⟩
  · exact .inl (by simpa using h)
  · exact .inr ⟨by simpa using h1, by rw [List.cons_lt_cons_iff]; exact .inr ⟨rfl, h2⟩⟩
theorem LL.total (a b : List Int) : a = b ∨ LL a b ∨ LL b a := by
  rcases Nat.lt_trichotomy a.length b.length with h | h | h
  · exact .inr (.inl (.inl h))
  · have key : ∀ (a b : List Int), a.length = b.length → a = b ∨ a < b ∨ b < a := by
      intro a
      induction a with
      | nil => intro b hb; exact .inl (List.eq_nil_of_length_eq_zero hb.symm).symm
      | cons x a ih =>
        intro b hb
        match b, hb with
        | y :: b, hb =>
          rcases Int.lt_trichotomy x y with h | h | h
          · exact .inr (.inl (by rw [List.cons_lt_cons_iff]; exact .inl h))
          · subst h
            rcases ih b (by simpa using hb) with h | h | h
            · exact .inl (by rw [h])
            · exact .inr (.inl (by rw [List.cons_lt_cons_iff]; exact .inr ⟨rfl, h⟩))
            · exact .inr (.inr (by rw [List.cons_lt_cons_iff]; exact .inr ⟨rfl, h⟩))
          · exact .inr (.inr (by rw [List.cons_lt_cons_iff]; exact .inl h))
    rcases key a b h with e | e | e
    · exact .inl e
    · exact .inr (.inl (.inr ⟨h, e⟩))
    · exact .inr (.inr (.inr ⟨h.symm, e⟩))
  · exact .inr (.inr (.inl h))
/-- The least of some lists. -/
theorem LL.best : ∀ (C : List (List Int)), C ≠ [] → ∃ b ∈ C, ∀ a ∈ C, a = b ∨ LL b a
  | [], h => absurd rfl h
  | [c], _ => ⟨c, by simp, fun a ha => .inl (by simpa using ha)⟩
  | c :: d :: C, _ => by
    obtain ⟨b, hb, hmin⟩ := LL.best (d :: C) (by simp)
    rcases LL.total c b with e | e | e
    · exact ⟨b, List.mem_cons_of_mem _ hb, fun a ha => by
        rcases List.mem_cons.1 ha with rfl | ha
        · exact .inl e
        · exact hmin a ha⟩
    · exact ⟨c, by simp, fun a ha => by
        rcases List.mem_cons.1 ha with rfl | ha
        · exact .inl rfl
        · rcases hmin a ha with rfl | h
          · exact .inr e
          · exact .inr (e.trans h)⟩
    · exact ⟨b, List.mem_cons_of_mem _ hb, fun a ha => by
        rcases List.mem_cons.1 ha with rfl | ha
        · exact .inr e
        · exact hmin a ha⟩
open Classical in
/-- Where there is a chain, there is a least one. -/
theorem least_chain (hd : DownL us) : ∀ (n : Nat) (f : Int), f.toNat = n → 0 ≤ f → Rch us f t → ∃ l, IsLeast us f t l := by
  intro n
  induction n using Nat.strongRecOn with
  | ind n ih =>
    intro f hn hf hr
    by_cases hft : f = t
    · exact ⟨[f], hft ▸ least_self⟩
    · have hstep : ∃ x ∈ ge us f.toNat, Rch us x t := by
        cases hr with
        | refl => exact absurd rfl hft
        | step _ x _ hx hk => exact ⟨x, hx, hk⟩
      have hex : ∀ x ∈ ge us f.toNat, Rch us x t → ∃ l, IsLeast us x t l := fun x hx hk => by
        have := hd _ x hx
        exact ih x.toNat (by omega) x rfl this.1 hk
      obtain ⟨x0, hx0, hk0⟩ := hstep
      let C : List (List Int) := ((ge us f.toNat).filter fun x => decide (Rch us x t)).map fun x => chL us x t
      have hC : C ≠ [] := by
        intro e
        have : chL us x0 t ∈ C := List.mem_map.2 ⟨x0, List.mem_filter.2 ⟨hx0, by simpa using hk0⟩, rfl⟩
        rw [e] at this
        cases this
      obtain ⟨b, hb, hmin⟩ := LL.best C hC
      obtain ⟨x, hx, rfl⟩ := List.mem_map.1 hb
      obtain ⟨hx1, hx2⟩ := List.mem_filter.1 hx
      obtain ⟨lx, hlx⟩ := hex x hx1 (by simpa using hx2)
      rw [chL_eq hlx] at hmin hb
      refine ⟨f :: lx, hlx.1.cons hx1, fun l' hl' => ?_⟩
      rcases hl'.uncons with ⟨e, _⟩ | ⟨y, l2, hy, hl2, rfl⟩
      · exact absurd e hft
      · obtain ⟨ly, hly⟩ := hex y hy hl2.rch
        have hmem : ly ∈ C := List.mem_map.2 ⟨y, List.mem_filter.2 ⟨hy, by simpa using hl2.rch⟩, chL_eq hly⟩
        have h1 : l2 = lx ∨ LL lx l2 := by
          rcases hmin ly hmem with e | e <;> rcases hly.2 l2 hl2 with e2 | e2
          · exact .inl (by rw [e2, e])
          · exact .inr (e ▸ e2)
          · exact .inr (e2 ▸ e)
          · exact .inr (e.trans e2)
        rcases h1 with e | e
        · exact .inl (by rw [e])
        · exact .inr (e.cons _)
end
/-- What the law of what is on every chain asks. -/
theorem chain_least {d : Db} {f t : Int} (h : mstE d f t = 0) : IsLeast (usL d d.frames.length) f t (chL (usL d d.frames.length) f t) := by
  have hr : rdE d [f, t] = 0 ∧ Rch (usL d d.frames.length) f t := by
    unfold mstE at h
    split at h
    · rename_i h1; simp at h1; exact absurd h h1
    · rename_i h1
      split at h
      · cases h
      · rename_i h2; exact ⟨by simpa using h1, by simpa using h2⟩
  have h2 := rdE_two hr.1
  obtain ⟨l, hl⟩ := least_chain (usL_down d _) f.toNat f rfl h2.2.1.1 hr.2
  rw [chL_eq hl]
  exact hl
theorem mstE_iff {d : Db} {f t : Int} (h : rdE d [f, t] = 0) : (mstE d f t = 0 ↔ Rch (usL d d.frames.length) f t) ∧ (¬ mstE d f t = 0 → mstE d f t = 5) := by
  unfold mstE
  rw [if_neg (by rw [h]; decide)]
  by_cases hr : Rch (usL d d.frames.length) f t
  · rw [if_neg (by simpa using hr)]; simp [hr]
  · rw [if_pos (by simpa using hr)]; simp [hr]
theorem rdE_in {d : Db} {f t : Int} (h : chkE d = 0) (hf : 0 ≤ f ∧ f < d.frames.length) (ht : 0 ≤ t ∧ t < d.frames.length) : rdE d [f, t] = 0 := by
  unfold rdE
  rw [if_neg (by simp [h]), if_neg]
  simp
  omega
theorem mst_mem {us : List (List Int)} {f t : Nat} {m : Int} (h : m ∈ mstL us f t) : m ∈ rchL us f ∧ m ≠ f ∧ m ≠ t ∧ ¬ Rch (us.set m.toNat []) f t := by
  obtain ⟨h1, h2⟩ := List.mem_filter.1 h
  refine ⟨h1, ?_⟩
  simp only [mstP, Bool.and_eq_true, Bool.not_eq_true', decide_eq_false_iff_not] at h2
  exact ⟨h2.1.1, h2.1.2, h2.2⟩
theorem mst_on {us : List (List Int)} (hd : DownL us) {f t : Int} {m : Int} (hf : 0 ≤ f) (ht : 0 ≤ t) (h : m ∈ mstL us f.toNat t.toNat) {l : List Int} (hl : IsCh us f t l) : m ∈ l := by
  obtain ⟨h1, h2, h3, h4⟩ := mst_mem h
  refine Classical.byContradiction fun hn => h4 ?_
  rw [show ((f.toNat : Nat) : Int) = f by omega, show ((t.toNat : Nat) : Int) = t by omega]
  exact hl.past hd (rchL_mem h1).1 hf hn
theorem mst_len {us : List (List Int)} {f t m : Int} {l u w : List Int} (hl : IsLeast us f t l) (hm : m ∈ l) (hu : IsLeast us f m u) (hw : IsLeast us m t w) : u.length + w.length = l.length + 1 := by
  obtain ⟨l1, l2, h1, h2, h3⟩ := hl.1.part hm
  obtain ⟨l', h4, h5⟩ := hu.1.join hw.1
  have g1 : u.length ≤ l1.length := by
    rcases hu.2 l1 h1 with e | e
    · rw [e]; exact Nat.le_refl _
    · exact e.le
  have g2 : w.length ≤ l2.length := by
    rcases hw.2 l2 h2 with e | e
    · rw [e]; exact Nat.le_refl _
    · exact e.le
  have g3 : l.length ≤ l'.length := by
    rcases hl.2 l' h4 with e | e
    · rw [e]; exact Nat.le_refl _
    · exact e.le
  omega
theorem mst_ned {us : List (List Int)} (hd : DownL us) {f t e : Int} (hf : 0 ≤ f) (h : e = 0 ↔ Rch us f t) : decide (e = 0) = (decide (f = t) || decide (t ∈ nedL us f.toNat)) := by
  have hff : ((f.toNat : Nat) : Int) = f := by omega
  by_cases hr : Rch us f t
  · have h1 := hr.le hd hf
    rw [decide_eq_true (h.2 hr)]
    by_cases e2 : f = t
    · simp [e2]
    · have : t ∈ nedL us f.toNat := nedL_mem.2 ⟨h1.1, by omega, by rw [hff]; exact hr⟩
      simp [this]
  · rw [decide_eq_false (fun e => hr (h.1 e))]
    have h1 : ¬ f = t := fun e => hr (e ▸ .refl _)
    have h2 : t ∉ nedL us f.toNat := fun e => hr (by have := (nedL_mem.1 e).2.2; rwa [hff] at this)
    simp [h1, h2]
end Go.Proofs.YtnpgmdffjemnbaaGreatDoor
set_option maxHeartbeats 8000000
set_option maxRecDepth 100000
namespace Go.Proofs.YtnpgmdffjemnbaaGreatDoor
open Go.RowKit
theorem call_22 : CallOk Tryz.prog 22 := callOk Tryz.func22 rfl rfl
theorem law_Must {J : World → Prop} (hJ : Stab J) (d : Db) (ua : UInt8) (ub : UInt8) (hw : ∀ f ∈ d.frames, f.wide.length * 32 ≤ 140737488351232) (hG : FormsJ J) : Fn Tryz.prog J 4 [.agg (dbC d), .rd (.lit (.int .u8 (ua.toNat : Int))), .rd (.lit (.int .u8 (ub.toNat : Int)))] (.bool true) := by
 refine fn_enter (N := 177) Tryz.func4 rfl rfl (lb rfl) fun S w0 hS hJ0 => ?_
 refine tw st_own ?_
 refine k_seq (rgo tb hJ [1, 2, 1000] [_, _] [0] [(_, _), (_, _), (_, .ptr (dbC d))] rfl rfl rfl rfl ⟨fun _ _ hk hx hl _ => r_box rfl (hl.env 0 0 _ rfl rfl) (xo_new hS _ hk hx _ (Nat.le_refl _)) (jo hJ hx), trivial⟩ (nx (k_seq (k_seq (rgo tb hJ [0, 1, 2, 1008] [_, .bool (rightD d), _, _, _, _, .int (((d.frames.length : Nat) : Int)), _, _] [1, 6] [(_, _), (_, _), (_, _), (_, .bool ((!(rightD d)) || (decide (((d.frames.length : Nat) : Int) = (0 : Int)))))] rfl rfl rfl rfl ⟨hFo hS hJ (w_right hJ (d := d) (by exact hw) (by exact hG)) call_21 rfl rfl rfl rfl, fun _ _ _ hx hl hc => r_lenM unds_23_59 rfl (hl.dep 5 29 _ rfl rfl rfl hc) hx, trivial⟩ (nx (tc 3 rfl rfl (fun hb1 => ?_) (fun hb1 => ?_))))))))
 ·
  refine k_seq (rgo tb hJ [1001] [.bool true, _] [0] [(_, .bool true)] rfl rfl rfl rfl ⟨hFo hS hJ (w_awake hJ  (by exact hG)) call_9 rfl rfl rfl rfl, trivial⟩ (nx (tr_ret (fun a w h => leave1' (m := 0) rfl (st_disown h) rfl rfl))))
 ·
  have e1 : rightD d = true ∧ ¬ d.frames.length = 0 := by simp only [Bool.or_eq_false_iff, Bool.not_eq_false', decide_eq_false_iff_not] at hb1; exact ⟨hb1.1, by omega⟩
  have e0 := rightD_chk e1.1
  have e1n := rightD_len e1.1
  have hul := usL_len d d.frames.length
  obtain ⟨F, hFe⟩ : ∃ F : Int, ((ua.toNat : Nat) : Int) % ((d.frames.length : Nat) : Int) = F := ⟨_, rfl⟩
  obtain ⟨T, hTe⟩ : ∃ T : Int, ((ub.toNat : Nat) : Int) % ((d.frames.length : Nat) : Int) = T := ⟨_, rfl⟩
  have hFr : 0 ≤ F ∧ F < d.frames.length := by rw [← hFe]; exact ⟨Int.emod_nonneg _ (by omega), Int.emod_lt_of_pos _ (by omega)⟩
  have hTr : 0 ≤ T ∧ T < d.frames.length := by rw [← hTe]; exact ⟨Int.emod_nonneg _ (by omega), Int.emod_lt_of_pos _ (by omega)⟩
  have e2 := rdE_in (f := F) (t := T) e0 hFr hTr
  have e4 := chdE_in (d := d) (i := F) e0 hFr.1 hFr.2
  have e5 : decide (mstE d F T = 0) = (decide (F = T) || decide (T ∈ if chdE d F = 0 then nedL (usL d d.frames.length) F.toNat else [])) := by rw [if_pos e4]; exact mst_ned (usL_down _ _) hFr.1 (mstE_iff e2).1
  refine tr_skip (nx (k_seq (rgo tb hJ [2, 1003, 1009, 1012, 1013] [_, .int (((ua.toNat : Nat) : Int)), _, _, .int (((d.frames.length : Nat) : Int)), .int ((((ua.toNat : Nat) : Int) % ((d.frames.length : Nat) : Int))), _, .int (((ub.toNat : Nat) : Int)), _, _, .int (((d.frames.length : Nat) : Int)), .int ((((ub.toNat : Nat) : Int) % ((d.frames.length : Nat) : Int))), _, _] [1, 4, 5, 7, 10, 11] [(_, _), (_, .rd (frsC d.frames)), (_, .rd (frsC d.frames)), (_, .int ((((ua.toNat : Nat) : Int) % ((d.frames.length : Nat) : Int)))), (_, .int ((((ub.toNat : Nat) : Int) % ((d.frames.length : Nat) : Int))))] rfl rfl rfl rfl ⟨fun _ _ _ hx hl _ => r_convI undi_5_u8 undi_3_i64 rfl (hl.dep 0 34 _ rfl rfl rfl rfl) hx, hLen unds_23_59 rfl rfl rfl rfl, fun _ _ _ hx hl _ => r_rem rfl (hl.dep 1 35 _ rfl rfl rfl rfl) (hl.dep 4 38 _ rfl rfl rfl rfl) (by omega) (by omega) hx, fun _ _ _ hx hl _ => r_convI undi_5_u8 undi_3_i64 rfl (hl.dep 6 40 _ rfl rfl rfl rfl) hx, hLen unds_23_59 rfl rfl rfl rfl, fun _ _ _ hx hl _ => r_rem rfl (hl.dep 7 41 _ rfl rfl rfl rfl) (hl.dep 10 44 _ rfl rfl rfl rfl) (by omega) (by omega) hx, trivial⟩ ?_)))
  refine kw (sa 3 rfl (congrArg AV.int (show (((ua.toNat : Nat) : Int) % ((d.frames.length : Nat) : Int)) = F from hFe))) ?_
  refine kw (sa 4 rfl (congrArg AV.int (show (((ub.toNat : Nat) : Int) % ((d.frames.length : Nat) : Int)) = T from hTe))) ?_
  refine nx (tr_fact (fun a w h => len_le h 1 rfl) fun hl1 => k_seq (rgo tb hJ [0, 3, 4, 1005, 1007, 1008] [_, _, _, .tup [.rd (intsC ((if mstE d F T = 0 then chL (usL d d.frames.length) F T else []))), .int (mstE d F T)], _, _, _, _, _] [3] [(_, _), (_, _), (_, _), (_, .rd (intsC ((if mstE d F T = 0 then chL (usL d d.frames.length) F T else [])))), (_, .rd (intsC ((if mstE d F T = 0 then chL (usL d d.frames.length) F T else [])))), (_, .int (mstE d F T))] rfl rfl rfl rfl ⟨hFo hS hJ (p_Chain hJ (d := d) (f := F) (t := T) (by exact hw) (by exact hG)) call_22 rfl rfl rfl rfl, trivial⟩ (nx (tr_fact (fun a w h => len_le h 3 rfl) fun hl2 => k_seq (rgo tb hJ [0, 1, 2, 4, 5, 1005, 1007, 1008] [_, _, _, .tup [.rd (intsC ((if mstE d F T = 0 then mstL (usL d d.frames.length) F.toNat T.toNat else []))), .int (mstE d F T)], _, _, _, _, _] [3] [(_, _), (_, _), (_, _), (_, _), (_, _), (_, .rd (intsC ((if mstE d F T = 0 then mstL (usL d d.frames.length) F.toNat T.toNat else [])))), (_, .rd (intsC ((if mstE d F T = 0 then mstL (usL d d.frames.length) F.toNat T.toNat else [])))), (_, .int (mstE d F T))] rfl rfl rfl rfl ⟨hFo hS hJ (p_Must hJ (d := d) (f := F) (t := T) (by exact hw) (by exact hG)) call_23 rfl rfl rfl rfl, trivial⟩ (nx (tr_fact (fun a w h => len_le h 5 rfl) fun hl3 => k_seq (tr_text (sv (av := .agg (dbC d)) tb rfl rfl rfl rfl ?_)))))))))
  refine sv tb rfl rfl rfl rfl (sq_fn (O := []) (R := []) (p_Needs hJ (d := d) (i := F) (by exact hw) (by exact hG)) call_15 rfl rfl rfl (lb rfl) hS hJ0 has_nil (fun a w h => (relL_cons (h.get 1 rfl) (relL_cons (h.get 0 rfl) relL_nil))) fun z1 => ?_)
  refine sv tb rfl rfl rfl rfl (sv tb rfl rfl rfl rfl (sv tb rfl rfl rfl rfl (sv tb rfl rfl rfl rfl (sv tb rfl rfl rfl rfl (sq_end ?_)))))
  refine kw (lz [1, 8, 9, 10, 11, 12, 14, 15] (env' := [(_, _), (_, _), (_, _), (_, _), (_, _), (_, _), (_, _), (_, _)]) rfl) ?_
  refine nx (k_seq (k_seq ?_))
  refine tw (fun h => st_freeze hS h (m := 0) (s := 13) rfl) ?_
  refine rgo tb hJ [1, 2, 3, 4, 5, 6, 1015] [_, _, _, _, _, _, _, _, _, _, _, _, .bool (decide (T ∈ (((if chdE d F = 0 then nedL (usL d d.frames.length) F.toNat else []))))), _, .bool (!((decide (mstE d F T = (0 : Int))) == ((decide (F = T)) || (decide (T ∈ (((if chdE d F = 0 then nedL (usL d d.frames.length) F.toNat else [])))))))), _] [12, 14] [(_, _), (_, _), (_, _), (_, _), (_, _), (_, _), (_, .bool ((!decide (mstE d F T = mstE d F T)) || (!((decide (mstE d F T = (0 : Int))) == ((decide (F = T)) || (decide (T ∈ (((if chdE d F = 0 then nedL (usL d d.frames.length) F.toNat else []))))))))))] rfl rfl rfl rfl ⟨fun _ _ hk hx hl hc => r_fn (p_ContainsI hJ (xs := (((if chdE d F = 0 then nedL (usL d d.frames.length) F.toNat else [])))) (n := T) ) call_24 rfl (xo_new hS _ hk hx) (hx.1) (relL_cons (hl.dep 10 76 _ rfl rfl rfl hc) (relL_cons (hl.dep 11 77 _ rfl rfl rfl hc) relL_nil)) (jo hJ hx), fun _ _ _ hx hl hc => r_neqB undb_4 rfl (hl.dep 5 71 _ rfl rfl rfl hc) (hl.dep 13 79 _ rfl rfl rfl hc) hx, trivial⟩ (nx (tc 6 rfl rfl (fun hb2 => ?_) (fun hb2 => ?_)))
  ·
   exact False.elim (by simp [e5] at hb2)
  ·
   refine tr_skip (nx (k_seq (k_seq (rgo tb hJ [0, 1, 2, 3, 4, 5, 1001] [_, _] [] [(_, _), (_, _), (_, _), (_, _), (_, _), (_, _), (_, .bool (!decide (mstE d F T = (0 : Int))))] rfl rfl rfl rfl trivial (nx (tc 6 rfl rfl (fun hb3 => ?_) (fun hb3 => ?_)))))))
   ·
    have e6 : ¬ mstE d F T = 0 := nd_t hb3
    have e7 := (mstE_iff e2).2 e6
    refine k_seq (rgo tb hJ [1015] [_, _, _, _, .int (((((if mstE d F T = 0 then chL (usL d d.frames.length) F T else [])).length : Nat) : Int)), _, _, _, _, .int (((((if mstE d F T = 0 then mstL (usL d d.frames.length) F.toNat T.toNat else [])).length : Nat) : Int)), _, _, _, .bool true, _, _] [4, 9, 13] [(_, .bool ((((decide (mstE d F T = (5 : Int))) && (decide (((((if mstE d F T = 0 then chL (usL d d.frames.length) F T else [])).length : Nat) : Int) = (0 : Int)))) && (decide (((((if mstE d F T = 0 then mstL (usL d d.frames.length) F.toNat T.toNat else [])).length : Nat) : Int) = (0 : Int)))) && true))] rfl rfl rfl rfl ⟨fun _ _ _ hx hl hc => r_lenM unds_28_3 rfl (hl.dep 3 87 _ rfl rfl rfl hc) hx, fun _ _ _ hx hl hc => r_lenM unds_28_3 rfl (hl.dep 8 92 _ rfl rfl rfl hc) hx, fun _ _ hk hx _ hc => r_fn (w_awake hJ  (by have hc' : (((((decide (mstE d F T = (5 : Int))) && (decide (((((if mstE d F T = 0 then chL (usL d d.frames.length) F T else [])).length : Nat) : Int) = (0 : Int)))) && (decide (((((if mstE d F T = 0 then mstL (usL d d.frames.length) F.toNat T.toNat else [])).length : Nat) : Int) = (0 : Int)))) == true)) = true := hc; (try simp at hc'); (exact hG))) call_9 rfl (xo_new hS _ hk hx) (hx.1) relL_nil (jo hJ hx), trivial⟩ (nx (tr_ret (fun a w h => leave1' (m := 0) rfl (st_disown h) rfl (congrArg AV.bool (show ((((decide (mstE d F T = (5 : Int))) && (decide (((((if mstE d F T = 0 then chL (usL d d.frames.length) F T else [])).length : Nat) : Int) = (0 : Int)))) && (decide (((((if mstE d F T = 0 then mstL (usL d d.frames.length) F.toNat T.toNat else [])).length : Nat) : Int) = (0 : Int)))) && true) = true from by simp [e7]))))))
   ·
    have e6 : mstE d F T = 0 := nd_f hb3
    have hC := chain_least e6
    have hp := hC.1.pos
    have g2 := hC.1.head
    have g3 : ge (chL (usL d d.frames.length) F T) ((((chL (usL d d.frames.length) F T).length : Nat) : Int) - (1 : Int)).toNat = T := by rw [show ((((chL (usL d d.frames.length) F T).length : Nat) : Int) - (1 : Int)).toNat = (chL (usL d d.frames.length) F T).length - 1 by omega]; exact hC.1.last
    refine tw (sa 3 rfl (show (.rd (intsC ((if mstE d F T = 0 then chL (usL d d.frames.length) F T else []))) : AV) = .rd (intsC ((chL (usL d d.frames.length) F T))) from by rw [if_pos e6])) ?_
    refine tw (sa 5 rfl (show (.rd (intsC ((if mstE d F T = 0 then mstL (usL d d.frames.length) F.toNat T.toNat else []))) : AV) = .rd (intsC ((mstL (usL d d.frames.length) F.toNat T.toNat))) from by rw [if_pos e6])) ?_
    refine tr_skip (nx (tr_fact (fun a w h => len_le h 3 rfl) fun hl4 => tr_fact (fun a w h => len_le h 5 rfl) fun hl5 => k_seq (k_seq (rgo tb hJ [0, 1, 2, 3, 5, 1019] [_, .int (((((chL (usL d d.frames.length) F T)).length : Nat) : Int)), _, _, _, .ptr [.lit (.int .i64 ((ge ((chL (usL d d.frames.length) F T)) 0)))], _, _, _, _, _, _, _, .int (((((chL (usL d d.frames.length) F T)).length : Nat) : Int)), .int (((((chL (usL d d.frames.length) F T)).length : Nat) : Int) - (1 : Int)), .ptr [.lit (.int .i64 ((ge ((chL (usL d d.frames.length) F T)) (((((chL (usL d d.frames.length) F T)).length : Nat) : Int) - (1 : Int)).toNat)))], _, _, _, _] [1, 5, 13, 14, 15] [(_, _), (_, _), (_, _), (_, _), (_, _), (_, .bool (((decide (((((chL (usL d d.frames.length) F T)).length : Nat) : Int) = (0 : Int))) || (!decide ((ge ((chL (usL d d.frames.length) F T)) 0) = F))) || (!decide ((ge ((chL (usL d d.frames.length) F T)) (((((chL (usL d d.frames.length) F T)).length : Nat) : Int) - (1 : Int)).toNat) = T))))] rfl rfl rfl rfl ⟨hLen unds_28_3 rfl rfl rfl rfl, fun _ _ _ hx hl hc => r_index (i := ((0 : Nat) : Int)) elem_28_3_1 rfl (hl.dep 4 103 _ rfl rfl rfl hc) (Rel.of_lit (Go.Value.int Go.IntKind.i64 0)) (Int.natCast_nonneg _) (row_nat (xs := (chL (usL d d.frames.length) F T)) (k := 0) (by have hc' : (((decide (((((chL (usL d d.frames.length) F T)).length : Nat) : Int) = (0 : Int))) == false)) = true := hc; (try simp at hc'); (omega))) rfl hx, fun _ _ _ hx hl hc => r_lenM unds_28_3 rfl (hl.dep 12 111 _ rfl rfl rfl hc) hx, fun _ _ _ hx hl hc => r_sub (i := ((((chL (usL d d.frames.length) F T)).length : Nat) : Int)) (j := (1 : Int)) rfl (hl.dep 13 112 _ rfl rfl rfl hc) (Rel.of_lit (Go.Value.int Go.IntKind.i64 1)) (by have hc' : ((((decide (((((chL (usL d d.frames.length) F T)).length : Nat) : Int) = (0 : Int))) || (!decide ((ge ((chL (usL d d.frames.length) F T)) 0) = F))) == false)) = true := hc; (try simp at hc'); (omega)) (by have hc' : ((((decide (((((chL (usL d d.frames.length) F T)).length : Nat) : Int) = (0 : Int))) || (!decide ((ge ((chL (usL d d.frames.length) F T)) 0) = F))) == false)) = true := hc; (try simp at hc'); (omega)) hx, fun _ _ _ hx hl hc => r_index (i := ((((chL (usL d d.frames.length) F T)).length : Nat) : Int) - (1 : Int)) elem_28_3_1 rfl (hl.dep 11 110 _ rfl rfl rfl hc) (hl.dep 14 113 _ rfl rfl rfl hc) (by have hc' : ((((decide (((((chL (usL d d.frames.length) F T)).length : Nat) : Int) = (0 : Int))) || (!decide ((ge ((chL (usL d d.frames.length) F T)) 0) = F))) == false)) = true := hc; (try simp at hc'); (omega)) (row_int (xs := (chL (usL d d.frames.length) F T)) (i := ((((chL (usL d d.frames.length) F T)).length : Nat) : Int) - (1 : Int)) (by have hc' : ((((decide (((((chL (usL d d.frames.length) F T)).length : Nat) : Int) = (0 : Int))) || (!decide ((ge ((chL (usL d d.frames.length) F T)) 0) = F))) == false)) = true := hc; (try simp at hc'); (omega)) (by have hc' : ((((decide (((((chL (usL d d.frames.length) F T)).length : Nat) : Int) = (0 : Int))) || (!decide ((ge ((chL (usL d d.frames.length) F T)) 0) = F))) == false)) = true := hc; (try simp at hc'); (omega))) rfl hx, trivial⟩ (nx (tc 5 rfl rfl (fun hb4 => ?_) (fun hb4 => ?_)))))))
    ·
     exact False.elim (by rw [g3, g2] at hb4; simp at hb4; rw [hb4] at hp; simp at hp)
    ·
     refine tr_skip (nx (k_seq (k_seq (rgo tb hJ [0, 1, 2, 3, 4, 1000] [_] [] [(_, _), (_, _), (_, _), (_, _), (_, _), (_, .int (1 : Int))] rfl rfl rfl rfl trivial (nx (tr_block (tr_loop (ι := Nat) (fun (i : Nat) a w => ((1 ≤ i) ∧ (i ≤ (chL (usL d d.frames.length) F T).length)) ∧ St All (SO S []) w0 177 [(3, .ptr (dbC d)), (7, .int F), (8, .int T), (9, .rd (intsC ((chL (usL d d.frames.length) F T)))), (11, .rd (intsC ((mstL (usL d d.frames.length) F.toNat T.toNat)))), (15, .int (((i : Nat) : Int)))] (XO J S w0.heap.size []) a w) (fun (i : Nat) => ((chL (usL d d.frames.length) F T).length - i : Nat)) ?_ ?_)))))))
     ·
      intro a w h
      exact ⟨1, (show (1 ≤ 1) ∧ (1 ≤ (chL (usL d d.frames.length) F T).length) from ⟨Nat.le_refl _, hp⟩), lz [0, 1, 2, 3, 4, 5] rfl h⟩
     ·
      rintro i
      refine tr_and fun hF => ?_
      obtain ⟨f1_1, f1_2⟩ := hF
      refine k_seq (k_seq (rgo tb hJ [0, 1, 2, 3, 4, 5, 1003] [_, _, .int (((((chL (usL d d.frames.length) F T)).length : Nat) : Int)), _] [2] [(_, _), (_, _), (_, _), (_, _), (_, _), (_, _), (_, .bool (decide (((i : Nat) : Int) < ((((chL (usL d d.frames.length) F T)).length : Nat) : Int))))] rfl rfl rfl rfl ⟨hLen unds_28_3 rfl rfl rfl rfl, trivial⟩ (nx (tc 6 rfl rfl (fun hb5 => ?_) (fun hb5 => ?_)))))
      ·
       try simp at hb5
       have e21 := hC.1.steps (i - 1) (by omega)
       rw [show i - 1 + 1 = i by omega] at e21
       have e22 : (((i : Nat) : Int) - (1 : Int)).toNat = i - 1 := by omega
       have e25 := hC.1.range (usL_down _ _) hFr.1 _ (ge_mem (xs := (chL (usL d d.frames.length) F T)) (k := i - 1) (by omega))
       have e23 := chdE_in (d := d) (i := ge (chL (usL d d.frames.length) F T) (i - 1)) e0 e25.1 (by omega)
       have e24 : ge (chL (usL d d.frames.length) F T) i ∈ usesD d (ge (chL (usL d d.frames.length) F T) (i - 1)).toNat := by rw [← usL_at (d := d) (n := d.frames.length) (by omega)]; exact e21
       refine tr_skip (nx (k_seq (tr_block (k_seq (rgo tb hJ [0, 1, 2, 3, 4, 5, 1008, 1010] [_, _, _, .int (((i : Nat) : Int) - (1 : Int)), .ptr [.lit (.int .i64 ((ge ((chL (usL d d.frames.length) F T)) (((i : Nat) : Int) - (1 : Int)).toNat)))], _, .tup [.rd (intsC ((if chdE d ((ge ((chL (usL d d.frames.length) F T)) (((i : Nat) : Int) - (1 : Int)).toNat)) = 0 then usesD d ((ge ((chL (usL d d.frames.length) F T)) (((i : Nat) : Int) - (1 : Int)).toNat)).toNat else []))), .int (chdE d ((ge ((chL (usL d d.frames.length) F T)) (((i : Nat) : Int) - (1 : Int)).toNat)))], _, _, _, _, _] [3, 4, 6] [(_, _), (_, _), (_, _), (_, _), (_, _), (_, _), (_, .rd (intsC ((if chdE d ((ge ((chL (usL d d.frames.length) F T)) (((i : Nat) : Int) - (1 : Int)).toNat)) = 0 then usesD d ((ge ((chL (usL d d.frames.length) F T)) (((i : Nat) : Int) - (1 : Int)).toNat)).toNat else [])))), (_, .rd (intsC ((if chdE d ((ge ((chL (usL d d.frames.length) F T)) (((i : Nat) : Int) - (1 : Int)).toNat)) = 0 then usesD d ((ge ((chL (usL d d.frames.length) F T)) (((i : Nat) : Int) - (1 : Int)).toNat)).toNat else []))))] rfl rfl rfl rfl ⟨hSub (by first | omega | (simp; omega) | grind [ge_mem]) rfl rfl rfl rfl rfl, hIz elem_28_3_1 (by first | omega | (simp; omega) | grind [ge_mem]) (by first | omega | (simp; omega) | grind [ge_mem]) rfl rfl rfl rfl rfl rfl, hFo hS hJ (p_Uses hJ (d := d) (i := ((ge ((chL (usL d d.frames.length) F T)) (((i : Nat) : Int) - (1 : Int)).toNat))) (by exact hw) (by exact hG)) call_10 rfl rfl rfl rfl, trivial⟩ (nx (tr_fact (fun a w h => len_le h 6 rfl) fun hl6 => k_seq (rgo tb hJ [0, 1, 2, 3, 4, 5, 1006] [_, _, _, .ptr [.lit (.int .i64 ((ge ((chL (usL d d.frames.length) F T)) i)))], _, .bool (decide (((ge ((chL (usL d d.frames.length) F T)) i)) ∈ ((if chdE d ((ge ((chL (usL d d.frames.length) F T)) (((i : Nat) : Int) - (1 : Int)).toNat)) = 0 then usesD d ((ge ((chL (usL d d.frames.length) F T)) (((i : Nat) : Int) - (1 : Int)).toNat)).toNat else [])))), _] [3, 5] [(_, _), (_, _), (_, _), (_, _), (_, _), (_, _), (_, .bool (!(decide (((ge ((chL (usL d d.frames.length) F T)) i)) ∈ ((if chdE d ((ge ((chL (usL d d.frames.length) F T)) (((i : Nat) : Int) - (1 : Int)).toNat)) = 0 then usesD d ((ge ((chL (usL d d.frames.length) F T)) (((i : Nat) : Int) - (1 : Int)).toNat)).toNat else []))))))] rfl rfl rfl rfl ⟨hIx elem_28_3_1 (by first | omega | (simp; omega) | grind [ge_mem]) rfl rfl rfl rfl rfl rfl, hFo hS hJ (p_ContainsI hJ (xs := ((if chdE d ((ge ((chL (usL d d.frames.length) F T)) (((i : Nat) : Int) - (1 : Int)).toNat)) = 0 then usesD d ((ge ((chL (usL d d.frames.length) F T)) (((i : Nat) : Int) - (1 : Int)).toNat)).toNat else []))) (n := ((ge ((chL (usL d d.frames.length) F T)) i))) ) call_24 rfl rfl rfl rfl, trivial⟩ (nx (tc 6 rfl rfl (fun hb6 => ?_) (fun hb6 => ?_)))))))))))
       ·
        exact False.elim (by rw [e22, if_pos e23] at hb6; simp [e24] at hb6)
       ·
        refine tr_skip (nx (rgo tb hJ [0, 1, 2, 3, 4, 1002] [_, .int (((i + 1 : Nat) : Int)), _] [1] [(_, _), (_, _), (_, _), (_, _), (_, _), (_, .int (((i + 1 : Nat) : Int)))] rfl rfl rfl rfl ⟨hAdd (by first | omega | (simp; omega) | grind [ge_mem]) rfl rfl rfl rfl rfl, trivial⟩ ?_))
        intro a w h; change ∃ j, _ ∧ _
        exact ⟨i + 1, ⟨⟨(show 1 ≤ (i + 1) from by omega), (show (i + 1) ≤ (chL (usL d d.frames.length) F T).length from by omega)⟩, lz [0, 1, 2, 3, 4, 5] rfl h⟩, (show (chL (usL d d.frames.length) F T).length - (i + 1) < (chL (usL d d.frames.length) F T).length - i from by first | omega | (simp; omega))⟩
      ·
       try simp at hb5
       refine tr_exit (nx (k_seq (k_seq (rgo tb hJ [0, 1, 2, 3, 1000, 1001, 1002] [_, _, _] [1] [(_, _), (_, _), (_, _), (_, _), (_, .rd (intsC ((mstL (usL d d.frames.length) F.toNat T.toNat)))), (_, .int (((((mstL (usL d d.frames.length) F.toNat T.toNat)).length : Nat) : Int))), (_, .int (0 : Int))] rfl rfl rfl rfl ⟨hLen unds_28_3 rfl rfl rfl rfl, trivial⟩ (nx (tr_block (tr_loop (ι := Nat) (fun (j : Nat) a w => ((j ≤ (mstL (usL d d.frames.length) F.toNat T.toNat).length)) ∧ St All (SO S []) w0 177 [(3, .ptr (dbC d)), (7, .int F), (8, .int T), (9, .rd (intsC ((chL (usL d d.frames.length) F T)))), (142, .rd (intsC ((mstL (usL d d.frames.length) F.toNat T.toNat)))), (143, .int (((((mstL (usL d d.frames.length) F.toNat T.toNat)).length : Nat) : Int))), (144, .int (((j : Nat) : Int)))] (XO J S w0.heap.size []) a w) (fun (j : Nat) => ((mstL (usL d d.frames.length) F.toNat T.toNat).length - j : Nat)) ?_ ?_)))))))
       ·
        intro a w h
        exact ⟨0, (show (0 ≤ (mstL (usL d d.frames.length) F.toNat T.toNat).length) from Nat.zero_le _), lz [0, 1, 2, 3, 4, 5, 6] rfl h⟩
       ·
        rintro j
        refine tr_and fun hF => ?_
        have f2_1 : j ≤ (mstL (usL d d.frames.length) F.toNat T.toNat).length := hF
        refine k_seq (rgo tb hJ [0, 1, 2, 3, 4, 5, 6, 1000] [_] [] [(_, _), (_, _), (_, _), (_, _), (_, _), (_, _), (_, _), (_, .bool (decide (((j : Nat) : Int) < ((((mstL (usL d d.frames.length) F.toNat T.toNat)).length : Nat) : Int))))] rfl rfl rfl rfl trivial (nx (k_seq (tc 7 rfl rfl (fun hb7 => ?_) (fun hb7 => ?_)))))
        ·
         try simp at hb7
         have e31 : (ge (mstL (usL d d.frames.length) F.toNat T.toNat) j) ∈ (mstL (usL d d.frames.length) F.toNat T.toNat) := ge_mem (by omega)
         have e32 := mst_on (usL_down _ _) hFr.1 hTr.1 e31 hC.1
         have e36 := hC.1.range (usL_down _ _) hFr.1 _ e32
         obtain ⟨l1, l2, e37, e38, _⟩ := hC.1.part e32
         have e33 : mstE d F (ge (mstL (usL d d.frames.length) F.toNat T.toNat) j) = 0 := (mstE_iff (rdE_in e0 hFr ⟨e36.1, by omega⟩)).1.2 e37.rch
         have e34 : mstE d (ge (mstL (usL d d.frames.length) F.toNat T.toNat) j) T = 0 := (mstE_iff (rdE_in e0 ⟨e36.1, by omega⟩ hTr)).1.2 e38.rch
         have e39 := mst_len hC e32 (chain_least e33) (chain_least e34)
         have e40 := hC.1.len (usL_down _ _) hFr.1
         refine tr_skip (nx (k_seq (tr_block (k_seq (rgo tb hJ [0, 1, 2, 3, 4, 5, 6, 1002] [.ptr [.lit (.int .i64 ((ge ((mstL (usL d d.frames.length) F.toNat T.toNat)) j)))], _, _] [0] [(_, _), (_, _), (_, _), (_, _), (_, _), (_, _), (_, _), (_, .int ((ge ((mstL (usL d d.frames.length) F.toNat T.toNat)) j)))] rfl rfl rfl rfl ⟨hIx elem_28_3_1 (by first | omega | (simp; omega) | grind [ge_mem]) rfl rfl rfl rfl rfl rfl, trivial⟩ (nx (k_seq (k_seq (rgo tb hJ [0, 1, 2, 3, 4, 5, 6, 7, 1003] [_, _, .bool (decide (((ge ((mstL (usL d d.frames.length) F.toNat T.toNat)) j)) ∈ ((chL (usL d d.frames.length) F T)))), _] [2] [(_, _), (_, _), (_, _), (_, _), (_, _), (_, _), (_, _), (_, _), (_, .bool (!(decide (((ge ((mstL (usL d d.frames.length) F.toNat T.toNat)) j)) ∈ ((chL (usL d d.frames.length) F T))))))] rfl rfl rfl rfl ⟨hFo hS hJ (p_ContainsI hJ (xs := ((chL (usL d d.frames.length) F T))) (n := ((ge ((mstL (usL d d.frames.length) F.toNat T.toNat)) j))) ) call_24 rfl rfl rfl rfl, trivial⟩ (nx (tc 8 rfl rfl (fun hb8 => ?_) (fun hb8 => ?_))))))))))))
         ·
          exact False.elim (by simp [e32] at hb8)
         ·
          refine tr_skip (nx (k_seq (rgo tb hJ [0, 1, 2, 3, 4, 5, 6, 7, 1005, 1007] [_, _, _, .tup [.rd (intsC ((if mstE d F ((ge ((mstL (usL d d.frames.length) F.toNat T.toNat)) j)) = 0 then chL (usL d d.frames.length) F ((ge ((mstL (usL d d.frames.length) F.toNat T.toNat)) j)) else []))), .int (mstE d F ((ge ((mstL (usL d d.frames.length) F.toNat T.toNat)) j)))], _, _, _, _, _] [3] [(_, _), (_, _), (_, _), (_, _), (_, _), (_, _), (_, _), (_, _), (_, .rd (intsC ((if mstE d F ((ge ((mstL (usL d d.frames.length) F.toNat T.toNat)) j)) = 0 then chL (usL d d.frames.length) F ((ge ((mstL (usL d d.frames.length) F.toNat T.toNat)) j)) else [])))), (_, .rd (intsC ((if mstE d F ((ge ((mstL (usL d d.frames.length) F.toNat T.toNat)) j)) = 0 then chL (usL d d.frames.length) F ((ge ((mstL (usL d d.frames.length) F.toNat T.toNat)) j)) else []))))] rfl rfl rfl rfl ⟨hFo hS hJ (p_Chain hJ (d := d) (f := F) (t := ((ge ((mstL (usL d d.frames.length) F.toNat T.toNat)) j))) (by exact hw) (by exact hG)) call_22 rfl rfl rfl rfl, trivial⟩ (nx (tr_fact (fun a w h => len_le h 8 rfl) fun hl7 => k_seq (rgo tb hJ [0, 1, 2, 3, 4, 5, 6, 9, 1005, 1007] [_, _, _, .tup [.rd (intsC ((if mstE d ((ge ((mstL (usL d d.frames.length) F.toNat T.toNat)) j)) T = 0 then chL (usL d d.frames.length) ((ge ((mstL (usL d d.frames.length) F.toNat T.toNat)) j)) T else []))), .int (mstE d ((ge ((mstL (usL d d.frames.length) F.toNat T.toNat)) j)) T)], _, _, _, _, _] [3] [(_, _), (_, _), (_, _), (_, _), (_, _), (_, _), (_, _), (_, _), (_, .rd (intsC ((if mstE d ((ge ((mstL (usL d d.frames.length) F.toNat T.toNat)) j)) T = 0 then chL (usL d d.frames.length) ((ge ((mstL (usL d d.frames.length) F.toNat T.toNat)) j)) T else [])))), (_, .rd (intsC ((if mstE d ((ge ((mstL (usL d d.frames.length) F.toNat T.toNat)) j)) T = 0 then chL (usL d d.frames.length) ((ge ((mstL (usL d d.frames.length) F.toNat T.toNat)) j)) T else []))))] rfl rfl rfl rfl ⟨hFo hS hJ (p_Chain hJ (d := d) (f := ((ge ((mstL (usL d d.frames.length) F.toNat T.toNat)) j))) (t := T) (by exact hw) (by exact hG)) call_22 rfl rfl rfl rfl, trivial⟩ (nx (tr_fact (fun a w h => len_le h 8 rfl) fun hl8 => k_seq (rgo tb hJ [0, 1, 2, 3, 4, 5, 6, 1008] [_, .int (((((if mstE d F ((ge ((mstL (usL d d.frames.length) F.toNat T.toNat)) j)) = 0 then chL (usL d d.frames.length) F ((ge ((mstL (usL d d.frames.length) F.toNat T.toNat)) j)) else [])).length : Nat) : Int)), _, .int (((((if mstE d ((ge ((mstL (usL d d.frames.length) F.toNat T.toNat)) j)) T = 0 then chL (usL d d.frames.length) ((ge ((mstL (usL d d.frames.length) F.toNat T.toNat)) j)) T else [])).length : Nat) : Int)), .int (((((if mstE d F ((ge ((mstL (usL d d.frames.length) F.toNat T.toNat)) j)) = 0 then chL (usL d d.frames.length) F ((ge ((mstL (usL d d.frames.length) F.toNat T.toNat)) j)) else [])).length + ((if mstE d ((ge ((mstL (usL d d.frames.length) F.toNat T.toNat)) j)) T = 0 then chL (usL d d.frames.length) ((ge ((mstL (usL d d.frames.length) F.toNat T.toNat)) j)) T else [])).length : Nat) : Int)), .int (((((if mstE d F ((ge ((mstL (usL d d.frames.length) F.toNat T.toNat)) j)) = 0 then chL (usL d d.frames.length) F ((ge ((mstL (usL d d.frames.length) F.toNat T.toNat)) j)) else [])).length + ((if mstE d ((ge ((mstL (usL d d.frames.length) F.toNat T.toNat)) j)) T = 0 then chL (usL d d.frames.length) ((ge ((mstL (usL d d.frames.length) F.toNat T.toNat)) j)) T else [])).length : Nat) : Int) - (1 : Int)), _, .int (((((chL (usL d d.frames.length) F T)).length : Nat) : Int)), _] [1, 3, 4, 5, 7] [(_, _), (_, _), (_, _), (_, _), (_, _), (_, _), (_, _), (_, .bool (!decide (((((if mstE d F ((ge ((mstL (usL d d.frames.length) F.toNat T.toNat)) j)) = 0 then chL (usL d d.frames.length) F ((ge ((mstL (usL d d.frames.length) F.toNat T.toNat)) j)) else [])).length + ((if mstE d ((ge ((mstL (usL d d.frames.length) F.toNat T.toNat)) j)) T = 0 then chL (usL d d.frames.length) ((ge ((mstL (usL d d.frames.length) F.toNat T.toNat)) j)) T else [])).length : Nat) : Int) - (1 : Int) = ((((chL (usL d d.frames.length) F T)).length : Nat) : Int))))] rfl rfl rfl rfl ⟨hLen unds_28_3 rfl rfl rfl rfl, hLen unds_28_3 rfl rfl rfl rfl, hAdd (by rw [if_pos e33, if_pos e34]; omega) rfl rfl rfl rfl rfl, hSub (by rw [if_pos e33, if_pos e34]; omega) rfl rfl rfl rfl rfl, hLen unds_28_3 rfl rfl rfl rfl, trivial⟩ (nx ?_))))))))))
          refine tc 7 rfl rfl (fun hb9 => ?_) (fun hb9 => ?_)
          ·
           exact False.elim (by rw [if_pos e33, if_pos e34] at hb9; simp only [Bool.not_eq_true', decide_eq_false_iff_not] at hb9; omega)
          ·
           refine tr_skip (nx (rgo tb hJ [0, 1, 2, 3, 4, 5, 1001] [.int (((j + 1 : Nat) : Int)), _] [0] [(_, _), (_, _), (_, _), (_, _), (_, _), (_, _), (_, .int (((j + 1 : Nat) : Int)))] rfl rfl rfl rfl ⟨hAdd (by first | omega | (simp; omega) | grind [ge_mem]) rfl rfl rfl rfl rfl, trivial⟩ ?_))
           intro a w h; change ∃ j, _ ∧ _
           exact ⟨j + 1, ⟨(show ((j + 1) ≤ (mstL (usL d d.frames.length) F.toNat T.toNat).length) from by omega), lz [0, 1, 2, 3, 4, 5, 6] rfl h⟩, (show (mstL (usL d d.frames.length) F.toNat T.toNat).length - (j + 1) < (mstL (usL d d.frames.length) F.toNat T.toNat).length - j from by first | omega | (simp; omega))⟩
        ·
         try simp at hb7
         refine tr_exit (nx (k_seq (rgo tb hJ [1001] [.bool true, _] [0] [(_, .bool true)] rfl rfl rfl rfl ⟨hFo hS hJ (w_awake hJ  (by exact hG)) call_9 rfl rfl rfl rfl, trivial⟩ (nx (tr_ret (fun a w h => leave1' (m := 0) rfl (st_disown h) rfl rfl))))))

end Go.Proofs.YtnpgmdffjemnbaaGreatDoor
