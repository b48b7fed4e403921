/-
  CHAINS OF USES: the shortest, of several ones the least; a search that meets the assertions in the order of their least chains.
  CHAINS, CUT AND JOINED: a least one there is; what must be on every chain is on it, and parts it in two least ones.
  HOW FAR IT IS: the reference's table of distances; its way along it is the least chain.
  PLAIN LAW: what the reference's Chain and Must compute; levels.
  THE ENGINE: a difference of two lengths.
  PLAIN LAW: what is not needed; what ends with a mark.
  CONTRACTS: what is not needed, what is deprecated, by the reference.
  CONTRACTS of the program: what is not needed, what is deprecated.
  THE LAW DependLabels returns true.
-/
import Derived.Test.YtnpgmdffjemnbaaGreatDoorJW
import Derived.Test.YtnpgmdffjemnbaaGreatDoorJR
import Derived.Laws.StructEq
namespace Go.Proofs.YtnpgmdffjemnbaaGreatDoor

inductive IsCh (us : List (List Int)) (f : Int) : Int → List Int → Prop where
  | one : IsCh us f f [f]
  | snoc (b c : Int) (l : List Int) (h : IsCh us f b l) (hc : c ∈ ge us b.toNat) : IsCh us f c (l ++ [c])
def LL (a b : List Int) : Prop := a.length < b.length ∨ (a.length = b.length ∧ a < b)
theorem ZdI : ∀ {a b : List Int} {x y : Int}, a.length = b.length → (a < b ∨ (a = b ∧ x < y)) → a ++ [x] < b ++ [y]
  | [], [], x, y, _, h => by
    rcases h with h | ⟨_, h⟩
    · exact absurd h (by simp)
    · simpa [List.cons_lt_cons_iff] using h
  | p :: a, q :: b, x, y, hl, h => by
    simp only [List.cons_append, List.cons_lt_cons_iff]
    have hl' : a.length = b.length := by simpa using hl
    rcases h with h | ⟨h, hxy⟩
    · rw [List.cons_lt_cons_iff] at h
      rcases h with h | ⟨h, h2⟩
      · exact .inl h
      · exact .inr ⟨h, ZdI hl' (.inl h2)⟩
    · injection h with h1 h2
      exact .inr ⟨h1, ZdI hl' (.inr ⟨h2, hxy⟩)⟩
theorem LL.snoc {a b : List Int} (h : LL a b) (x y : Int) : LL (a ++ [x]) (b ++ [y]) := by
  rcases h with h | ⟨h1, h2⟩
  · exact .inl (by simpa using h)
  · exact .inr ⟨by simpa using h1, ZdI h1 (.inl h2)⟩
theorem LL.snoc_same {a : List Int} {x y : Int} (h : x < y) : LL (a ++ [x]) (a ++ [y]) := .inr ⟨by simp, ZdI rfl (.inr ⟨rfl, h⟩)⟩
theorem LL.irr {a : List Int} (h : LL a a) : False := by
  rcases h with h | ⟨_, h⟩
  · omega
  · exact List.lt_irrefl a h
theorem LL.trans {a b c : List Int} (h : LL a b) (k : LL b c) : LL a c := by
  rcases h with h | ⟨h1, h2⟩ <;> rcases k with k | ⟨k1, k2⟩
  · exact .inl (by omega)
  · exact .inl (by omega)
  · exact .inl (by omega)
  · exact .inr ⟨by omega, List.lt_trans h2 k2⟩
theorem LL.le {a b : List Int} (h : LL a b) : a.length ≤ b.length := by
  rcases h with h | ⟨h, _⟩ <;> omega
def IsLeast (us : List (List Int)) (f t : Int) (l : List Int) : Prop := IsCh us f t l ∧ ∀ l', IsCh us f t l' → l' = l ∨ LL l l'
theorem IsLeast.uniq {us : List (List Int)} {f t : Int} {a b : List Int} (ha : IsLeast us f t a) (hb : IsLeast us f t b) : a = b := by
  rcases ha.2 b hb.1 with h | h
  · exact h.symm
  · rcases hb.2 a ha.1 with k | k
    · exact k
    · exact (LL.irr (h.trans k)).elim
section
variable {us : List (List Int)} {f t : Int}
theorem IsCh.rch {l : List Int} (h : IsCh us f t l) : Rch us f t := by
  induction h with
  | one => exact .refl _
  | snoc b c l _ hc ih => exact ih.trans (.one hc)
theorem IsCh.pos {l : List Int} (h : IsCh us f t l) : 1 ≤ l.length := by
  cases h with
  | one => exact Nat.le_refl _
  | snoc => simp
theorem Za9 : IsLeast us f f [f] := by
  refine ⟨.one, fun l' h => ?_⟩
  cases h with
  | one => exact .inl rfl
  | snoc b c l h hc => exact .inr (.inl (by have := h.pos; simp; omega))
theorem IsCh.leaves {K : List Int} {l : List Int} (h : IsCh us f t l) (hf : f ∈ K) (ht : t ∉ K) : ∃ w x l0, IsCh us f w l0 ∧ w ∈ K ∧ x ∈ ge us w.toNat ∧ x ∉ K ∧ l0.length < l.length := by
  induction h with
  | one => exact absurd hf ht
  | snoc b c l h hc ih =>
    by_cases hb : b ∈ K
    · exact ⟨b, c, l, h, hb, hc, ht, by simp⟩
    · obtain ⟨w, x, l0, h1, h2, h3, h4, h5⟩ := ih hb
      exact ⟨w, x, l0, h1, h2, h3, h4, by simp; omega⟩
inductive Pth (L : List (Int × Int)) (f : Int) : Int → List Int → Prop where
  | one : Pth L f f [f]
  | snoc (v u : Int) (l : List Int) (hv : v ≠ f) (hm : Zy L v = some u) (h : Pth L f u l) : Pth L f v (l ++ [v])
theorem Pth.uniq {L : List (Int × Int)} {v : Int} {a : List Int} (h : Pth L f v a) : ∀ {b}, Pth L f v b → a = b := by
  induction h with
  | one =>
    intro b k
    cases k with
    | one => rfl
    | snoc v u l hv => exact absurd rfl hv
  | snoc v u l hv hm _ ih =>
    intro b k
    cases k with
    | one => exact absurd rfl hv
    | snoc v u' l' hv' hm' h' =>
      rw [hm] at hm'
      cases hm'
      rw [ih h']
theorem Pth.put {L : List (Int × Int)} {v k i : Int} {l : List Int} (h : Pth L f v l) (hk : Zy L k = none) : Pth (QH L k i) f v l := by
  induction h with
  | one => exact .one
  | snoc v u l hv hm _ ih =>
    refine .snoc v u l hv ?_ ih
    rw [Xs, if_neg (fun e => by rw [e, hk] at hm; cases hm)]
    exact hm
theorem Pth.pos {L : List (Int × Int)} {v : Int} {l : List Int} (h : Pth L f v l) : 1 ≤ l.length := by
  cases h <;> simp

structure BfI (us : List (List Int)) (f : Int) (L : List (Int × Int)) (E : List Int) (i : Int) (q : List Int) (j : Nat) : Prop where
  keys : L.map (·.1) = E ++ i :: q
  first : f ∈ E ++ i :: q
  nod : (E ++ i :: q).Nodup
  pth : ∀ v ∈ E ++ i :: q, ∃ l, Pth L f v l ∧ IsLeast us f v l
  ord : (E ++ i :: q).Pairwise fun u v => ∀ a b, IsLeast us f u a → IsLeast us f v b → LL a b
  clo : ∀ u ∈ E, ∀ x ∈ ge us u.toNat, x ∈ E ++ i :: q
  cloi : ∀ x ∈ (ge us i.toNat).take j, x ∈ E ++ i :: q
  par : ∀ v ∈ E ++ i :: q, v ≠ f → ∃ u, Zy L v = some u ∧ v ∈ ge us u.toNat ∧ (u ∈ E ∨ (u = i ∧ v ∈ (ge us i.toNat).take j))
variable {L : List (Int × Int)} {E q : List Int} {i k : Int} {j : Nat}
theorem BfI.start (us : List (List Int)) (f : Int) : BfI us f [(f, f)] [] f [] 0 where
  keys := rfl
  first := by simp
  nod := by simp
  pth := fun v hv => by obtain rfl : v = f := by simpa using hv
                        exact ⟨_, .one, Za9⟩
  ord := by simp
  clo := fun u hu => by cases hu
  cloi := fun x hx => by simp at hx
  par := fun v hv hn => absurd (by simpa using hv) hn
theorem BfI.met (h : BfI us f L E i q j) (v : Int) : (Zy L v).isSome = decide (v ∈ E ++ i :: q) := by rw [YL, h.keys]
theorem BfI.skip (h : BfI us f L E i q j) (hj : j < (ge us i.toNat).length) (hm : (Zy L (ge (ge us i.toNat) j)).isSome = true) : BfI us f L E i q (j + 1) :=
  { h with
    cloi := fun x hx => by
      rw [ZI hj] at hx
      rcases List.mem_append.1 hx with hx | hx
      · exact h.cloi x hx
      · rw [List.mem_singleton.1 hx]; rw [h.met] at hm; exact of_decide_eq_true hm
    par := fun v hv hn => by
      obtain ⟨u, h1, h2, h3⟩ := h.par v hv hn
      refine ⟨u, h1, h2, h3.imp id fun ⟨e, k⟩ => ⟨e, ?_⟩⟩
      rw [ZI hj]; exact List.mem_append_left _ k }
theorem BfI.add (ha : ∀ n, (ge us n).Pairwise (· < ·)) (h : BfI us f L E i q j) (hj : j < (ge us i.toNat).length) (hm : (Zy L (ge (ge us i.toNat) j)).isSome = false) : BfI us f (QH L (ge (ge us i.toNat) j) i) E i (q ++ [ge (ge us i.toNat) j]) (j + 1) := by
  generalize hk : ge (ge us i.toNat) j = k at *
  have hku : k ∈ ge us i.toNat := hk ▸ Zg hj
  have hnone : Zy L k = none := by simpa using hm
  rw [h.met] at hm
  have hnew : k ∉ E ++ i :: q := of_decide_eq_false hm
  have hkeys : E ++ i :: (q ++ [k]) = (E ++ i :: q) ++ [k] := by simp
  have hsub : ∀ {x}, x ∈ E ++ i :: q → x ∈ E ++ i :: (q ++ [k]) := fun hx => by rw [hkeys]; exact List.mem_append_left _ hx
  have hik : i ∈ E ++ i :: q := by simp
  have hkf : k ≠ f := fun e => hnew (e ▸ h.first)
  obtain ⟨pi, hpi, hli⟩ := h.pth i hik
  -- i stands ahead of all that wait
  have hq : ∀ u ∈ q, ∀ b, IsLeast us f u b → LL pi b := fun u hu b hb => by
    have h1 := (List.pairwise_append.1 h.ord).2.1
    exact (List.pairwise_cons.1 h1).1 u hu pi b hli hb
  have hE : ∀ u ∈ E, ∀ b, IsLeast us f u b → LL b pi := fun u hu b hb => (List.pairwise_append.1 h.ord).2.2 u hu i (List.mem_cons_self ..) b pi hb hli
  have hlk : IsLeast us f k (pi ++ [k]) := by
    refine ⟨.snoc i k pi hli.1 hku, fun l' hl' => ?_⟩
    cases hl' with
    | one => exact absurd rfl hkf
    | snoc u _ l hu hc =>
      by_cases hin : u ∈ E ++ i :: q
      · rcases List.mem_append.1 hin with hin | hin
        · exact absurd (h.clo u hin k hc) hnew
        · rcases List.mem_cons.1 hin with rfl | hin
          · rcases hli.2 l hu with e | e
            · exact .inl (by rw [e])
            · exact .inr (e.snoc _ _)
          · obtain ⟨pu, _, hlu⟩ := h.pth u (by simp [hin])
            have h1 := hq u hin pu hlu
            rcases hlu.2 l hu with e | e
            · exact .inr ((e ▸ h1).snoc _ _)
            · exact .inr ((h1.trans e).snoc _ _)
      · obtain ⟨w, x, l0, h1, h2, h3, h4, h5⟩ := hu.leaves h.first hin
        obtain ⟨pw, _, hlw⟩ := h.pth w h2
        have hle : pi.length ≤ pw.length := by
          rcases List.mem_append.1 h2 with h2 | h2
          · exact absurd (h.clo w h2 x h3) h4
          · rcases List.mem_cons.1 h2 with rfl | h2
            · rw [hlw.uniq hli]; exact Nat.le_refl _
            · exact (hq w h2 pw hlw).le
        have hle2 : pw.length ≤ l0.length := by
          rcases hlw.2 l0 h1 with e | e
          · rw [e]; exact Nat.le_refl _
          · exact e.le
        exact .inr (.inl (by simp; omega))
  refine ⟨?_, hsub h.first, ?_, ?_, ?_, fun u hu x hx => hsub (h.clo u hu x hx), ?_, ?_⟩
  · rw [ZeP, h.keys, if_neg hnew, hkeys]
  · rw [hkeys]
    exact List.nodup_append.2 ⟨h.nod, by simp, fun a ha' b hb e => hnew (by rw [← List.mem_singleton.1 hb, ← e]; exact ha')⟩
  · intro v hv
    rw [hkeys] at hv
    rcases List.mem_append.1 hv with hv | hv
    · obtain ⟨l, h1, h2⟩ := h.pth v hv
      exact ⟨l, h1.put hnone, h2⟩
    · rw [List.mem_singleton.1 hv]
      exact ⟨_, .snoc k i pi hkf (by rw [Xs, if_pos rfl]) (hpi.put hnone), hlk⟩
  · rw [hkeys, List.pairwise_append]
    refine ⟨h.ord, by simp, fun v hv b hb => ?_⟩
    rw [List.mem_singleton.1 hb]
    intro a c hla hlc
    rw [hlc.uniq hlk]
    by_cases hvf : v = f
    · subst hvf
      rw [hla.uniq Za9]
      exact .inl (by have := hpi.pos; simp; omega)
    · obtain ⟨u, h1, h2, h3⟩ := h.par v hv hvf
      obtain ⟨pv, hpv, hlv⟩ := h.pth v hv
      rw [hla.uniq hlv]
      cases hpv with
      | one => exact absurd rfl hvf
      | snoc _ u' pu _ hm' hpu =>
        rw [h1] at hm'
        cases hm'
        rcases h3 with h3 | ⟨rfl, h3⟩
        · obtain ⟨pu', hpu', hlu'⟩ := h.pth u (List.mem_append_left _ h3)
          rw [hpu.uniq hpu']
          exact (hE u h3 pu' hlu').snoc _ _
        · rw [hpu.uniq hpi]
          refine LL.snoc_same ?_
          obtain ⟨j', hj', e⟩ := Y6 h3
          rw [List.length_take] at hj'
          have h4 := List.pairwise_iff_getElem.1 (ha u.toNat) j' j (by omega) hj (by omega)
          rw [← hk, ← e, Xz hj, ge, List.getD_eq_getElem?_getD, List.getElem?_take, if_pos (by omega), List.getElem?_eq_getElem (by omega)]
          exact h4
  · intro x hx
    rw [ZI hj, hk] at hx
    rcases List.mem_append.1 hx with hx | hx
    · exact hsub (h.cloi x hx)
    · rw [List.mem_singleton.1 hx]; simp
  · intro v hv hn
    rw [hkeys] at hv
    rcases List.mem_append.1 hv with hv | hv
    · obtain ⟨u, h1, h2, h3⟩ := h.par v hv hn
      refine ⟨u, ?_, h2, h3.imp id fun ⟨e, g⟩ => ⟨e, by rw [ZI hj]; exact List.mem_append_left _ g⟩⟩
      rw [Xs, if_neg fun e : v = k => hnew (e ▸ hv)]
      exact h1
    · rw [List.mem_singleton.1 hv]
      exact ⟨i, by rw [Xs, if_pos rfl], hku, .inr ⟨rfl, by rw [ZI hj, hk]; simp⟩⟩
structure Bf (us : List (List Int)) (f t : Int) (L : List (Int × Int)) (q : List Int) : Prop where
  more : ∀ i r, q = i :: r → ∃ E, BfI us f L E i r 0
  empty : q = [] → ∃ E i, BfI us f L E i [] (ge us i.toNat).length
theorem Bf.start (us : List (List Int)) (f t : Int) : Bf us f t [(f, f)] [f] :=
  ⟨fun i r e => by cases e; exact ⟨[], BfI.start us _⟩, fun e => by cases e⟩
theorem BfI.done (h : BfI us f L E i q j) (hj : (ge us i.toNat).length ≤ j) : Bf us f t L q := by
  have htk : (ge us i.toNat).take j = ge us i.toNat := List.take_of_length_le hj
  have hcl := h.cloi
  have hpar := h.par
  rw [htk] at hcl hpar
  constructor
  · rintro i2 r rfl
    have e : E ++ i :: i2 :: r = (E ++ [i]) ++ i2 :: r := by simp
    refine ⟨E ++ [i], e ▸ h.keys, e ▸ h.first, e ▸ h.nod, e ▸ h.pth, e ▸ h.ord, fun u hu x hx => ?_, fun x hx => by simp at hx, fun v hv hn => ?_⟩
    · rw [← e]
      rcases List.mem_append.1 hu with hu | hu
      · exact h.clo u hu x hx
      · rw [List.mem_singleton.1 hu] at hx; exact hcl x hx
    · rw [← e] at hv
      obtain ⟨u, h1, h2, h3⟩ := hpar v hv hn
      refine ⟨u, h1, h2, .inl ?_⟩
      rcases h3 with h3 | ⟨rfl, _⟩
      · exact List.mem_append_left _ h3
      · simp
  · rintro rfl
    exact ⟨E, i, { h with cloi := by rw [List.take_length]; exact hcl, par := by rw [List.take_length]; exact hpar }⟩
theorem Bf.closed (h : Bf us f t L []) {x : Int} (hr : Rch us f x) : (Zy L x).isSome = true := by
  obtain ⟨E, i, hb⟩ := h.empty rfl
  rw [hb.met]
  have key : ∀ {a b : Int}, Rch us a b → a ∈ E ++ [i] → b ∈ E ++ [i] := fun {a b} h => by
    induction h with
    | refl => exact id
    | step a x y hx _ ih =>
      intro ha
      refine ih ?_
      rcases List.mem_append.1 ha with ha | ha
      · exact hb.clo a ha x hx
      · rw [List.mem_singleton.1 ha] at hx
        exact hb.cloi x (by rw [List.take_length]; exact hx)
  exact decide_eq_true (key hr hb.first)
theorem Bf.empty_chain (h : Bf us f t L []) (hm : (Zy L t).isSome = true) : ∃ l, Pth L f t l ∧ IsLeast us f t l := by
  obtain ⟨E, i, hb⟩ := h.empty rfl
  rw [hb.met] at hm
  exact hb.pth t (of_decide_eq_true hm)
theorem BfI.chain (h : BfI us f L E i q j) : ∃ l, Pth L f i l ∧ IsLeast us f i l := h.pth i (by simp)
theorem BfI.here (h : BfI us f L E i q j) : (Zy L i).isSome = true := by rw [h.met]; simp
theorem BfI.size (h : BfI us f L E i q j) {n : Nat} (hb : ∀ v ∈ E ++ i :: q, 0 ≤ v ∧ v < n) : (E ++ i :: q).length ≤ n := by
  have hsub : E ++ i :: q ⊆ (List.range n).map fun (p : Nat) => (p : Int) := fun v hv => by
    have := hb v hv
    exact List.mem_map.2 ⟨v.toNat, List.mem_range.2 (by omega), by omega⟩
  have := h.nod.length_le_of_subset hsub
  simpa using this
theorem BfI.range (hd : Xh us) (h : BfI us f L E i q j) (hf : 0 ≤ f) : ∀ v ∈ E ++ i :: q, 0 ≤ v ∧ v ≤ f := fun v hv => by
  obtain ⟨l, _, hl⟩ := h.pth v hv
  exact hl.1.rch.le hd hf
end
open Classical in
noncomputable def chL (us : List (List Int)) (f t : Int) : List Int := if h : ∃ l, IsLeast us f t l then Classical.choose h else []
theorem Znj {us : List (List Int)} {f t : Int} {l : List Int} (h : IsLeast us f t l) : chL us f t = l := by
  have hx : ∃ l, IsLeast us f t l := ⟨l, h⟩
  unfold chL
  rw [dif_pos hx]
  exact (Classical.choose_spec hx).uniq h
section
variable {us : List (List Int)} {f t : Int} {L : List (Int × Int)} {E q : List Int} {i : Int} {j : Nat}
theorem Pth.step {z : Int} {l : List Int} (h : Pth L f z l) (hn : z ≠ f) : ∃ u l', Zy L z = some u ∧ Pth L f u l' ∧ l = l' ++ [z] := by
  cases h with
  | one => exact absurd rfl hn
  | snoc v u l hv hm h => exact ⟨u, l, hm, h, rfl⟩
theorem Pth.end {l : List Int} (h : Pth L f f l) : l = [f] := by
  cases h with
  | one => rfl
  | snoc v u l hv => exact absurd rfl hv
theorem IsCh.len (hd : Xh us) {l : List Int} (h : IsCh us f t l) (hf : 0 ≤ f) : l.length + t ≤ f + 1 ∧ 0 ≤ t := by
  induction h with
  | one => exact ⟨by simp; omega, hf⟩
  | snoc b c l h hc ih =>
    have := hd _ c hc
    simp only [List.length_append, List.length_singleton]
    omega
def Found (us : List (List Int)) (f t : Int) (L : List (Int × Int)) : Prop := ((Zy L t).isSome = true ∧ ∃ l, Pth L f t l ∧ IsLeast us f t l) ∨ ((Zy L t).isSome = false ∧ ¬ Rch us f t)
theorem Bf.found (h : Bf us f t L []) : Found us f t L := by
  cases hm : (Zy L t).isSome with
  | true => exact .inl ⟨hm, h.empty_chain hm⟩
  | false => exact .inr ⟨hm, fun hr => by rw [h.closed hr] at hm; cases hm⟩
theorem BfI.found (h : BfI us f L E i q j) (e : i = t) : Found us f t L := e ▸ .inl ⟨h.here, h.chain⟩
end
end Go.Proofs.YtnpgmdffjemnbaaGreatDoor
namespace Go.Proofs.YtnpgmdffjemnbaaGreatDoor

section
variable {us : List (List Int)} {f t m : Int}
theorem IsCh.part {l : List Int} (h : IsCh us f t l) (hm : m ∈ l) : ∃ l1 l2, IsCh us f m l1 ∧ IsCh us m t l2 ∧ l1.length + l2.length = l.length + 1 := by
  induction h with
  | one =>
    obtain rfl : m = f := by simpa using hm
    exact ⟨[m], [m], .one, .one, rfl⟩
  | snoc b c l h hc ih =>
    by_cases hl : m ∈ l
    · obtain ⟨l1, l2, h1, h2, h3⟩ := ih hl
      exact ⟨l1, l2 ++ [c], h1, .snoc b c l2 h2 hc, by simp; omega⟩
    · obtain rfl : m = c := by
        rcases List.mem_append.1 hm with h | h
        · exact absurd h hl
        · exact List.mem_singleton.1 h
      exact ⟨l ++ [m], [m], .snoc b m l h hc, .one, by simp⟩
theorem IsCh.cons {x : Int} {l : List Int} (hx : x ∈ ge us f.toNat) (h : IsCh us x t l) : IsCh us f t (f :: l) := by
  induction h with
  | one => exact .snoc f x [f] .one hx
  | snoc b c l _ hc ih => exact .snoc b c (f :: l) ih hc
theorem IsCh.uncons {l : List Int} (h : IsCh us f t l) : (f = t ∧ l = [f]) ∨ ∃ x l', x ∈ ge us f.toNat ∧ IsCh us x t l' ∧ l = f :: l' := by
  induction h with
  | one => exact .inl ⟨rfl, rfl⟩
  | snoc b c l h hc ih =>
    rcases ih with ⟨rfl, rfl⟩ | ⟨x, l', h1, h2, rfl⟩
    · exact .inr ⟨c, [c], hc, .one, rfl⟩
    · exact .inr ⟨x, l' ++ [c], h1, .snoc b c l' h2 hc, rfl⟩
theorem IsCh.head {l : List Int} (h : IsCh us f t l) : ge l 0 = f := by
  rcases h.uncons with ⟨_, rfl⟩ | ⟨x, l', _, _, rfl⟩ <;> rfl
theorem IsCh.range (hd : Xh us) (hf : 0 ≤ f) {l : List Int} (h : IsCh us f t l) : ∀ x ∈ l, 0 ≤ x ∧ x ≤ f := fun x hx => by
  obtain ⟨l1, l2, h1, _, _⟩ := h.part hx
  exact h1.rch.le hd hf
theorem LL.cons {a b : List Int} (h : LL a b) (x : Int) : LL (x :: a) (x :: b) := by
  rcases h with h | ⟨h1, h2⟩
  · exact .inl (by simpa using h)
  · exact .inr ⟨by simpa using h1, by rw [List.cons_lt_cons_iff]; exact .inr ⟨rfl, h2⟩⟩
theorem LL.total (a b : List Int) : a = b ∨ LL a b ∨ LL b a := by
  rcases Nat.lt_trichotomy a.length b.length with h | h | h
  · exact .inr (.inl (.inl h))
  · have key : ∀ (a b : List Int), a.length = b.length → a = b ∨ a < b ∨ b < a := by
      intro a
      induction a with
      | nil => intro b hb; exact .inl (List.eq_nil_of_length_eq_zero hb.symm).symm
      | cons x a ih =>
        intro b hb
        match b, hb with
        | y :: b, hb =>
          rcases Int.lt_trichotomy x y with h | h | h
          · exact .inr (.inl (by rw [List.cons_lt_cons_iff]; exact .inl h))
          · subst h
            rcases ih b (by simpa using hb) with h | h | h
            · exact .inl (by rw [h])
            · exact .inr (.inl (by rw [List.cons_lt_cons_iff]; exact .inr ⟨rfl, h⟩))
            · exact .inr (.inr (by rw [List.cons_lt_cons_iff]; exact .inr ⟨rfl, h⟩))
          · exact .inr (.inr (by rw [List.cons_lt_cons_iff]; exact .inl h))
    rcases key a b h with e | e | e
    · exact .inl e
    · exact .inr (.inl (.inr ⟨h, e⟩))
    · exact .inr (.inr (.inr ⟨h.symm, e⟩))
  · exact .inr (.inr (.inl h))
theorem LL.best : ∀ (C : List (List Int)), C ≠ [] → ∃ b ∈ C, ∀ a ∈ C, a = b ∨ LL b a
  | [], h => absurd rfl h
  | [c], _ => ⟨c, by simp, fun a ha => .inl (by simpa using ha)⟩
  | c :: d :: C, _ => by
    obtain ⟨b, hb, hmin⟩ := LL.best (d :: C) (by simp)
    rcases LL.total c b with e | e | e
    · exact ⟨b, List.mem_cons_of_mem _ hb, fun a ha => by
        rcases List.mem_cons.1 ha with rfl | ha
        · exact .inl e
        · exact hmin a ha⟩
    · exact ⟨c, by simp, fun a ha => by
        rcases List.mem_cons.1 ha with rfl | ha
        · exact .inl rfl
        · rcases hmin a ha with rfl | h
          · exact .inr e
          · exact .inr (e.trans h)⟩
    · exact ⟨b, List.mem_cons_of_mem _ hb, fun a ha => by
        rcases List.mem_cons.1 ha with rfl | ha
        · exact .inr e
        · exact hmin a ha⟩
open Classical in
theorem Zcg (hd : Xh us) : ∀ (n : Nat) (f : Int), f.toNat = n → 0 ≤ f → Rch us f t → ∃ l, IsLeast us f t l := by
  intro n
  induction n using Nat.strongRecOn with
  | ind n ih =>
    intro f hn hf hr
    by_cases hft : f = t
    · exact ⟨[f], hft ▸ Za9⟩
    · have hstep : ∃ x ∈ ge us f.toNat, Rch us x t := by
        cases hr with
        | refl => exact absurd rfl hft
        | step _ x _ hx hk => exact ⟨x, hx, hk⟩
      have hex : ∀ x ∈ ge us f.toNat, Rch us x t → ∃ l, IsLeast us x t l := fun x hx hk => by
        have := hd _ x hx
        exact ih x.toNat (by omega) x rfl this.1 hk
      obtain ⟨x0, hx0, hk0⟩ := hstep
      let C : List (List Int) := ((ge us f.toNat).filter fun x => decide (Rch us x t)).map fun x => chL us x t
      have hC : C ≠ [] := by
        intro e
        have : chL us x0 t ∈ C := List.mem_map.2 ⟨x0, List.mem_filter.2 ⟨hx0, by simpa using hk0⟩, rfl⟩
        rw [e] at this
        cases this
      obtain ⟨b, hb, hmin⟩ := LL.best C hC
      obtain ⟨x, hx, rfl⟩ := List.mem_map.1 hb
      obtain ⟨hx1, hx2⟩ := List.mem_filter.1 hx
      obtain ⟨lx, hlx⟩ := hex x hx1 (by simpa using hx2)
      rw [Znj hlx] at hmin hb
      refine ⟨f :: lx, hlx.1.cons hx1, fun l' hl' => ?_⟩
      rcases hl'.uncons with ⟨e, _⟩ | ⟨y, l2, hy, hl2, rfl⟩
      · exact absurd e hft
      · obtain ⟨ly, hly⟩ := hex y hy hl2.rch
        have hmem : ly ∈ C := List.mem_map.2 ⟨y, List.mem_filter.2 ⟨hy, by simpa using hl2.rch⟩, Znj hly⟩
        have h1 : l2 = lx ∨ LL lx l2 := by
          rcases hmin ly hmem with e | e <;> rcases hly.2 l2 hl2 with e2 | e2
          · exact .inl (by rw [e2, e])
          · exact .inr (e ▸ e2)
          · exact .inr (e2 ▸ e)
          · exact .inr (e.trans e2)
        rcases h1 with e | e
        · exact .inl (by rw [e])
        · exact .inr (e.cons _)
end
end Go.Proofs.YtnpgmdffjemnbaaGreatDoor
namespace Go.Proofs.YtnpgmdffjemnbaaGreatDoor

def FarOk (us : List (List Int)) (t x v : Int) : Prop := (v = -1 ∧ ¬ Rch us x t) ∨ ∃ l, IsLeast us x t l ∧ v = (l.length : Int) - 1
theorem IsLeast.short {us : List (List Int)} {f t : Int} {l l' : List Int} (h : IsLeast us f t l) (h' : IsCh us f t l') : l.length ≤ l'.length := by
  rcases h.2 l' h' with e | e
  · rw [e]; exact Nat.le_refl _
  · exact e.le
theorem ZhZ {us : List (List Int)} (hd : Xh us) (ha : ∀ n, (ge us n).Pairwise (· < ·)) {c t : Int} {r : List Int} (h : IsLeast us c t r) (hn : c ≠ t) {fr : Int → Int} (hf : ∀ x ∈ ge us c.toNat, FarOk us t x (fr x)) {k : Nat} (hk : k < (ge us c.toNat).length) (hfk : fr (ge (ge us c.toNat) k) = (r.length : Int) - 2) (hmin : ∀ j, j < k → fr (ge (ge us c.toNat) j) ≠ (r.length : Int) - 2) :
    ∃ r', r = c :: r' ∧ IsLeast us (ge (ge us c.toNat) k) t r' := by
  rcases h.1.uncons with ⟨e, _⟩ | ⟨y, r', hy, hr', rfl⟩
  · exact absurd e hn
  · have hkm := Zg hk
    obtain ⟨lk, hlk, hlen⟩ : ∃ lk, IsLeast us (ge (ge us c.toNat) k) t lk ∧ fr (ge (ge us c.toNat) k) = (lk.length : Int) - 1 := by
      rcases hf _ hkm with ⟨h1, _⟩ | h1
      · rw [List.length_cons] at hfk
        have := hr'.pos
        omega
      · exact h1
    rw [List.length_cons] at hfk hmin
    have hle : lk.length = r'.length := by omega
    -- y's own chain is as short
    obtain ⟨ly, hly⟩ := Zcg hd y.toNat y rfl (hd _ y hy).1 hr'.rch
    have hch : IsCh us c t (c :: ly) := hly.1.cons hy
    have hly2 : ly.length = r'.length := by
      have g1 := hly.short hr'
      have g2 := h.short hch
      simp only [List.length_cons] at g2
      omega
    have hfy : fr y = (r'.length : Int) - 1 := by
      rcases hf y hy with ⟨_, h2⟩ | ⟨l2, hl2, e⟩
      · exact absurd hr'.rch h2
      · rw [e, hl2.uniq hly, hly2]
    obtain ⟨j, hj, rfl⟩ := Y6 hy
    have hjk : ¬ j < k := fun hjk => hmin j hjk (by rw [hfy]; omega)
    have heq : ge (ge us c.toNat) j = ge (ge us c.toNat) k := by
      refine Classical.byContradiction fun hne => ?_
      have hkj : k < j := by
        rcases Nat.lt_or_ge k j with h | h
        · exact h
        · exact absurd (by rw [show j = k by omega]) hne
      have hlt := List.pairwise_iff_getElem.1 (ha c.toNat) k j hk hj hkj
      rw [← Xz hk, ← Xz hj] at hlt
      -- the chain by the k-th is as long and less
      have hck : IsCh us c t (c :: lk) := hlk.1.cons hkm
      have hhead1 := hlk.1.head
      have hhead2 := hr'.head
      have hless : LL (c :: lk) (c :: r') := by
        refine LL.cons (.inr ⟨hle, ?_⟩) c
        match lk, r', hhead1, hhead2, hlk.1.pos, hr'.pos with
        | p :: lk, q :: r', h1, h2, _, _ =>
          have h1' : p = _ := h1
          have h2' : q = _ := h2
          rw [List.cons_lt_cons_iff, h1', h2']
          exact .inl hlt
      rcases h.2 _ hck with e | e
      · rw [e] at hless; exact hless.irr
      · exact (hless.trans e).irr
    refine ⟨r', rfl, heq ▸ hr', fun l' hl' => ?_⟩
    have hc' : IsCh us c t (c :: l') := IsCh.cons hkm hl'
    rcases h.2 _ hc' with e | e
    · exact .inl (List.cons_inj_right c |>.1 e)
    · refine .inr ?_
      rcases e with e | ⟨e1, e2⟩
      · exact .inl (by simpa using e)
      · rw [List.cons_lt_cons_iff] at e2
        rcases e2 with e2 | ⟨_, e2⟩
        · omega
        · exact .inr ⟨by simpa using e1, e2⟩
end Go.Proofs.YtnpgmdffjemnbaaGreatDoor
namespace Go.Proofs.YtnpgmdffjemnbaaGreatDoor

theorem FarOk.val {us : List (List Int)} {t x v : Int} {r : List Int} (h : FarOk us t x v) (hl : IsLeast us x t r) : v = (r.length : Int) - 1 := by
  rcases h with ⟨_, h⟩ | ⟨l, hl2, h⟩
  · exact absurd hl.1.rch h
  · rw [h, hl.uniq hl2]
theorem ZhY {us : List (List Int)} (hd : Xh us) {c t : Int} {r : List Int} (h : IsLeast us c t r) (hn : c ≠ t) {fr : Int → Int} (hf : ∀ x ∈ ge us c.toNat, FarOk us t x (fr x)) : ∃ k, k < (ge us c.toNat).length ∧ fr (ge (ge us c.toNat) k) = (r.length : Int) - 2 := by
  rcases h.1.uncons with ⟨e, _⟩ | ⟨y, r', hy, hr', rfl⟩
  · exact absurd e hn
  · obtain ⟨ly, hly⟩ := Zcg hd y.toNat y rfl (hd _ y hy).1 hr'.rch
    have hch : IsCh us c t (c :: ly) := hly.1.cons hy
    have hly2 : ly.length = r'.length := by
      have g1 := hly.short hr'
      have g2 := h.short hch
      simp only [List.length_cons] at g2
      omega
    obtain ⟨j, hj, rfl⟩ := Y6 hy
    refine ⟨j, hj, ?_⟩
    rw [(hf _ hy).val hly, hly2, List.length_cons]
    omega
def NxtI (us : List (List Int)) (t z : Int) (r : List Int) (fr : Int → Int) (nw : Int) (j : Nat) : Prop :=
  (nw = -1 ∧ ∀ i, i < j → fr (ge (ge us z.toNat) i) ≠ (r.length : Int) - 2) ∨ (0 ≤ nw ∧ nw < z ∧ ∃ r', r = z :: r' ∧ IsLeast us nw t r')
section
variable {us : List (List Int)} {t z nw : Int} {r : List Int} {fr : Int → Int} {j : Nat}
theorem NxtI.start (us : List (List Int)) (t z : Int) (r : List Int) (fr : Int → Int) : NxtI us t z r fr (-1) 0 := .inl ⟨rfl, fun i hi => by omega⟩
theorem NxtI.hit (hd : Xh us) (ha : ∀ n, (ge us n).Pairwise (· < ·)) (hl : IsLeast us z t r) (hn : z ≠ t) (hf : ∀ x ∈ ge us z.toNat, FarOk us t x (fr x)) (hz : 0 ≤ z) (h : NxtI us t z r fr nw j) (h0 : nw < 0) (hj : j < (ge us z.toNat).length) (hm : fr (ge (ge us z.toNat) j) = (r.length : Int) - 2) : NxtI us t z r fr (ge (ge us z.toNat) j) (j + 1) := by
  rcases h with ⟨_, h2⟩ | ⟨h1, _⟩
  · have := hd _ _ (Zg hj)
    exact .inr ⟨by omega, by omega, ZhZ hd ha hl hn hf hj hm h2⟩
  · omega
theorem NxtI.done (hd : Xh us) (hl : IsLeast us z t r) (hn : z ≠ t) (hf : ∀ x ∈ ge us z.toNat, FarOk us t x (fr x)) (h : NxtI us t z r fr nw j) (he : (ge us z.toNat).length ≤ j ∨ 0 ≤ nw) : 0 ≤ nw ∧ nw < z ∧ ∃ r', r = z :: r' ∧ IsLeast us nw t r' := by
  rcases h with ⟨h1, h2⟩ | h
  · obtain ⟨k, hk, e⟩ := ZhY hd hl hn hf
    exact absurd e (h2 k (by omega))
  · exact h
end
end Go.Proofs.YtnpgmdffjemnbaaGreatDoor
namespace Go.Proofs.YtnpgmdffjemnbaaGreatDoor
section
variable {n : Rn} {P : Program} {S : Nat → Prop} {X : World → Prop} {o : Oper} {a : Act} {w : World} {t u : TypeId} {x y : Operand}
theorem Zm4 {i j : Nat} (hop : o.op = .binOp .sub t x y u) (h1 : Rel S w (.int (i : Int)) (a.eval x)) (h2 : Rel S w (.int (j : Int)) (a.eval y)) (hl : j ≤ i) (hi : i ≤ 9223372036854775807) (hx : X w) : Yg n P o a w (YB S X (.int ((i - j : Nat) : Int)) w) := by
  rw [show ((i - j : Nat) : Int) = (i : Int) - (j : Int) by omega]
  exact ZnH hop h1 h2 (by omega) (by omega) hx
end
end Go.Proofs.YtnpgmdffjemnbaaGreatDoor
namespace Go.Proofs.YtnpgmdffjemnbaaGreatDoor

def ZmR (d : Db) (l : List ByteArray) : Bool := l.any fun s => decide (ZX d s < 0)
def Zam (d : Db) (l : List ByteArray) : Int := if Xk d = 0 then (if ZmR d l then 5 else 0) else Xk d
theorem Zel {d : Db} {l : List ByteArray} {k : Nat} (h : k < l.length) (h0 : ZmR d (l.take k) = false) (h1 : ¬ ZX d (ge l k) < 0) : ZmR d (l.take (k + 1)) = false := by
  unfold ZmR at h0 ⊢
  rw [ZI h, List.any_append, h0]
  simp only [List.any_cons, List.any_nil, Bool.or_false, Bool.false_or]
  exact decide_eq_false h1
theorem Zgq {d : Db} {l : List ByteArray} {k : Nat} (h : k < l.length) (h1 : ZX d (ge l k) < 0) : ZmR d l = true := by
  unfold ZmR
  rw [List.any_eq_true]
  exact ⟨_, Zg h, decide_eq_true h1⟩
def XJ (d : Db) (l : List ByteArray) (x : Int) : Prop := ∃ s ∈ l, Rch (usL d d.frames.length) (ZX d s) x
theorem ZcU (d : Db) (x : Int) : ¬ XJ d [] x := fun ⟨_, h, _⟩ => by cases h
theorem ZbQ {d : Db} {l : List ByteArray} {k : Nat} (h : k < l.length) (x : Int) : XJ d (l.take (k + 1)) x ↔ XJ d (l.take k) x ∨ Rch (usL d d.frames.length) (ZX d (ge l k)) x := by
  unfold XJ
  rw [ZI h]
  constructor
  · rintro ⟨s, hs, hr⟩
    rcases List.mem_append.1 hs with hs | hs
    · exact .inl ⟨s, hs, hr⟩
    · rw [List.mem_singleton.1 hs] at hr; exact .inr hr
  · rintro (⟨s, hs, hr⟩ | hr)
    · exact ⟨s, List.mem_append_left _ hs, hr⟩
    · exact ⟨_, List.mem_append_right _ (List.mem_singleton.2 rfl), hr⟩
open Classical in
noncomputable def ZbR (d : Db) (l : List ByteArray) (m : Nat) : List Int := ((List.range m).filter fun (p : Nat) => decide (¬ XJ d l (p : Int))).map fun (p : Nat) => (p : Int)
theorem X5 (d : Db) (l : List ByteArray) (m : Nat) : (ZbR d l m).length ≤ m := by
  unfold ZbR
  rw [List.length_map]
  exact Nat.le_trans (List.length_filter_le _ _) (by simp)
open Classical in
theorem ZaB (d : Db) (l : List ByteArray) (m : Nat) : ZbR d l (m + 1) = ZbR d l m ++ (if XJ d l m then [] else [(m : Int)]) := by
  unfold ZbR
  rw [List.range_succ, List.filter_append, List.map_append]
  by_cases h : XJ d l m <;> simp [h]
theorem ZjI {d : Db} {l : List ByteArray} {k : Nat} {keep : List Int} (h : k < l.length) (hn : ¬ ZX d (ge l k) < 0) (hk : ∀ x, x ∈ keep ↔ XJ d (l.take k) x) :
    ∀ x, x ∈ (keep ++ [(((ZX d (ge l k)).toNat : Nat) : Int)]) ++ ZhV (usL d d.frames.length) (-1) (ZX d (ge l k)).toNat ↔ XJ d (l.take (k + 1)) x := fun x => by
  rw [ZbQ h, Zlp (ZQ _ _), List.mem_append, List.mem_append, hk, List.mem_singleton, nedL_mem, show (((ZX d (ge l k)).toNat : Nat) : Int) = ZX d (ge l k) by omega]
  constructor
  · rintro ((h | rfl) | h)
    · exact .inl h
    · exact .inr (.refl _)
    · exact .inr h.2.2
  · rintro (h | h)
    · exact .inl (.inl h)
    · have := h.le (ZQ _ _) (by omega)
      by_cases e : x = ZX d (ge l k)
      · exact .inl (.inr e)
      · exact .inr ⟨by omega, by omega, h⟩
theorem Zc1 (ts : List Int) (k : Int) : (Zy (ts.map fun x => (x, true)) k).isSome = decide (k ∈ ts) := by
  rw [YL]
  simp
theorem ZfC {ts : List Int} {k : Int} (h : (Zy (ts.map fun x => (x, true)) k).isSome = true) : k ∈ ts ∧ (Zy (ts.map fun x => (x, true)) k).getD default = true := by
  have hk : k ∈ ts := by rw [Zc1] at h; simpa using h
  refine ⟨hk, ?_⟩
  clear h
  induction ts with
  | nil => cases hk
  | cons t ts ih =>
    rw [List.map_cons, YW]
    by_cases e : k = t
    · rw [if_pos e]; rfl
    · rw [if_neg e]
      exact ih ((List.mem_cons.1 hk).resolve_left e)
theorem ZkK {ts vis : List Int} {k : Int} (h1 : vis.Nodup) (h2 : ∀ q ∈ vis, q ∈ ts) (h3 : k ∉ vis) (h4 : k ∈ ts) : ts.length - (vis ++ [k]).length < ts.length - vis.length := by
  have hn : (vis ++ [k]).Nodup := by
    rw [List.nodup_append]
    exact ⟨h1, by simp, fun x hx y hy e => by rw [List.mem_singleton.1 hy] at e; subst e; exact h3 hx⟩
  have := ZaL (ys := ts) hn fun x hx => by
    rcases List.mem_append.1 hx with h | h
    · exact h2 x h
    · rw [List.mem_singleton.1 h]; exact h4
  rw [List.length_append, List.length_singleton] at this ⊢
  omega
theorem Zek (d : Db) (i : Nat) : (ZT d i).length ≤ i := by
  unfold ZT
  split
  · exact Zej ..
  · exact Nat.zero_le _
def ZdQ (s m : ByteArray) : Bool := decide (((m.size : Nat) : Int) ≤ ((s.size : Nat) : Int)) && decide (s.extract (s.size - m.size) s.size = m)
def depP (d : Db) (i : Nat) (k : Int) : Pr := ⟨(ge d.frames i).label, (ge d.frames k.toNat).label⟩
def Zj1 (d : Db) (m : ByteArray) (i : Nat) (l : List Int) : List Pr := if ZdQ (ge d.frames i).label m then [] else (l.filter fun k => ZdQ (ge d.frames k.toNat).label m).map (depP d i)
def ZcN (d : Db) (m : ByteArray) (n : Nat) : List Pr := (List.range n).flatMap fun i => Zj1 d m i (ZT d i)
def deE (d : Db) (m : ByteArray) : Int := if Xk d = 0 then (if m = (⟨#[]⟩ : ByteArray) then 1 else 0) else Xk d
theorem Zhl (d : Db) (m : ByteArray) (i : Nat) : Zj1 d m i [] = [] := by unfold Zj1; split <;> rfl
theorem ZaR (d : Db) (m : ByteArray) (i : Nat) (l : List Int) (k : Int) : Zj1 d m i (l ++ [k]) = Zj1 d m i l ++ (if (!ZdQ (ge d.frames i).label m) && ZdQ (ge d.frames k.toNat).label m then [depP d i k] else []) := by
  unfold Zj1
  cases h1 : ZdQ (ge d.frames i).label m with
  | true => rfl
  | false =>
    rw [List.filter_append, List.map_append]
    cases h2 : ZdQ (ge d.frames k.toNat).label m <;> simp [h2]
theorem Zhk {d : Db} {m : ByteArray} {i : Nat} {l : List Int} (h : ZdQ (ge d.frames i).label m = true) : Zj1 d m i l = [] := by unfold Zj1; rw [if_pos h]
theorem Zcu (d : Db) (m : ByteArray) (n : Nat) : ZcN d m (n + 1) = ZcN d m n ++ Zj1 d m n (ZT d n) := by
  unfold ZcN
  rw [List.range_succ, List.flatMap_append]
  simp
end Go.Proofs.YtnpgmdffjemnbaaGreatDoor
set_option maxHeartbeats 8000000
set_option maxRecDepth 100000
namespace Go.Proofs.YtnpgmdffjemnbaaGreatDoor
open Go.RowKit
theorem XH : Yi Tryz.prog 49 53 2 := ⟨by kernel_rfl, fun w => by kernel_rfl⟩
theorem Zkd : Zj Tryz.prog 68 := Zp Tryz.func68 rfl rfl
theorem ZcB : Zfn Tryz.prog 53 2 := ⟨#[.string ⟨#[]⟩, .string ⟨#[]⟩], rfl, fun i => some (i * 1, 1), fun j _ => (show some (j * 1, 1) = some (j, 1) by rw [Nat.mul_one]), fun parts => by kernel_rfl⟩
theorem Zip : Zbx Tryz.prog 53 := ⟨.agg #[.string ⟨#[]⟩, .string ⟨#[]⟩], fun w => by kernel_rfl⟩
theorem Zfi : Zgm Tryz.prog 49 53 2 32 := ZoV (.agg #[.string ⟨#[]⟩, .string ⟨#[]⟩]) (by kernel_rfl) (by kernel_rfl) rfl (by decide) (fun w => by kernel_rfl)
theorem Znl {J : World → Prop} (hJ : Stab J) (s : ByteArray) (m : ByteArray)  : Fn Tryz.prog J 68 [.str s, .str m] (.bool (ZdQ s m)) := by
 refine Zn (N := 21) Tryz.func68 rfl rfl (lb rfl) fun S w0 hS hJ0 => ?_
 clear hJ0
 refine lnS 0 fun hl1 => ?_
 refine lnS 1 fun hl2 => ?_
 refine qs tb hJ [0,1] [_] [_,_] ?_
 refine hqs tb hJ [1016] [_,.int (s.size : Nat),_,.int (m.size : Nat),_,_,_,_,.int (s.size : Nat),_,.int (m.size : Nat),.int (s.size - m.size : Nat),.str (s.extract (s.size - m.size) s.size),_,_,_,_] [1,3,8,10,11,12] [_] rfl ⟨Zfo Zz, Zfo Zz, Zfo Zz, Zfo Zz, fun _ _ _ hx hl hc => Zm4 (i := s.size) (j := m.size) rfl (hl.dep 8 13 _ rfl rfl rfl hc) (hl.dep 10 15 _ rfl rfl rfl hc) (by have hc' : ((decide ((m.size : Int) ≤ (s.size : Int))) == true) = true := hc; (try simp at hc'); (omega)) (by have hc' : ((decide ((m.size : Int) ≤ (s.size : Int))) == true) = true := hc; (try simp at hc'); (omega)) hx, fun _ _ _ hx hl hc => Zdz (lo := s.size - m.size) (hi := s.size) Zz rfl (hl.dep 6 11 _ rfl rfl rfl hc) (hl.dep 11 16 _ rfl rfl rfl hc) rfl (by have hc' : ((decide ((m.size : Int) ≤ (s.size : Int))) == true) = true := hc; (try simp at hc'); (first | omega | (simp; omega) | grind [Zg])) (by have hc' : ((decide ((m.size : Int) ≤ (s.size : Int))) == true) = true := hc; (try simp at hc'); (first | omega | (simp; omega) | grind [Zg])) hx, trivial⟩ ?_
 exact Ze (rtn (m := 0) rfl rfl (eB (by first | rfl | grind [Zg])))
theorem ZmG {J : World → Prop} (hJ : Stab J) (d : Db) (l : List ByteArray) (hw : ∀ i, i < d.frames.length → (ge d.frames i).wide.length * 32 ≤ 140737488351232) (hl : l.length ≤ 40) : Fn Tryz.prog J 35 [.agg (dbC d), .rd (Zf l)] (.tup [.rd (ZJ (if Zam d l = 0 then ZbR d l d.frames.length else [])), .int (Zam d l)]) := by
 refine Zn (N := 57) Tryz.func35 rfl rfl (lb rfl) fun S w0 hS hJ0 => ?_
 refine tw Yb ?_
 refine ln 1 fun hl1 => ?_
 refine ZC tb hJ [1,1000] [.ptr (dbC d),_,_] [0] [_,_] rfl ⟨fun _ _ hk hx hl _ => Yk rfl (hl.env 0 0 _ rfl rfl) (Zo hS _ hk hx _ (Nat.le_refl _)) (jo hJ hx), trivial⟩ ?_
 refine Zd (ZC tb hJ [0,1,1002] [_,.int (Xk d),_] [1] [_,_,_] rfl ⟨iFo hS hJ (Zgf hJ (d := d) (hw)) Zf7, trivial⟩ ?_)
 refine qso tb hJ [0,1,2,1001] [_,_] [_,_,_,_] ?_
 refine cj 3 (fun hb1 => ?_) fun hb1 => ?_
 have c1 : ¬ Xk d = 0 := Q8 hb1
 have c2 : Zam d l = Xk d := if_neg c1
 refine qso tb hJ [1001,1002] [_,_,_] [_,_] ?_
 refine tw (fun h => Ys h (m := 0) (s := 4) rfl) ?_
 exact Ze (fun a w h => Ye (m := 0) (k := 1) rfl (ZK h) rfl rfl (congrArg (fun z => AV.rd (ZJ z)) (show ([] : List Int) = (if Zam d l = 0 then ZbR d l d.frames.length else []) from by first | exact c2.symm | exact c0.symm | (rw [c2, if_neg c1]; done) | (rw [c2]; rfl) | (rw [if_pos c0, f2_2, show q = d.frames.length by omega]))) (eI (by first | exact c2.symm | exact c0.symm | (rw [c2, if_neg c1]; done) | (rw [c2]; rfl) | (rw [if_pos c0, f2_2, show q = d.frames.length by omega]))))
 have e0 : Xk d = 0 := Zcd hb1
 have c3 := Xt e0
 have hul := Xl d d.frames.length
 refine Za (nx (tsq ?_))
 refine Xo Zq hJ rfl rfl rfl (lb rfl) fun v1 => ?_
 refine snK 1 tb rfl ?_
 refine seK [0,2,3] [_,_,_] rfl ?_
 refine nx (Zd (qso tb hJ [0,1,2,1000] [_] [_,_,_,_] ?_))
 refine Zb (lpo (ι := Nat × Value × (List Int)) (fun (k, _, keep) => (k ≤ l.length) ∧ (∀ x, x ∈ keep ↔ XJ d (l.take k) x) ∧ (ZmR d (l.take k) = false) ∧ (keep.length ≤ k * 401)) (fun (_, vo, keep) => [OB.row vo 3 1 (keep.map Xa)]) (fun (k, vo, _) => [(8, .int (k : Nat)), (7, .lit vo)]) (fun (k, _, _) => l.length - k) [1,2,3,0] [_,_] (0, v1, ([] : List Int)) ⟨Nat.zero_le _, fun x => by simp [ZcU], rfl, Nat.zero_le _⟩ ?_)
 rintro ⟨k, vo, keep⟩ ⟨f1_1, f1_2, f1_3, f1_4⟩
 refine Zd (ZC tb hJ [0,1,2,3,1003] [_,_,.int (l.length : Nat),_] [2] [_,_,_,_,_] rfl ⟨ZZ Zr, trivial⟩ ?_)
 refine cj 4 (fun hb2 => ?_) fun hb2 => ?_
 try simp at hb2
 refine Za (nx (Zd (Zb (ZC tb hJ [0,1,2,3,1006] [_,_,_,.ptr [.lit (.string (ge l k))],_,.int (ZX d (ge l k)),_] [3,5] [_,_,_,_,_] rfl ⟨iIx Zh, iFo hS hJ (Znm hJ (d := d) (s := (ge l k)) ) Zkf, trivial⟩ ?_))))
 refine Zd (qso tb hJ [0,1,2,3,4,1001] [_,_] [_,_,_,_,_,_] ?_)
 refine cj 5 (fun hb3 => ?_) fun hb3 => ?_
 have c2 : Zam d l = 5 := by rw [Zam, if_pos e0, if_pos (Zgq (by omega) (of_decide_eq_true hb3))]
 refine qso tb hJ [1000,1001] [_,_] [_,_] ?_
 refine tw (fun h => Ys h (m := 0) (s := 4) rfl) ?_
 exact Ze (fun a w h => Ye (m := 0) (k := 1) rfl (ZK h) rfl rfl (congrArg (fun z => AV.rd (ZJ z)) (show ([] : List Int) = (if Zam d l = 0 then ZbR d l d.frames.length else []) from by first | exact c2.symm | exact c0.symm | (rw [c2, if_neg c1]; done) | (rw [c2]; rfl) | (rw [if_pos c0, f2_2, show q = d.frames.length by omega]))) (eI (by first | exact c2.symm | exact c0.symm | (rw [c2, if_neg c1]; done) | (rw [c2]; rfl) | (rw [if_pos c0, f2_2, show q = d.frames.length by omega]))))
 have e4 := of_decide_eq_false hb3
 have e5 := Zau e4
 have e7 := ZdF (usL d d.frames.length) (-1) (ZX d (ge l k)).toNat (ZX d (ge l k)).toNat
 rw [Zlq] at e7
 refine Za (nx (tw (sa 4 rfl (congrArg AV.int (show ZX d (ge l k) = (((ZX d (ge l k)).toNat : Nat) : Int) from by omega))) ?_))
 refine fun a w h => Qi [] (γ := Value × Value) (fun ix' => ([.lit vo, .int ((ZX d (ge l k)).toNat : Nat), .rd (ZJ ([(((ZX d (ge l k)).toNat : Nat) : Int)])), .any, .agg (dbC d), .int ((ZX d (ge l k)).toNat : Nat), .rd (ZJ (ZhV (usL d d.frames.length) (-1 : Int) ((ZX d (ge l k)).toNat))), .any, .any] : List AV).getD ix' .any) (fun ix' => ([true, true, true, true, true, true, true, true, true] : List Bool).getD ix' true) [(1, fun (g : Value × Value) => .rd (Zf l)), (2, fun (g : Value × Value) => .ptr (dbC d)), (8, fun (g : Value × Value) => .int (k : Nat)), (7, fun (g : Value × Value) => .lit g.2)] (fun (j' : Nat) (g : Value × Value) => match j' with | 0 => [OB.row vo 3 1 (keep.map Xa)] | 1 => [OB.row g.1 3 1 ((keep ++ ([(((ZX d (ge l k)).toNat : Nat) : Int)])).map Xa)] | 2 => [OB.row g.2 3 1 (((keep ++ ([(((ZX d (ge l k)).toNat : Nat) : Int)])) ++ (ZhV (usL d d.frames.length) (-1 : Int) ((ZX d (ge l k)).toNat))).map Xa)] | _ => [OB.row g.2 3 1 (((keep ++ ([(((ZX d (ge l k)).toNat : Nat) : Int)])) ++ (ZhV (usL d d.frames.length) (-1 : Int) ((ZX d (ge l k)).toNat))).map Xa)]) (fun (k' : Nat) (g : Value × Value) => match k' with | 0 => g.1 | 1 => g.2 | 2 => g.2 | _ => undef) [3, 7, 8] 3 ((.slice none 0 0), (.slice none 0 0)) (fun _ => rfl) h hJ YJ rfl rfl rfl rfl rfl rfl (fun j' g hj p hp => by rcases j' with _ | _ | _ | _ | j' <;> first | exact hp | exact List.mem_cons_of_mem _ hp | exact List.mem_cons_of_mem _ (List.mem_cons_of_mem _ hp) | (exfalso; omega)) ⟨?o11_1_0, ⟨?o11_1_1, ⟨?o11_1_2, ⟨?o11_1_3, ⟨?o11_1_4, ⟨?o11_1_5, ⟨?o11_1_6, ⟨?o11_1_7, ⟨?o11_1_8, trivial⟩⟩⟩⟩⟩⟩⟩⟩⟩ ⟨?e11_1_0, ⟨?e11_1_1, ⟨?e11_1_2, trivial⟩⟩⟩ ⟨.old 0 1 _ rfl rfl, ⟨.old 1 2 _ rfl rfl, ⟨.old 2 8 _ rfl rfl, ⟨.eff 2 8 7 (fun (g : Value × Value) => g.2) rfl rfl (fun _ => rfl) (fun _ _ hx => Qr (hx.2.1 _ (mo 0 rfl))), trivial⟩⟩⟩⟩ ?n11_1
 case o11_1_0 => exact fun _ O' _ => ⟨rfl, fun _ _ _ hx hl _ => Yd rfl (hl.env 3 7 _ rfl rfl) hx⟩
 case o11_1_1 => exact fun _ O' _ => ⟨rfl, fun _ _ _ hx hl _ => Yd rfl (hl.env 4 9 _ rfl rfl) hx⟩
 case o11_1_2 => exact fun _ O' _ => ⟨rfl, fun _ _ hk hx hl _ => ZV Zq XT rfl (hl.dep 1 33 _ rfl rfl rfl rfl) (Zo hS _ hk hx _ (Nat.le_refl _)) (jo hJ hx)⟩
 case o11_1_3 => exact Zk rfl
 case o11_1_4 => exact fun _ O' _ => ⟨rfl, fun _ _ _ hx hl _ => Zas Zd8 rfl (hl.env 1 2 _ rfl rfl) (Nat.le_refl _) hx⟩
 case o11_1_5 => exact fun _ O' _ => ⟨rfl, fun _ _ _ hx hl _ => Yd rfl (hl.env 4 9 _ rfl rfl) hx⟩
 case o11_1_6 => exact fun _ O' _ => ⟨rfl, fun _ _ hk hx hl _ => Zbi (ZoP hJ (d := d) (i := ((ZX d (ge l k)).toNat)) (wo := (-1 : Int)) (by omega) (c3)) Zoz rfl (Zo hS _ hk hx) (hx.1) (Zc (hl.dep 4 36 _ rfl rfl rfl rfl) (Zc (hl.dep 5 37 _ rfl rfl rfl rfl) (Zc (Rel.of_lit (Go.Value.int Go.IntKind.i64 (-1))) Zi))) (jo hJ hx)⟩
 case o11_1_7 => exact Zk rfl
 case o11_1_8 => exact Zk rfl
 case e11_1_0 => exact ⟨_, rfl, rfl, rfl, rfl, fun g _ w hk hx hl _ => Zx (XQ (f := Xa) keep ([(((ZX d (ge l k)).toNat : Nat) : Int)]) (fun _ => rfl) YT hJ hJ0 rfl hk hx (hl.dep 0 32 _ rfl rfl rfl rfl).lit (hl.dep 2 34 _ rfl rfl rfl rfl) (by first | (have := X5 d l q; rw [f2_2]; simp; omega) | (simp; omega)) (by first | (have := X5 d l q; rw [f2_2]; simp; omega) | (simp; omega))) fun v w' hp => ⟨(v, g.2), rfl, fun k' hk' => absurd hk' (Nat.not_lt_zero _), fun _ => rfl, hp⟩⟩
 case e11_1_1 => exact ⟨_, rfl, rfl, rfl, rfl, fun g _ w hk hx hl hs => Zx (XQ (f := Xa) (keep ++ ([(((ZX d (ge l k)).toNat : Nat) : Int)])) (ZhV (usL d d.frames.length) (-1 : Int) ((ZX d (ge l k)).toNat)) (fun _ => rfl) YT hJ hJ0 rfl hk hx (hs 0 3 _ 35 (by omega) rfl rfl rfl) (hl.dep 6 38 _ rfl rfl rfl rfl) (by first | (have := X5 d l q; rw [f2_2]; simp; omega) | (simp; omega)) (by first | (have := X5 d l q; rw [f2_2]; simp; omega) | (simp; omega))) fun v w' hp => ⟨(g.1, v), rfl, fun k' hk' => by rcases k' with _ | _ | _ | k' <;> first | rfl | omega, fun _ => rfl, hp⟩⟩
 case e11_1_2 => exact ⟨_, rfl, rfl, rfl, rfl, fun g _ w hk hx _ hs => Zx (QB (.inl rfl) (hs 1 7 _ 39 (by omega) rfl rfl rfl) hk hx) fun v w' hp => ⟨g, rfl, fun _ _ => rfl, fun _ => hp.1, hp.2⟩⟩
 clear a w h
 rintro ⟨v2, v3⟩
 change ∀ a w, St All (SO S [OB.row v3 3 1 (((keep ++ ([(((ZX d (ge l k)).toNat : Nat) : Int)])) ++ (ZhV (usL d d.frames.length) (-1 : Int) ((ZX d (ge l k)).toNat))).map Xa)]) w0 57 [(1, .rd (Zf l)), (2, .ptr (dbC d)), (8, .int (k : Nat)), (7, .lit v3)] (XO J S w0.heap.size [OB.row v3 3 1 (((keep ++ ([(((ZX d (ge l k)).toNat : Nat) : Int)])) ++ (ZhV (usL d d.frames.length) (-1 : Int) ((ZX d (ge l k)).toNat))).map Xa)]) a w → _
 refine nx (Yj tb hJ [0,1,3,1002] [_,.int (k + 1 : Nat),_] [1] [_,_,_,_] rfl ⟨Z2, trivial⟩ ?_)
 exact Yr (k + 1, v3, (keep ++ ([(((ZX d (ge l k)).toNat : Nat) : Int)])) ++ (ZhV (usL d d.frames.length) (-1 : Int) ((ZX d (ge l k)).toNat))) [0,1,3,2] ⟨by omega, ZjI (by omega) e4 f1_2, Zel (by omega) f1_3 e4, by simp; omega⟩
 try simp at hb2
 have e2 : ∀ x, x ∈ keep ↔ XJ d l x := by rw [Zu (by omega)] at f1_2; exact f1_2
 have c0 : Zam d l = 0 := by rw [Zu (by omega)] at f1_3; rw [Zam, if_pos e0, f1_3]; rfl
 refine Zl (nx (tsq ?_))
 refine Xo Zq hJ rfl rfl rfl (lb rfl) fun v4 => ?_
 refine snK 1 tb rfl ?_
 refine seK [0,3,5] [_,_,_] rfl ?_
 refine nx (Zd (qso tb hJ [0,1,2,1000] [_] [_,_,_,_] ?_))
 refine Zb (lpo (ι := Nat × Value × (List Int)) (fun (q, _, out) => (q ≤ d.frames.length) ∧ (out = ZbR d l q)) (fun (_, vp, out) => [OB.row vp 3 1 (out.map Xa), OB.row vo 3 1 (keep.map Xa)]) (fun (q, vp, _) => [(11, .int (q : Nat)), (10, .lit vp)]) (fun (q, _, _) => d.frames.length - q) [1,2,3,0] [_,_] (0, v4, ([] : List Int)) ⟨Nat.zero_le _, rfl⟩ ?_)
 rintro ⟨q, vp, out⟩ ⟨f2_1, f2_2⟩
 refine Zd (ZC tb hJ [0,1,2,3,1002,1004] [_,_,_,.int (d.frames.length : Nat),_] [3] [_,_,_,_,_,_] rfl ⟨ZZ Z7, trivial⟩ ?_)
 refine ln 4 fun hl2 => ?_
 refine cj 5 (fun hb4 => ?_) fun hb4 => ?_
 try simp at hb4
 refine Za (nx (Zd (Zb (Zfp tb hJ [0,1,2,3,1003] [_,_,.bool (decide ((q : Int) ∈ keep)),_] [2] [_,_,_,_,_] rfl ⟨fun _ _ hk hx hl _ => Zbi (ZoQ hJ (xs := keep) (n := (q : Int)) ) Zav rfl (nm hS hk) (hx.1) (Zc (YA hS hx (mo 1 rfl) (hl.dep 0 48 _ rfl rfl rfl rfl)) (Zc (hl.dep 1 49 _ rfl rfl rfl rfl) Zi)) (jo hJ hx), trivial⟩ ?_))))
 refine cj 4 (fun hb5 => ?_) fun hb5 => ?_
 have e6 : ¬ XJ d l (q : Int) := by have h := Q8 hb5; rwa [e2] at h
 refine ZN (snK 2 tb rfl ?_)
 refine sq (.rd (ZJ ([(q : Int)]))) rfl rfl (lb rfl) (fun _ _ h => ZV Zq XT rfl (h.get 0 rfl) (Zo hS _ h.keep h.x _ (Nat.le_refl _)) (jo hJ h.x)) ?_
 refine ZM (f := Xa) (m := 2) (s := 52) out ([(q : Int)]) (fun _ => rfl) YT hJ hJ0 rfl rfl rfl (lb rfl) rfl rfl (fun a w h => (h.get 0 rfl)) (by first | (have := X5 d l q; rw [f2_2]; simp; omega) | (simp; omega)) (by first | (have := X5 d l q; rw [f2_2]; simp; omega) | (simp; omega)) fun v5 => ?_
 refine snK 1 tb rfl ?_
 refine seK [0,2,5,6,7] [_,_,_,_,_] rfl ?_
 refine nx (ln 1 fun hl3 => ?_)
 refine Yj tb hJ [0,2,3,1002] [_,.int (q + 1 : Nat),_] [1] [_,_,_,_] rfl ⟨Z2, trivial⟩ ?_
 exact Yr (q + 1, v5, out ++ ([(q : Int)])) [1,2,3,0] ⟨by omega, by rw [ZaB, ← f2_2]; first | (rw [if_neg e6]; done) | (rw [if_pos e6]; simp; done)⟩
 have e6 : XJ d l (q : Int) := by have h := Zcd hb5; rwa [e2] at h
 refine Za (nx (Yj tb hJ [0,1,3,1002] [_,.int (q + 1 : Nat),_] [1] [_,_,_,_] rfl ⟨Z2, trivial⟩ ?_))
 exact Yr (q + 1, vp, out) [0,1,3,2] ⟨by omega, by rw [ZaB, ← f2_2]; first | (rw [if_neg e6]; done) | (rw [if_pos e6]; simp; done)⟩
 try simp at hb4
 refine Zl (nx (qso tb hJ [1001,1002] [_,_,_] [_,_] ?_))
 refine tw (fun h => ZB hS h (m := 0) (s := 4) rfl) ?_
 exact Ze (fun a w h => Ye (m := 0) (k := 1) rfl (ZK h) rfl rfl (congrArg (fun z => AV.rd (ZJ z)) (show out = (if Zam d l = 0 then ZbR d l d.frames.length else []) from by first | exact c2.symm | exact c0.symm | (rw [c2, if_neg c1]; done) | (rw [c2]; rfl) | (rw [if_pos c0, f2_2, show q = d.frames.length by omega]))) (eI (by first | exact c2.symm | exact c0.symm | (rw [c2, if_neg c1]; done) | (rw [c2]; rfl) | (rw [if_pos c0, f2_2, show q = d.frames.length by omega]))))
theorem Zfd {J : World → Prop} (hJ : Stab J) (d : Db) (m : ByteArray) (hw : ∀ i, i < d.frames.length → (ge d.frames i).wide.length * 32 ≤ 140737488351232) : Fn Tryz.prog J 38 [.agg (dbC d), .str m] (.tup [.rd (YI (if deE d m = 0 then ZcN d m d.frames.length else [])), .int (deE d m)]) := by
 refine Zn (N := 77) Tryz.func38 rfl rfl (lb rfl) fun S w0 hS hJ0 => ?_
 refine tw Yb ?_
 refine ZC tb hJ [1,1000] [.ptr (dbC d),_,_] [0] [_,_] rfl ⟨fun _ _ hk hx hl _ => Yk rfl (hl.env 0 0 _ rfl rfl) (Zo hS _ hk hx _ (Nat.le_refl _)) (jo hJ hx), trivial⟩ ?_
 refine Zd (ZC tb hJ [0,1,1002] [_,.int (Xk d),_] [1] [_,_,_] rfl ⟨iFo hS hJ (Zgf hJ (d := d) (hw)) Zf7, trivial⟩ ?_)
 refine qso tb hJ [0,1,2,1001] [_,_] [_,_,_,_] ?_
 refine cj 3 (fun hb1 => ?_) fun hb1 => ?_
 have c1 : ¬ Xk d = 0 := Q8 hb1
 have c2 : deE d m = Xk d := if_neg c1
 refine qso tb hJ [1001,1002] [_,_,_] [_,_] ?_
 refine tw (fun h => Ys h (m := 0) (s := 4) rfl) ?_
 exact Ze (fun a w h => Ye (m := 0) (k := 1) rfl (ZK h) rfl rfl (congrArg (fun z => AV.rd (YI z)) (show ([] : List Pr) = (if deE d m = 0 then ZcN d m d.frames.length else []) from by first | exact c2.symm | exact c0.symm | (rw [c2, if_neg c1]; done) | (rw [c2]; rfl) | (rw [if_pos c0, f1_2, show i = d.frames.length by omega]))) (eI (by first | exact c2.symm | exact c0.symm | (rw [c2, if_neg c1]; done) | (rw [c2]; rfl) | (rw [if_pos c0, f1_2, show i = d.frames.length by omega]))))
 have e0 : Xk d = 0 := Zcd hb1
 have c3 := Xt e0
 have hul := Xl d d.frames.length
 refine Za (nx (Zd (qso tb hJ [0,1,1001] [_,_] [_,_,_] ?_)))
 refine cj 2 (fun hb2 => ?_) fun hb2 => ?_
 have c2 : deE d m = 1 := by rw [deE, if_pos e0, if_pos (of_decide_eq_true hb2)]
 refine qso tb hJ [1000,1001] [_,_] [_,_] ?_
 refine tw (fun h => Ys h (m := 0) (s := 4) rfl) ?_
 exact Ze (fun a w h => Ye (m := 0) (k := 1) rfl (ZK h) rfl rfl (congrArg (fun z => AV.rd (YI z)) (show ([] : List Pr) = (if deE d m = 0 then ZcN d m d.frames.length else []) from by first | exact c2.symm | exact c0.symm | (rw [c2, if_neg c1]; done) | (rw [c2]; rfl) | (rw [if_pos c0, f1_2, show i = d.frames.length by omega]))) (eI (by first | exact c2.symm | exact c0.symm | (rw [c2, if_neg c1]; done) | (rw [c2]; rfl) | (rw [if_pos c0, f1_2, show i = d.frames.length by omega]))))
 have c0 : deE d m = 0 := by rw [deE, if_pos e0, if_neg (of_decide_eq_false hb2)]
 refine Za (nx (tsq ?_))
 refine Xo XH hJ rfl rfl rfl (lb rfl) fun v1 => ?_
 refine snK 1 tb rfl ?_
 refine seK [0,2,3] [_,_,_] rfl ?_
 refine nx (Zd (qso tb hJ [0,1,2,1000] [_] [_,_,_,_] ?_))
 refine Zb (lpo (ι := Nat × Value × (List Pr)) (fun (i, _, out) => (i ≤ d.frames.length) ∧ (out = ZcN d m i) ∧ (out.length ≤ i * 400)) (fun (_, vo, out) => [OB.row vo 53 2 (out.map prC)]) (fun (i, vo, _) => [(8, .int (i : Nat)), (7, .lit vo)]) (fun (i, _, _) => d.frames.length - i) [1,2,3,0] [_,_] (0, v1, ([] : List Pr)) ⟨Nat.zero_le _, rfl, Nat.zero_le _⟩ ?_)
 rintro ⟨i, vo, out⟩ ⟨f1_1, f1_2, f1_3⟩
 refine Zd (ZC tb hJ [0,1,2,3,1002,1004] [_,_,_,.int (d.frames.length : Nat),_] [3] [_,_,_,_,_,_] rfl ⟨ZZ Z7, trivial⟩ ?_)
 refine ln 4 fun hl1 => ?_
 refine cj 5 (fun hb3 => ?_) fun hb3 => ?_
 try simp at hb3
 have e4 := Zek d i
 refine Za (nx (Zd (Zb (ZC tb hJ [0,1,2,3,1002,1003] [_,_,.rd (ZJ (ZT d i)),_] [2] [_,_,_,_,_,_] rfl ⟨iFo hS hJ (Zkj hJ (d := d) (i := i) (by omega) (c3)) Zf9, trivial⟩ ?_))))
 refine ln 4 fun hl2 => ?_
 refine qso tb hJ [0,1,2,3,5,1000] [_] [_,_,_,_,_,_] ?_
 refine Zb (lpo (ι := Nat × Value × (List Pr)) (fun (j, _, out2) => (j ≤ (ZT d i).length) ∧ (out2 = out ++ Zj1 d m i ((ZT d i).take j)) ∧ (out2.length ≤ i * 400 + j)) (fun (_, vp, out2) => [OB.row vp 53 2 (out2.map prC)]) (fun (j, vp, _) => [(10, .int (j : Nat)), (7, .lit vp)]) (fun (j, _, _) => (ZT d i).length - j) [0,1,2,4,5,3] [_,_,_,_] (0, vo, out) ⟨Nat.zero_le _, by rw [List.take_zero, Zhl, List.append_nil], by omega⟩ ?_)
 rintro ⟨j, vp, out2⟩ ⟨f2_1, f2_2, f2_3⟩
 refine Zd (ZC tb hJ [0,1,2,3,4,5,1003] [_,_,.int ((ZT d i).length : Nat),_] [2] [_,_,_,_,_,_,_] rfl ⟨ZZ Ym, trivial⟩ ?_)
 refine cj 6 (fun hb4 => ?_) fun hb4 => ?_
 try simp at hb4
 have e3 := ZQ d d.frames.length i _ (by rw [ZcV (by omega)]; exact Zg (xs := ZT d i) (k := j) (by omega))
 refine Za (nx (Zd (Zb (ZC tb hJ [0,1,2,3,4,5,1021] [_,_,_,.ptr (frC (ge d.frames i)),_,_,_,.bool (ZdQ ((ge d.frames i).label) m),_,_,_,_,_,_,.ptr [.lit (.int .i64 (ge (ZT d i) j))],_,.ptr (frC (ge d.frames (ge (ZT d i) j).toNat)),_,_,_,.bool (ZdQ ((ge d.frames (ge (ZT d i) j).toNat).label) m),_] [3,7,14,16,20] [_,_,_,_,_,_,_] rfl ⟨iIx ZD, iFo hS hJ (Znl hJ (s := ((ge d.frames i).label)) (m := m) ) Zkd, gIx Zq (hk := fun (hc' : ((!(ZdQ ((ge d.frames i).label) m)) == true) = true) => by (try simp at hc'); first | omega | (simp; omega) | grind [Zg]), fun _ _ _ hx hl hc => Z0 (i := (ge (ZT d i) j)) ZD rfl (hl.dep 11 46 _ rfl rfl rfl hc) (hl.dep 15 50 _ rfl rfl rfl hc) (by have hc' : ((!(ZdQ ((ge d.frames i).label) m)) == true) = true := hc; (try simp at hc'); (first | omega | (simp; omega) | grind [Zg])) (Za2 (xs := d.frames) (i := (ge (ZT d i) j)) (by have hc' : ((!(ZdQ ((ge d.frames i).label) m)) == true) = true := hc; (try simp at hc'); (first | omega | (simp; omega) | grind [Zg])) (by have hc' : ((!(ZdQ ((ge d.frames i).label) m)) == true) = true := hc; (try simp at hc'); (first | omega | (simp; omega) | grind [Zg]))) rfl hx, iFo hS hJ (Znl hJ (s := ((ge d.frames (ge (ZT d i) j).toNat).label)) (m := m) ) Zkd, trivial⟩ ?_))))
 refine cj 6 (fun hb5 => ?_) fun hb5 => ?_
 refine fun a w h => Qi [] (γ := Value) (fun ix' => ([.lit vp, .ptr [Yv d.frames], .rd (Yv d.frames), .int (i : Nat), .ptr (frC (ge d.frames i)), .ptr (frC (ge d.frames i)), .str ((ge d.frames i).label), .ptr [Yv d.frames], .rd (Yv d.frames), .rd (ZJ (ZT d i)), .int (j : Nat), .ptr [.lit (.int .i64 (ge (ZT d i) j))], .int (ge (ZT d i) j), .ptr (frC (ge d.frames (ge (ZT d i) j).toNat)), .ptr (frC (ge d.frames (ge (ZT d i) j).toNat)), .str ((ge d.frames (ge (ZT d i) j).toNat).label), .agg (prC (⟨(ge d.frames i).label, (ge d.frames (ge (ZT d i) j).toNat).label⟩ : Pr)), .rd (YI ([(⟨(ge d.frames i).label, (ge d.frames (ge (ZT d i) j).toNat).label⟩ : Pr)])), .any, .any] : List AV).getD ix' .any) (fun ix' => ([true, true, true, true, true, true, true, true, true, true, true, true, true, true, true, true, true, true, true, true] : List Bool).getD ix' true) [(1, fun (g : Value) => .str m), (2, fun (g : Value) => .ptr (dbC d)), (8, fun (g : Value) => .int (i : Nat)), (9, fun (g : Value) => .rd (ZJ (ZT d i))), (10, fun (g : Value) => .int (j : Nat)), (7, fun (g : Value) => .lit g)] (fun (j' : Nat) (g : Value) => match j' with | 0 => [OB.row vp 53 2 (out2.map prC)] | 1 => [OB.row g 53 2 ((out2 ++ ([(⟨(ge d.frames i).label, (ge d.frames (ge (ZT d i) j).toNat).label⟩ : Pr)])).map prC)] | _ => [OB.row g 53 2 ((out2 ++ ([(⟨(ge d.frames i).label, (ge d.frames (ge (ZT d i) j).toNat).label⟩ : Pr)])).map prC)]) (fun (k' : Nat) (g : Value) => match k' with | 0 => g | 1 => g | _ => undef) [18, 19] 2 (.slice none 0 0) (fun _ => rfl) h hJ YJ rfl rfl rfl rfl rfl rfl (fun j' g hj p hp => by rcases j' with _ | _ | _ | j' <;> first | exact hp | exact List.mem_cons_of_mem _ hp | exact List.mem_cons_of_mem _ (List.mem_cons_of_mem _ hp) | (exfalso; omega)) ⟨?o15_1_0, ⟨?o15_1_1, ⟨?o15_1_2, ⟨?o15_1_3, ⟨?o15_1_4, ⟨?o15_1_5, ⟨?o15_1_6, ⟨?o15_1_7, ⟨?o15_1_8, ⟨?o15_1_9, ⟨?o15_1_10, ⟨?o15_1_11, ⟨?o15_1_12, ⟨?o15_1_13, ⟨?o15_1_14, ⟨?o15_1_15, ⟨?o15_1_16, ⟨?o15_1_17, ⟨?o15_1_18, ⟨?o15_1_19, trivial⟩⟩⟩⟩⟩⟩⟩⟩⟩⟩⟩⟩⟩⟩⟩⟩⟩⟩⟩⟩ ⟨?e15_1_0, ⟨?e15_1_1, trivial⟩⟩ ⟨.old 0 1 _ rfl rfl, ⟨.old 1 2 _ rfl rfl, ⟨.old 2 8 _ rfl rfl, ⟨.old 3 9 _ rfl rfl, ⟨.old 4 10 _ rfl rfl, ⟨.eff 1 19 7 (fun (g : Value) => g) rfl rfl (fun _ => rfl) (fun _ _ hx => Qr (hx.2.1 _ (mo 0 rfl))), trivial⟩⟩⟩⟩⟩⟩ ?n15_1
 case o15_1_0 => exact fun _ O' _ => ⟨rfl, fun _ _ _ hx hl _ => Yd rfl (hl.env 5 7 _ rfl rfl) hx⟩
 case o15_1_1 => exact fun _ O' _ => ⟨rfl, fun _ _ _ hx hl _ => ZW Zaa rfl (hl.env 1 2 _ rfl rfl) hx⟩
 case o15_1_2 => exact fun _ O' _ => ⟨rfl, fun _ _ _ hx hl _ => ZO ZgZ rfl (hl.dep 1 58 _ rfl rfl rfl rfl) hx⟩
 case o15_1_3 => exact fun _ O' _ => ⟨rfl, fun _ _ _ hx hl _ => Yd rfl (hl.env 2 8 _ rfl rfl) hx⟩
 case o15_1_4 => exact fun _ O' _ => ⟨rfl, fun _ _ _ hx hl _ => Z0 (i := (i : Int)) ZD rfl (hl.dep 2 59 _ rfl rfl rfl rfl) (hl.dep 3 60 _ rfl rfl rfl rfl) (Int.natCast_nonneg _) (Yh (xs := d.frames) (k := i) (by first | omega | (simp; omega) | grind [Zg])) rfl hx⟩
 case o15_1_5 => exact fun _ O' _ => ⟨rfl, fun _ _ _ hx hl _ => ZW XS rfl (hl.dep 4 61 _ rfl rfl rfl rfl) hx⟩
 case o15_1_6 => exact fun _ O' _ => ⟨rfl, fun _ _ _ hx hl _ => ZO Za7 rfl (hl.dep 5 62 _ rfl rfl rfl rfl) hx⟩
 case o15_1_7 => exact fun _ O' _ => ⟨rfl, fun _ _ _ hx hl _ => ZW Zaa rfl (hl.env 1 2 _ rfl rfl) hx⟩
 case o15_1_8 => exact fun _ O' _ => ⟨rfl, fun _ _ _ hx hl _ => ZO ZgZ rfl (hl.dep 7 64 _ rfl rfl rfl rfl) hx⟩
 case o15_1_9 => exact fun _ O' _ => ⟨rfl, fun _ _ _ hx hl _ => Yd rfl (hl.env 3 9 _ rfl rfl) hx⟩
 case o15_1_10 => exact fun _ O' _ => ⟨rfl, fun _ _ _ hx hl _ => Yd rfl (hl.env 4 10 _ rfl rfl) hx⟩
 case o15_1_11 => exact fun _ O' _ => ⟨rfl, fun _ _ _ hx hl _ => Z0 (i := (j : Int)) Zq rfl (hl.dep 9 66 _ rfl rfl rfl rfl) (hl.dep 10 67 _ rfl rfl rfl rfl) (Int.natCast_nonneg _) (Yh (xs := (ZT d i)) (k := j) (by first | omega | (simp; omega) | grind [Zg])) rfl hx⟩
 case o15_1_12 => exact fun _ O' _ => ⟨rfl, fun _ _ _ hx hl _ => ZO one_3 rfl (hl.dep 11 68 _ rfl rfl rfl rfl) hx⟩
 case o15_1_13 => exact fun _ O' _ => ⟨rfl, fun _ _ _ hx hl _ => Z0 (i := (ge (ZT d i) j)) ZD rfl (hl.dep 8 65 _ rfl rfl rfl rfl) (hl.dep 12 69 _ rfl rfl rfl rfl) (by first | omega | (simp; omega) | grind [Zg]) (Za2 (xs := d.frames) (i := (ge (ZT d i) j)) (by first | omega | (simp; omega) | grind [Zg]) (by first | omega | (simp; omega) | grind [Zg])) rfl hx⟩
 case o15_1_14 => exact fun _ O' _ => ⟨rfl, fun _ _ _ hx hl _ => ZW XS rfl (hl.dep 13 70 _ rfl rfl rfl rfl) hx⟩
 case o15_1_15 => exact fun _ O' _ => ⟨rfl, fun _ _ _ hx hl _ => ZO Za7 rfl (hl.dep 14 71 _ rfl rfl rfl rfl) hx⟩
 case o15_1_16 => exact fun _ O' _ => ⟨rfl, fun a _ _ hx hl _ => Zb2 (us := [a.eval (Go.Operand.tmp 63), a.eval (Go.Operand.tmp 72)]) ZcB rfl (by simp) (ZR (hl.dep 6 63 _ rfl rfl rfl rfl) (ZR (hl.dep 15 72 _ rfl rfl rfl rfl) XB)) rfl hx⟩
 case o15_1_17 => exact fun _ O' _ => ⟨rfl, fun _ _ hk hx hl _ => ZaI XH Zip (by decide) rfl rfl (hl.dep 16 73 _ rfl rfl rfl rfl) (Zo hS _ hk hx _ (Nat.le_refl _)) (jo hJ hx)⟩
 case o15_1_18 => exact Zk rfl
 case o15_1_19 => exact Zk rfl
 case e15_1_0 => exact ⟨_, rfl, rfl, rfl, rfl, fun _ _ w hk hx hl _ => Zx (XQ (f := prC) out2 ([(⟨(ge d.frames i).label, (ge d.frames (ge (ZT d i) j).toNat).label⟩ : Pr)]) (fun _ => rfl) Zfi hJ hJ0 rfl hk hx (hl.dep 0 57 _ rfl rfl rfl rfl).lit (hl.dep 17 74 _ rfl rfl rfl rfl) (by simp; omega) (by simp; omega)) fun v w' hp => ⟨v, rfl, fun k' hk' => absurd hk' (Nat.not_lt_zero _), fun _ => rfl, hp⟩⟩
 case e15_1_1 => exact ⟨_, rfl, rfl, rfl, rfl, fun g _ w hk hx _ hs => Zx (QB (.inl rfl) (hs 0 18 _ 75 (by omega) rfl rfl rfl) hk hx) fun v w' hp => ⟨g, rfl, fun _ _ => rfl, fun _ => hp.1, hp.2⟩⟩
 clear a w h
 intro v2
 change ∀ a w, St All (SO S [OB.row v2 53 2 ((out2 ++ ([(⟨(ge d.frames i).label, (ge d.frames (ge (ZT d i) j).toNat).label⟩ : Pr)])).map prC)]) w0 77 [(1, .str m), (2, .ptr (dbC d)), (8, .int (i : Nat)), (9, .rd (ZJ (ZT d i))), (10, .int (j : Nat)), (7, .lit v2)] (XO J S w0.heap.size [OB.row v2 53 2 ((out2 ++ ([(⟨(ge d.frames i).label, (ge d.frames (ge (ZT d i) j).toNat).label⟩ : Pr)])).map prC)]) a w → _
 refine nx (Yj tb hJ [0,1,2,3,5,1002] [_,.int (j + 1 : Nat),_] [1] [_,_,_,_,_,_] rfl ⟨Z2, trivial⟩ ?_)
 exact Yr (j + 1, v2, out2 ++ ([(⟨(ge d.frames i).label, (ge d.frames (ge (ZT d i) j).toNat).label⟩ : Pr)])) [0,1,2,3,5,4] ⟨by omega, by rw [ZI (by omega), ZaR, ← List.append_assoc, ← f2_2]; first | (rw [if_pos (by simpa using hb5)]; rfl) | (rw [if_neg (by rw [hb5]; decide)]; simp; done), by first | omega | (simp; omega)⟩
 refine Za (nx (Yj tb hJ [0,1,2,3,5,1002] [_,.int (j + 1 : Nat),_] [1] [_,_,_,_,_,_] rfl ⟨Z2, trivial⟩ ?_))
 exact Yr (j + 1, vp, out2) [0,1,2,3,5,4] ⟨by omega, by rw [ZI (by omega), ZaR, ← List.append_assoc, ← f2_2]; first | (rw [if_pos (by simpa using hb5)]; rfl) | (rw [if_neg (by rw [hb5]; decide)]; simp; done), by first | omega | (simp; omega)⟩
 try simp at hb4
 refine Zl (nx (Yj tb hJ [0,1,5,1002] [_,.int (i + 1 : Nat),_] [1] [_,_,_,_] rfl ⟨Z2, trivial⟩ ?_))
 exact Yr (i + 1, vp, out2) [0,1,3,2] ⟨by omega, by rw [Zcu, ← f1_2, f2_2, Zu (by omega)], by omega⟩
 try simp at hb3
 refine Zl (nx (qso tb hJ [1001,1002] [_,_,_] [_,_] ?_))
 refine tw (fun h => ZB hS h (m := 0) (s := 4) rfl) ?_
 exact Ze (fun a w h => Ye (m := 0) (k := 1) rfl (ZK h) rfl rfl (congrArg (fun z => AV.rd (YI z)) (show out = (if deE d m = 0 then ZcN d m d.frames.length else []) from by first | exact c2.symm | exact c0.symm | (rw [c2, if_neg c1]; done) | (rw [c2]; rfl) | (rw [if_pos c0, f1_2, show i = d.frames.length by omega]))) (eI (by first | exact c2.symm | exact c0.symm | (rw [c2, if_neg c1]; done) | (rw [c2]; rfl) | (rw [if_pos c0, f1_2, show i = d.frames.length by omega]))))
end Go.Proofs.YtnpgmdffjemnbaaGreatDoor
set_option maxHeartbeats 8000000
set_option maxRecDepth 100000
namespace Go.Proofs.YtnpgmdffjemnbaaGreatDoor
open Go.RowKit
theorem Zon : Zj Tryz.prog 81 := Zp Tryz.func81 rfl rfl
theorem ZaZ : Tryz.prog.underlying 49 = some (.slice 53) := by kernel_rfl
theorem Zhz : X2 Tryz.prog 53 2 := ⟨fun w => by kernel_rfl, fun w => by kernel_rfl⟩
theorem Zfy : Tryz.prog.underlying 70 = some (.map 3 4) := by kernel_rfl
theorem Zou : Zj Tryz.prog 65 := Zp Tryz.func65 rfl rfl
theorem Zke : Zj Tryz.prog 67 := Zp Tryz.func67 rfl rfl
theorem Zbv {P : Program} (w : World) (d : Nat) (t e : TypeId) (xs ys : Array Value) {a b a' b' : Value} {r1 r2 : Bool} (ht : P.underlying t = some (.array 2 e)) (hs : (sizeOf e).run P w = .ok 1 w)
    (h0 : (part e xs 0).run P w = .ok a w) (h1 : (part e ys 0).run P w = .ok a' w) (h2 : (part e xs 1).run P w = .ok b w) (h3 : (part e ys 1).run P w = .ok b' w) (q1 : (Op.equalIn d e a a').run P w = .ok r1 w) (q2 : (Op.equalIn d e b b').run P w = .ok r2 w) :
    (Op.equalIn (d + 1) t (.agg xs) (.agg ys)).run P w = .ok (r1 && r2) w := by
  simp only [Op.equalIn, Sem.run_bind, run_underlying ht, Result.andThen_ok, hs]
  simp [Std.Legacy.Range.forIn_eq_forIn_range', Std.Legacy.Range.size, List.range', Sem.run_bind, h0, h1, h2, h3, q1, q2]
  cases r1 <;> cases r2 <;> simp
theorem Zn7 : ZhB Tryz.prog 53 := by
  intro a b c d w x y
  refine ⟨by simp [eqGuard], by simp [eqGuard], ?_⟩
  unfold Op.equal Op.maxDepth
  have q1 := run_equalIn_string (P := Tryz.prog) w 9998 9 a c und9
  have q2 := run_equalIn_string (P := Tryz.prog) w 9998 9 b d und9
  rw [Zae] at q1 q2
  have e1 := fun (c : Array Value) (v : Value) (i : Nat) (h : c[i]? = some v) => Zbh c i v h w
  exact Zbv w 9999 53 9 _ _ (by kernel_rfl) (by kernel_rfl) (e1 _ _ 0 rfl) (e1 _ _ 0 rfl) (e1 _ _ 1 rfl) (e1 _ _ 1 rfl) q1 q2

theorem ZeH {J : World → Prop} (hJ : Stab J) (s : ByteArray) (m : ByteArray)  : Fn Tryz.prog J 81 [.str s, .str m] (.bool (ZdQ s m)) := by
 refine Zn (N := 21) Tryz.func81 rfl rfl (lb rfl) fun S w0 hS hJ0 => ?_
 clear hJ0
 refine lnS 0 fun hl1 => ?_
 refine lnS 1 fun hl2 => ?_
 refine qs tb hJ [0,1] [_] [_,_] ?_
 refine hqs tb hJ [1016] [_,.int (s.size : Nat),_,.int (m.size : Nat),_,_,_,_,.int (s.size : Nat),_,.int (m.size : Nat),.int (s.size - m.size : Nat),.str (s.extract (s.size - m.size) s.size),_,_,_,_] [1,3,8,10,11,12] [_] rfl ⟨Zfo Zz, Zfo Zz, Zfo Zz, Zfo Zz, fun _ _ _ hx hl hc => Zm4 (i := s.size) (j := m.size) rfl (hl.dep 8 13 _ rfl rfl rfl hc) (hl.dep 10 15 _ rfl rfl rfl hc) (by have hc' : ((decide ((m.size : Int) ≤ (s.size : Int))) == true) = true := hc; (try simp at hc'); (omega)) (by have hc' : ((decide ((m.size : Int) ≤ (s.size : Int))) == true) = true := hc; (try simp at hc'); (omega)) hx, fun _ _ _ hx hl hc => Zdz (lo := s.size - m.size) (hi := s.size) Zz rfl (hl.dep 6 11 _ rfl rfl rfl hc) (hl.dep 11 16 _ rfl rfl rfl hc) rfl (by have hc' : ((decide ((m.size : Int) ≤ (s.size : Int))) == true) = true := hc; (try simp at hc'); (first | omega | (simp; omega) | grind [Zg])) (by have hc' : ((decide ((m.size : Int) ≤ (s.size : Int))) == true) = true := hc; (try simp at hc'); (first | omega | (simp; omega) | grind [Zg])) hx, trivial⟩ ?_
 exact Ze (rtn (m := 0) rfl rfl (eB (by first | rfl | grind [Zg])))
theorem Zb5 {J : World → Prop} (hJ : Stab J) (s : ByteArray) (m : ByteArray)  : Fn Tryz.prog J 67 [.str s, .str m] (.bool (ZdQ s m)) := by
 refine Zn (N := 8) Tryz.func67 rfl rfl (lb rfl) fun S w0 hS hJ0 => ?_
 clear hJ0
 refine qs tb hJ [0,1] [_] [_,_] ?_
 refine hqs tb hJ [1003] [_,_,.bool (ZdQ s m),_] [2] [_] rfl ⟨iFn hS hJ (ZeH hJ (s := s) (m := m) ) Zon, trivial⟩ ?_
 exact Ze (rtn (m := 0) rfl rfl rfl)
theorem Zlh {J : World → Prop} (hJ : Stab J) (xs : List Pr) (ys : List Pr)  : Fn Tryz.prog J 39 [.rd (YI xs), .rd (YI ys)] (.bool (decide (xs = ys))) := by
 refine Zn (N := 26) Tryz.func39 rfl rfl (lb rfl) fun S w0 hS hJ0 => ?_
 clear hJ0
 refine ln 0 fun hl1 => ?_
 refine ln 1 fun hl2 => ?_
 refine qs tb hJ [0,1] [_] [_,_] ?_
 refine Zd (hqs tb hJ [0,1,1004] [_,.int (xs.length : Nat),_,.int (ys.length : Nat),_] [1,3] [_,_,_] rfl ⟨ZZ ZaZ, ZZ ZaZ, trivial⟩ ?_)
 refine cj 2 (fun hb1 => ?_) fun hb1 => ?_
 try simp at hb1
 refine qs tb hJ [1000] [_] [_] ?_
 exact Ze (rtn (m := 0) rfl rfl (eB (by first | (have := XX (xs := xs) (ys := ys) (by omega) (fun j hj => prEq_iff.1 (f1_2 j (by omega))); simp [this]; done) | (symm; rw [decide_eq_false_iff_not]; intro e; subst e; simp at hb3; done) | (symm; rw [decide_eq_false_iff_not]; intro e; subst e; exact hb1 rfl))))
 try simp at hb1
 refine Za (nx (Zd (hqs tb hJ [0,1,1001,1002] [_,.int (xs.length : Nat),_] [1] [_,_,_,_] rfl ⟨ZZ ZaZ, trivial⟩ ?_)))
 refine Zb (lp (ι := Nat) (fun k => (k ≤ xs.length) ∧ (∀ j, j < k → ZcJ (ge xs j) (ge ys j) = true)) (fun k => [(13, .int (k : Nat))]) (fun k => xs.length - k) [0,1,2,3] [_,_,_] 0 ⟨Nat.zero_le _, fun j hj => by omega⟩ ?_)
 rintro k ⟨f1_1, f1_2⟩
 refine qs tb hJ [0,1,2,3,1000] [_] [_,_,_,_,_] ?_
 refine cjS 4 (fun hb2 => ?_) fun hb2 => ?_
 try simp at hb2
 refine Za (nx (Zd (Zb (qs tb hJ [0,1,2,3,1001] [_,_] [_,_,_,_,_] ?_))))
 refine hqs tb hJ [0,1,2,3,1008] [_,_,.ptr (prC (ge xs k)),.agg (prC (ge xs k)),_,_,.ptr (prC (ge ys k)),.agg (prC (ge ys k)),.bool (!(decide ((ge xs k).a = (ge ys k).a) && decide ((ge xs k).b = (ge ys k).b)))] [2,3,6,7,8] [_,_,_,_,_] rfl ⟨iIx XH, fun _ _ _ hx hl _ => Zas Zhz rfl (hl.dep 2 18 _ rfl rfl rfl rfl) (Nat.le_refl _) hx, iIx XH, fun _ _ _ hx hl _ => Zas Zhz rfl (hl.dep 6 22 _ rfl rfl rfl rfl) (Nat.le_refl _) hx, fun _ _ _ hx hl _ => ZiZ Zn7 rfl (hl.dep 3 19 _ rfl rfl rfl rfl) (hl.dep 7 23 _ rfl rfl rfl rfl) hx, trivial⟩ ?_
 refine cj 4 (fun hb3 => ?_) fun hb3 => ?_
 try simp at hb3
 refine qs tb hJ [1000] [_] [_] ?_
 exact Ze (rtn (m := 0) rfl rfl (eB (by first | (have := XX (xs := xs) (ys := ys) (by omega) (fun j hj => prEq_iff.1 (f1_2 j (by omega))); simp [this]; done) | (symm; rw [decide_eq_false_iff_not]; intro e; subst e; simp at hb3; done) | (symm; rw [decide_eq_false_iff_not]; intro e; subst e; exact hb1 rfl))))
 try simp at hb3
 refine Za (nx (hqp tb hJ [0,1,2,1001] [.int (k + 1 : Nat),_] [0] [_,_,_,_] rfl ⟨Z2, trivial⟩ ?_))
 exact lpE (k + 1) [0,1,2,3] ⟨by omega, ZH f1_2 (by simp [ZcJ, hb3])⟩
 try simp at hb2
 refine Zl (nx (qs tb hJ [1000] [_] [_] ?_))
 exact Ze (rtn (m := 0) rfl rfl (eB (by first | (have := XX (xs := xs) (ys := ys) (by omega) (fun j hj => prEq_iff.1 (f1_2 j (by omega))); simp [this]; done) | (symm; rw [decide_eq_false_iff_not]; intro e; subst e; simp at hb3; done) | (symm; rw [decide_eq_false_iff_not]; intro e; subst e; exact hb1 rfl))))
theorem ZnR {J : World → Prop} (hJ : Stab J) (M : Nat) (T1 : Nat) (xs : List Int) (ts : List Int)  : FnM (ι := { q' : List Int // ∀ k', k' ∈ q' ↔ k' ∈ xs ∨ k' ∈ ts }) Tryz.prog J 65 [] [.lit (.map (some M)), .lit (.map (some T1))] [OB.set keyI M xs, OB.set keyI T1 ts] (fun _ => .tup []) (fun i' => [OB.set keyI M (i'.1), OB.set keyI T1 ts]) := by
 refine Yx (N := 16) Tryz.func65 rfl rfl (lb rfl) fun S w0 R hS hJ0 hH => ?_
 refine Xe (B := St All (SO S (OB.set keyI M xs :: OB.set keyI T1 ts :: R)) w0 16 [(0, .lit (.map (some M))), (1, .lit (.map (some T1)))] (XO J S w0.heap.size (OB.set keyI M xs :: OB.set keyI T1 ts :: R))) ?_ fun a w h => h
 refine tsq ?_
 refine snK 1 tb rfl ?_
 refine kw pm1 ?_
 refine Zgt (Kd := keyI) (f := (fun b : Bool => AV.bool b)) (L := (ts.map fun x => (x, true))) Zfy hJ hJ0 rfl rfl rfl (lb rfl) (fun a w h => (h.get 0 rfl)) fun b1 => ?_
 refine seK [0,2] [_,_] rfl ?_
 refine nx (Zb (lpo (ι := (List Int) × (List Int)) (fun (vis, tn) => (∀ q', q' ∈ tn ↔ q' ∈ xs ∨ q' ∈ vis) ∧ (vis.Nodup) ∧ (∀ q' ∈ vis, q' ∈ ts)) (fun (vis, tn) => (OB.iter b1 keyI (fun b : Bool => AV.bool b) T1 (ts.map fun x => (x, true)) vis :: OB.set keyI M tn :: R)) (fun (_, _) => []) (fun (vis, _) => ts.length - vis.length) [0,1] [_,_] (([] : List Int), xs) ⟨fun q' => by simp, by simp, fun q' h => by simp at h⟩ ?_))
 rintro ⟨vis, tn⟩ ⟨f1_1, f1_2, f1_3⟩
 refine tsq ?_
 refine ZiK (Kd := keyI) (f := (fun b : Bool => AV.bool b)) (L := (ts.map fun x => (x, true))) (vis := vis) (fun _ _ => trivial) hJ hJ0 rfl rfl rfl (lb rfl) (fun a w h => (h.get 0 rfl)) fun z2 h0z2 h1z2 => ?_
 refine sq (.bool z2.1) rfl rfl (lb rfl) (fun _ _ h => YV rfl (h.get 0 rfl) rfl h.x) ?_
 refine seK [0,2,3] [_,_,_] rfl ?_
 refine nx (cjS 0 (fun hb1 => ?_) fun hb1 => ?_)
 refine tw (ob0 (congrArg (fun z' => OB.iter b1 keyI (fun b : Bool => AV.bool b) T1 (ts.map fun x => (x, true)) (z')) (show (if z2.1 then vis ++ [z2.2] else vis) = (vis ++ [z2.2]) from by rw [hb1]; rfl))) ?_
 refine Za (nx (Zb (Zd (Yj tb hJ [1,2,1003,1004] [.tup [.int z2.2, .bool ((Zy (ts.map fun x => (x, true)) z2.2).getD default)],_,_,_,_] [0] [_,_,_,_] rfl ⟨fun _ _ _ hx hl _ => Zi2 (Kd := keyI) (f := (fun b : Bool => AV.bool b)) (L := (ts.map fun x => (x, true))) (k := z2.2) rfl (Zw hx (mo 0 rfl)) (trivial) (hl.env 1 7 _ rfl rfl) hx, trivial⟩ ?_))))
 refine kw (sa 3 rfl (show (.bool ((Zy (ts.map fun x => (x, true)) z2.2).getD default) : AV) = .bool true from by rw [(ZfC (h1z2 hb1).2).2])) ?_
 refine nx (ZN (snK 3 tb rfl ?_))
 refine kw pm1 ?_
 refine Zaq Yw hJ hJ0 z2.2 rfl rfl (.inl rfl) (fun a w h => ⟨(h.get 2 rfl), (h.get 1 rfl), (h.get 0 rfl)⟩) ?_
 refine seK [3,4] [_,_] rfl ?_
 refine kw pm1 ?_
 exact Yr (vis ++ [z2.2], Y5 tn z2.2) [0,1] ⟨fun q' => by rw [mem_addS, f1_1, List.mem_append, List.mem_singleton, or_assoc], by rw [List.nodup_append]; exact ⟨f1_2, by simp, fun x hx y hy e => by rw [List.mem_singleton.1 hy] at e; subst e; exact (h1z2 hb1).1 hx⟩, fun q' hq' => by rcases List.mem_append.1 hq' with h | h; exact f1_3 q' h; rw [List.mem_singleton.1 h]; exact (ZfC (h1z2 hb1).2).1⟩ (hm := (show ts.length - (vis ++ [z2.2]).length < ts.length - vis.length from ZkK f1_2 f1_3 (h1z2 hb1).1 (ZfC (h1z2 hb1).2).1))
 refine tw (ob0 (congrArg (fun z' => OB.iter b1 keyI (fun b : Bool => AV.bool b) T1 (ts.map fun x => (x, true)) (z')) (show (if z2.1 then vis ++ [z2.2] else vis) = vis from by rw [hb1]; rfl))) ?_
 refine Zl (kw ZcY ?_)
 refine kw pm1 ?_
 exact fun a w h => ZdL  ⟨tn, by intro k'; rw [f1_1]; exact ⟨fun h9 => h9.imp id (f1_3 k'), fun h9 => h9.imp id fun h8 => h0z2 hb1 k' (by rw [Zc1]; exact decide_eq_true h8)⟩⟩ rfl h rfl
theorem Zk9 {J : World → Prop} (hJ : Stab J) (d : Db) (l : List ByteArray) (hw : ∀ f ∈ d.frames, f.wide.length * 32 ≤ 140737488351232) (hG : XK J) : Fn Tryz.prog J 34 [.agg (dbC d), .rd (Zf l)] (.tup [.rd (ZJ (if Zam d l = 0 then ZbR d l d.frames.length else [])), .int (Zam d l)]) := by
 refine Zn (N := 56) Tryz.func34 rfl rfl (lb rfl) fun S w0 hS hJ0 => ?_
 refine tw Yb ?_
 refine ln 1 fun hl1 => ?_
 refine ZC tb hJ [1,1000] [.ptr (dbC d),_,_] [0] [_,_] rfl ⟨fun _ _ hk hx hl _ => Yk rfl (hl.env 0 0 _ rfl rfl) (Zo hS _ hk hx _ (Nat.le_refl _)) (jo hJ hx), trivial⟩ ?_
 refine ZC tb hJ [0,1,1005,1006] [_,.tup [gAV (rdE d ([] : List Int)) [Zf d.consts, Zf d.vars, Yv d.frames, ZG (usL d d.frames.length)], .int (rdE d ([] : List Int))],_,_,_,_,_] [1] [_,_,_,_] rfl ⟨fun _ _ hk hx hl _ => Zbi (ZeB hJ (d := d) (ns := ([] : List Int)) (hw) (hG)) Zcy rfl (Zo hS _ hk hx) (hx.1) (Zc (hl.dep 0 15 _ rfl rfl rfl rfl) (Zc (X8 (Rel.of_lit (Go.Value.slice none 0 0))) Zi)) (jo hJ hx), trivial⟩ ?_
 refine Zd (qso tb hJ [0,1,2,3,1001] [_,_] [_,_,_,_,_] ?_)
 refine cj 4 (fun hb1 => ?_) fun hb1 => ?_
 have c1 : ¬ Xk d = 0 := by rw [← Yc]; exact Q8 hb1
 have c2 : Zam d l = Xk d := if_neg c1
 refine qso tb hJ [1001,1002] [_,_,_] [_,_] ?_
 refine tw (fun h => Ys h (m := 0) (s := 4) rfl) ?_
 exact Ze (fun a w h => Ye (m := 0) (k := 1) rfl (ZK h) rfl rfl (congrArg (fun z => AV.rd (ZJ z)) (show ([] : List Int) = (if Zam d l = 0 then ZbR d l d.frames.length else []) from by first | (rw [c2, Yc]; done) | exact c2.symm | exact c0.symm | (rw [c2, if_neg c1]; done) | (rw [c2]; rfl) | (rw [if_pos c0, f2_2, show q = d.frames.length by omega]))) (eI (by first | (rw [c2, Yc]; done) | exact c2.symm | exact c0.symm | (rw [c2, if_neg c1]; done) | (rw [c2]; rfl) | (rw [if_pos c0, f2_2, show q = d.frames.length by omega]))))
 have e0 : Xk d = 0 := by rw [← Yc]; exact Zcd hb1
 have c3 := Xt e0
 have hul := Xl d d.frames.length
 refine tw (sa 2 rfl (show (gAV (rdE d ([] : List Int)) [Zf d.consts, Zf d.vars, Yv d.frames, ZG (usL d d.frames.length)] : AV) = .ptr [Zf d.consts, Zf d.vars, Yv d.frames, ZG (usL d d.frames.length)] from Zap (by rw [Yc]; exact e0))) ?_
 refine Za (nx (tsq ?_))
 refine Qq keyI hJ rfl rfl rfl (lb rfl) fun m1 => ?_
 refine snK 1 tb rfl ?_
 refine seK [0,2,3,4] [_,_,_,_] rfl ?_
 refine nx (Zd (ZC tb hJ [0,2,3,1000,1001,1002] [_,.int (l.length : Nat),_] [1] [_,_,_,_,_,_] rfl ⟨ZZ Zr, trivial⟩ ?_))
 refine Zb (lpo (ι := Nat × (List Int)) (fun (k, us) => (k ≤ l.length) ∧ (∀ x, x ∈ us ↔ XJ d (l.take k) x) ∧ (ZmR d (l.take k) = false)) (fun (_, us) => [OB.set keyI m1 us]) (fun (k, _) => [(25, .int (k : Nat))]) (fun (k, _) => l.length - k) [0,1,2,3,4,5] [_,_,_,_,_] (0, ([] : List Int)) ⟨Nat.zero_le _, fun x => by simp [ZcU], rfl⟩ ?_)
 rintro ⟨k, us⟩ ⟨f1_1, f1_2, f1_3⟩
 refine qso tb hJ [0,1,2,3,4,5,1000] [_] [_,_,_,_,_,_,_] ?_
 refine cjS 6 (fun hb2 => ?_) fun hb2 => ?_
 try simp at hb2
 refine Za (nx (Zd (Zb (ZC tb hJ [0,1,2,3,4,5,1002] [.ptr [.lit (.string (ge l k))],_,_] [0] [_,_,_,_,_,_,_] rfl ⟨iIx Zh, trivial⟩ ?_))))
 refine ZC tb hJ [0,1,2,3,4,5,1003] [_,_,.int (ZX d (ge l k)),_] [2] [_,_,_,_,_,_,_] rfl ⟨iFo hS hJ (Zna hJ (d := d) (s := (ge l k)) ) Zkh, trivial⟩ ?_
 refine Zd (qso tb hJ [0,1,2,3,4,5,6,1001] [_,_] [_,_,_,_,_,_,_,_] ?_)
 refine cj 7 (fun hb3 => ?_) fun hb3 => ?_
 have c2 : Zam d l = 5 := by rw [Zam, if_pos e0, if_pos (Zgq (by omega) (of_decide_eq_true hb3))]
 refine qso tb hJ [1000,1001] [_,_] [_,_] ?_
 refine tw (fun h => Ys h (m := 0) (s := 4) rfl) ?_
 exact Ze (fun a w h => Ye (m := 0) (k := 1) rfl (ZK h) rfl rfl (congrArg (fun z => AV.rd (ZJ z)) (show ([] : List Int) = (if Zam d l = 0 then ZbR d l d.frames.length else []) from by first | (rw [c2, Yc]; done) | exact c2.symm | exact c0.symm | (rw [c2, if_neg c1]; done) | (rw [c2]; rfl) | (rw [if_pos c0, f2_2, show q = d.frames.length by omega]))) (eI (by first | (rw [c2, Yc]; done) | exact c2.symm | exact c0.symm | (rw [c2, if_neg c1]; done) | (rw [c2]; rfl) | (rw [if_pos c0, f2_2, show q = d.frames.length by omega]))))
 have e4 := of_decide_eq_false hb3
 have e5 := Zau e4
 have e8 : (((ZX d (ge l k)).toNat : Nat) : Int) = (ZX d (ge l k)) := by omega
 refine Za (nx (tw (sa 6 rfl (congrArg AV.int (show ZX d (ge l k) = (((ZX d (ge l k)).toNat : Nat) : Int) from by omega))) ?_))
 refine ZN (snK 3 tb rfl ?_)
 refine Zag (O := []) (R := [OB.set keyI m1 us]) (Zb3 hJ (d := d) (us := (usL d d.frames.length)) (n := ((ZX d (ge l k)).toNat)) (ZQ _ _) (by rw [Xl]; omega)) Zcx rfl rfl rfl (lb rfl) hS hJ0 ZE (fun a w h => (Zc (h.get 1 rfl) (Zc (h.get 0 rfl) Zi))) fun z2 => ?_
 refine kw pm1 ?_
 refine Zag (O := [OB.set keyI m1 us, OB.set keyI z2.1.1 z2.1.2]) (R := []) (ZnR hJ (M := m1) (T1 := z2.1.1) (xs := us) (ts := z2.1.2) ) Zou rfl rfl rfl (lb rfl) hS hJ0 ZE (fun a w h => (Zc (h.get 3 rfl) (Zc (h.get 0 rfl) Zi))) fun z3 => ?_
 refine seK [5,6,7,8,9,10] [_,_,_,_,_,_] rfl ?_
 refine nx (Yj tb hJ [0,1,2,3,4,1001] [.int (k + 1 : Nat),_] [0] [_,_,_,_,_,_] rfl ⟨Z2, trivial⟩ ?_)
 refine kw pm1 ?_
 refine kw Yp ?_
 exact Yr (k + 1, z3.1) [0,1,2,3,4,5] ⟨by omega, fun x => by rw [ZbQ (by omega), z3.2 x, f1_2, z2.2.iff, e8], Zel (by omega) f1_3 e4⟩
 try simp at hb2
 have e2 : ∀ x, x ∈ us ↔ XJ d l x := by rw [Zu (by omega)] at f1_2; exact f1_2
 have c0 : Zam d l = 0 := by rw [Zu (by omega)] at f1_3; rw [Zam, if_pos e0, f1_3]; rfl
 refine Zl (nx (qso tb hJ [0,1,1000] [_] [_,_,_] ?_))
 refine Zd (ZC tb hJ [0,2,1001,1002,1003] [_,_,.int (d.frames.length : Nat),_] [2] [_,_,_,_,_] rfl ⟨ZZ Z7, trivial⟩ ?_)
 refine ln 2 fun hl2 => ?_
 refine Zb (tw (Yo 3 1 hJ) ?_)
 refine lpo (ι := Nat × Value × (List Int)) (fun (q, _, out) => (q ≤ d.frames.length) ∧ (out = ZbR d l q)) (fun (_, vp, out) => [OB.row vp 3 1 (out.map Xa), OB.set keyI m1 us]) (fun (q, vp, _) => [(43, .int (q : Nat)), (12, .lit vp)]) (fun (q, _, _) => d.frames.length - q) [0,3,4,1] [_,_] (0, (.slice none 0 0), ([] : List Int)) ⟨Nat.zero_le _, rfl⟩ ?_
 rintro ⟨q, vp, out⟩ ⟨f2_1, f2_2⟩
 refine qso tb hJ [0,1,2,3,1000] [_] [_,_,_,_,_] ?_
 refine cjS 4 (fun hb4 => ?_) fun hb4 => ?_
 try simp at hb4
 refine Za (nx (Zd (Zb (qso tb hJ [0,1,2,3,1001] [_,_] [_,_,_,_,_] ?_))))
 refine ZC tb hJ [0,1,2,3,4,1003] [_,_,.bool (decide ((q : Int) ∈ us)),_] [2] [_,_,_,_,_,_] rfl ⟨fun _ _ _ hx hl _ => Z4 (Kd := keyI) (xs := us) Yw ZL (q : Int) rfl (Zw hx (mo 1 rfl)) (hl.dep 0 46 _ rfl rfl rfl rfl) (hl.dep 1 47 _ rfl rfl rfl rfl) hx, trivial⟩ ?_
 refine cj 5 (fun hb5 => ?_) fun hb5 => ?_
 have e6 : ¬ XJ d l (q : Int) := by have h := Q8 hb5; rwa [e2] at h
 refine ZN (snK 2 tb rfl ?_)
 refine sq (.rd (ZJ ([(q : Int)]))) rfl rfl (lb rfl) (fun _ _ h => ZV Zq XT rfl (h.get 0 rfl) (Zo hS _ h.keep h.x _ (Nat.le_refl _)) (jo hJ h.x)) ?_
 refine ZM (f := Xa) (m := 2) (s := 50) out ([(q : Int)]) (fun _ => rfl) YT hJ hJ0 rfl rfl rfl (lb rfl) rfl rfl (fun a w h => (h.get 0 rfl)) (by have := X5 d l q; rw [f2_2]; simp; omega) (by have := X5 d l q; rw [f2_2]; simp; omega) fun v4 => ?_
 refine snK 1 tb rfl ?_
 refine seK [0,2,5,6,7] [_,_,_,_,_] rfl ?_
 refine nx (ln 1 fun hl3 => ?_)
 refine Yj tb hJ [0,2,3,1001] [.int (q + 1 : Nat),_] [0] [_,_,_,_] rfl ⟨Z2, trivial⟩ ?_
 exact Yr (q + 1, v4, out ++ ([(q : Int)])) [1,2,3,0] ⟨by omega, by rw [ZaB, ← f2_2]; first | (rw [if_neg e6]; done) | (rw [if_pos e6]; simp; done)⟩
 have e6 : XJ d l (q : Int) := by have h := Zcd hb5; rwa [e2] at h
 refine Za (nx (Yj tb hJ [0,1,3,1001] [.int (q + 1 : Nat),_] [0] [_,_,_,_] rfl ⟨Z2, trivial⟩ ?_))
 exact Yr (q + 1, vp, out) [0,1,3,2] ⟨by omega, by rw [ZaB, ← f2_2]; first | (rw [if_neg e6]; done) | (rw [if_pos e6]; simp; done)⟩
 try simp at hb4
 refine Zl (nx (qso tb hJ [1001,1002] [_,_,_] [_,_] ?_))
 refine tw (fun h => ZB hS h (m := 0) (s := 4) rfl) ?_
 exact Ze (fun a w h => Ye (m := 0) (k := 1) rfl (ZK h) rfl rfl (congrArg (fun z => AV.rd (ZJ z)) (show out = (if Zam d l = 0 then ZbR d l d.frames.length else []) from by first | (rw [c2, Yc]; done) | exact c2.symm | exact c0.symm | (rw [c2, if_neg c1]; done) | (rw [c2]; rfl) | (rw [if_pos c0, f2_2, show q = d.frames.length by omega]))) (eI (by first | (rw [c2, Yc]; done) | exact c2.symm | exact c0.symm | (rw [c2, if_neg c1]; done) | (rw [c2]; rfl) | (rw [if_pos c0, f2_2, show q = d.frames.length by omega]))))
theorem ZeI {J : World → Prop} (hJ : Stab J) (d : Db) (m : ByteArray) (hw : ∀ f ∈ d.frames, f.wide.length * 32 ≤ 140737488351232) (hG : XK J) : Fn Tryz.prog J 37 [.agg (dbC d), .str m] (.tup [.rd (YI (if deE d m = 0 then ZcN d m d.frames.length else [])), .int (deE d m)]) := by
 refine Zn (N := 74) Tryz.func37 rfl rfl (lb rfl) fun S w0 hS hJ0 => ?_
 refine tw Yb ?_
 refine ZC tb hJ [1,1000] [.ptr (dbC d),_,_] [0] [_,_] rfl ⟨fun _ _ hk hx hl _ => Yk rfl (hl.env 0 0 _ rfl rfl) (Zo hS _ hk hx _ (Nat.le_refl _)) (jo hJ hx), trivial⟩ ?_
 refine ZC tb hJ [0,1,1005,1006] [_,.tup [gAV (rdE d ([] : List Int)) [Zf d.consts, Zf d.vars, Yv d.frames, ZG (usL d d.frames.length)], .int (rdE d ([] : List Int))],_,_,_,_,_] [1] [_,_,_,_] rfl ⟨fun _ _ hk hx hl _ => Zbi (ZeB hJ (d := d) (ns := ([] : List Int)) (hw) (hG)) Zcy rfl (Zo hS _ hk hx) (hx.1) (Zc (hl.dep 0 14 _ rfl rfl rfl rfl) (Zc (X8 (Rel.of_lit (Go.Value.slice none 0 0))) Zi)) (jo hJ hx), trivial⟩ ?_
 refine Zd (qso tb hJ [0,1,2,3,1001] [_,_] [_,_,_,_,_] ?_)
 refine cj 4 (fun hb1 => ?_) fun hb1 => ?_
 have c1 : ¬ Xk d = 0 := by rw [← Yc]; exact Q8 hb1
 have c2 : deE d m = Xk d := if_neg c1
 refine qso tb hJ [1001,1002] [_,_,_] [_,_] ?_
 refine tw (fun h => Ys h (m := 0) (s := 4) rfl) ?_
 exact Ze (fun a w h => Ye (m := 0) (k := 1) rfl (ZK h) rfl rfl (congrArg (fun z => AV.rd (YI z)) (show ([] : List Pr) = (if deE d m = 0 then ZcN d m d.frames.length else []) from by first | (rw [c2, Yc]; done) | exact c2.symm | exact c0.symm | (rw [c2, if_neg c1]; done) | (rw [c2]; rfl) | (rw [if_pos c0, f1_2, show i = d.frames.length by omega]))) (eI (by first | (rw [c2, Yc]; done) | exact c2.symm | exact c0.symm | (rw [c2, if_neg c1]; done) | (rw [c2]; rfl) | (rw [if_pos c0, f1_2, show i = d.frames.length by omega]))))
 have e0 : Xk d = 0 := by rw [← Yc]; exact Zcd hb1
 have c3 := Xt e0
 have hul := Xl d d.frames.length
 refine tw (sa 2 rfl (show (gAV (rdE d ([] : List Int)) [Zf d.consts, Zf d.vars, Yv d.frames, ZG (usL d d.frames.length)] : AV) = .ptr [Zf d.consts, Zf d.vars, Yv d.frames, ZG (usL d d.frames.length)] from Zap (by rw [Yc]; exact e0))) ?_
 refine Za (nx (Zd (qso tb hJ [0,1,2,1001] [_,_] [_,_,_,_] ?_)))
 refine cj 3 (fun hb2 => ?_) fun hb2 => ?_
 have c2 : deE d m = 1 := by rw [deE, if_pos e0, if_pos (of_decide_eq_true hb2)]
 refine qso tb hJ [1000,1001] [_,_] [_,_] ?_
 refine tw (fun h => Ys h (m := 0) (s := 4) rfl) ?_
 exact Ze (fun a w h => Ye (m := 0) (k := 1) rfl (ZK h) rfl rfl (congrArg (fun z => AV.rd (YI z)) (show ([] : List Pr) = (if deE d m = 0 then ZcN d m d.frames.length else []) from by first | (rw [c2, Yc]; done) | exact c2.symm | exact c0.symm | (rw [c2, if_neg c1]; done) | (rw [c2]; rfl) | (rw [if_pos c0, f1_2, show i = d.frames.length by omega]))) (eI (by first | (rw [c2, Yc]; done) | exact c2.symm | exact c0.symm | (rw [c2, if_neg c1]; done) | (rw [c2]; rfl) | (rw [if_pos c0, f1_2, show i = d.frames.length by omega]))))
 have c0 : deE d m = 0 := by rw [deE, if_pos e0, if_neg (of_decide_eq_false hb2)]
 refine Za (nx (qso tb hJ [0,1,2,1000] [_] [_,_,_,_] ?_))
 refine Zd (ZC tb hJ [0,1,3,1003,1004,1005] [_,_,_,_,.int ((usL d d.frames.length).length : Nat),_] [4] [_,_,_,_,_,_] rfl ⟨ZZ ZcW, trivial⟩ ?_)
 refine ln 3 fun hl1 => ?_
 refine Zb (tw (Yo 53 2 hJ) ?_)
 refine lpo (ι := Nat × Value × (List Pr)) (fun (i, _, out) => (i ≤ (usL d d.frames.length).length) ∧ (out = ZcN d m i) ∧ (out.length ≤ i * 400)) (fun (_, vo, out) => [OB.row vo 53 2 (out.map prC)]) (fun (i, vo, _) => [(28, .int (i : Nat)), (8, .lit vo)]) (fun (i, _, _) => (usL d d.frames.length).length - i) [0,1,3,4,5,2] [_,_,_,_] (0, (.slice none 0 0), ([] : List Pr)) ⟨Nat.zero_le _, rfl, Nat.zero_le _⟩ ?_
 rintro ⟨i, vo, out⟩ ⟨f1_1, f1_2, f1_3⟩
 refine qso tb hJ [0,1,2,3,4,5,1000] [_] [_,_,_,_,_,_,_] ?_
 refine cjS 6 (fun hb3 => ?_) fun hb3 => ?_
 try simp at hb3
 have e7 := Zek d i
 refine Za (nx (Zd (Zb (Zd (Yj tb hJ [0,1,2,3,4,5,1002,1003,1004] [_,.ptr [ZJ (ge (usL d d.frames.length) i)],_,_,_] [1] [_,_,_,_,_,_,_,_,_] rfl ⟨iIx XI, trivial⟩ ?_)))))
 refine kw (sa 8 rfl (congrArg (fun z' => AV.rd (ZJ z')) (show (ge (usL d d.frames.length) i) = (ZT d i) from by rw [ZcV (by omega)]))) ?_
 refine nx (ln 6 fun hl2 => ?_)
 refine ln 8 fun hl3 => ?_
 refine Zd (ZC tb hJ [0,1,2,3,4,5,7,8,1001,1007] [_,_,_,.ptr (frC (ge d.frames i)),_,_,_,.bool (ZdQ ((ge d.frames i).label) m)] [3,7] [_,_,_,_,_,_,_,_,_,_] rfl ⟨iIx ZD, iFo hS hJ (Zb5 hJ (s := ((ge d.frames i).label)) (m := m) ) Zke, trivial⟩ ?_)
 refine ln 8 fun hl4 => ?_
 refine cj 9 (fun hb4 => ?_) fun hb4 => ?_
 refine Zl (nx (Yj tb hJ [0,1,2,3,5,1001] [.int (i + 1 : Nat),_] [0] [_,_,_,_,_,_] rfl ⟨Z2, trivial⟩ ?_))
 exact Yr (i + 1, vo, out) [0,1,2,3,5,4] ⟨by omega, by rw [Zcu, ← f1_2]; first | (rw [Zhk hb4, List.append_nil]; done) | (rw [f2_2, Zu (by omega)]), by omega⟩
 refine Za (nx (ZC tb hJ [0,1,2,3,4,5,6,1000,1001,1002] [_,.int ((ZT d i).length : Nat),_] [1] [_,_,_,_,_,_,_,_,_,_] rfl ⟨ZZ Ym, trivial⟩ ?_))
 refine Zb (lpo (ι := Nat × Value × (List Pr)) (fun (j, _, out2) => (j ≤ (ZT d i).length) ∧ (out2 = out ++ Zj1 d m i ((ZT d i).take j)) ∧ (out2.length ≤ i * 400 + j)) (fun (_, vp, out2) => [OB.row vp 53 2 (out2.map prC)]) (fun (j, vp, _) => [(43, .int (j : Nat)), (8, .lit vp)]) (fun (j, _, _) => (ZT d i).length - j) [0,1,2,3,4,6,7,8,9,5] [_,_,_,_,_,_,_,_] (0, vo, out) ⟨Nat.zero_le _, by rw [List.take_zero, Zhl, List.append_nil], by omega⟩ ?_)
 rintro ⟨j, vp, out2⟩ ⟨f2_1, f2_2, f2_3⟩
 refine qso tb hJ [0,1,2,3,4,5,6,7,8,9,1000] [_] [_,_,_,_,_,_,_,_,_,_,_] ?_
 refine cjS 10 (fun hb5 => ?_) fun hb5 => ?_
 try simp at hb5
 have e3 := ZQ d d.frames.length i _ (by rw [ZcV (by omega)]; exact Zg (xs := ZT d i) (k := j) (by omega))
 refine Za (nx (Zd (Zb (ZC tb hJ [0,1,2,3,4,5,6,7,8,9,1002] [.ptr [.lit (.int .i64 (ge (ZT d i) j))],_,_] [0] [_,_,_,_,_,_,_,_,_,_,_] rfl ⟨iIx Zq, trivial⟩ ?_))))
 refine ZC tb hJ [0,1,2,3,4,5,6,7,8,9,10,1007] [_,_,_,.ptr (frC (ge d.frames (ge (ZT d i) j).toNat)),_,_,_,.bool (ZdQ ((ge d.frames (ge (ZT d i) j).toNat).label) m)] [3,7] [_,_,_,_,_,_,_,_,_,_,_,_] rfl ⟨iIz ZD, iFo hS hJ (Zb5 hJ (s := ((ge d.frames (ge (ZT d i) j).toNat).label)) (m := m) ) Zke, trivial⟩ ?_
 refine cj 11 (fun hb6 => ?_) fun hb6 => ?_
 refine fun a w h => Qi [] (γ := Value) (fun ix' => ([.lit vp, .ptr [Yv d.frames], .rd (Yv d.frames), .int (i : Nat), .ptr (frC (ge d.frames i)), .ptr (frC (ge d.frames i)), .str ((ge d.frames i).label), .ptr [Yv d.frames], .rd (Yv d.frames), .int (ge (ZT d i) j), .ptr (frC (ge d.frames (ge (ZT d i) j).toNat)), .ptr (frC (ge d.frames (ge (ZT d i) j).toNat)), .str ((ge d.frames (ge (ZT d i) j).toNat).label), .agg (prC (⟨(ge d.frames i).label, (ge d.frames (ge (ZT d i) j).toNat).label⟩ : Pr)), .rd (YI ([(⟨(ge d.frames i).label, (ge d.frames (ge (ZT d i) j).toNat).label⟩ : Pr)])), .any, .any] : List AV).getD ix' .any) (fun ix' => ([true, true, true, true, true, true, true, true, true, true, true, true, true, true, true, true, true] : List Bool).getD ix' true) [(1, fun (g : Value) => .str m), (2, fun (g : Value) => .ptr (dbC d)), (26, fun (g : Value) => .rd (ZG (usL d d.frames.length))), (27, fun (g : Value) => .int ((usL d d.frames.length).length : Nat)), (28, fun (g : Value) => .int (i : Nat)), (9, fun (g : Value) => .int (i : Nat)), (41, fun (g : Value) => .rd (ZJ (ZT d i))), (42, fun (g : Value) => .int ((ZT d i).length : Nat)), (43, fun (g : Value) => .int (j : Nat)), (8, fun (g : Value) => .lit g)] (fun (j' : Nat) (g : Value) => match j' with | 0 => [OB.row vp 53 2 (out2.map prC)] | 1 => [OB.row g 53 2 ((out2 ++ ([(⟨(ge d.frames i).label, (ge d.frames (ge (ZT d i) j).toNat).label⟩ : Pr)])).map prC)] | _ => [OB.row g 53 2 ((out2 ++ ([(⟨(ge d.frames i).label, (ge d.frames (ge (ZT d i) j).toNat).label⟩ : Pr)])).map prC)]) (fun (k' : Nat) (g : Value) => match k' with | 0 => g | 1 => g | _ => undef) [15, 16] 2 (.slice none 0 0) (fun _ => rfl) h hJ YJ rfl rfl rfl rfl rfl rfl (fun j' g hj p hp => by rcases j' with _ | _ | _ | j' <;> first | exact hp | exact List.mem_cons_of_mem _ hp | exact List.mem_cons_of_mem _ (List.mem_cons_of_mem _ hp) | (exfalso; omega)) ⟨?o15_1_0, ⟨?o15_1_1, ⟨?o15_1_2, ⟨?o15_1_3, ⟨?o15_1_4, ⟨?o15_1_5, ⟨?o15_1_6, ⟨?o15_1_7, ⟨?o15_1_8, ⟨?o15_1_9, ⟨?o15_1_10, ⟨?o15_1_11, ⟨?o15_1_12, ⟨?o15_1_13, ⟨?o15_1_14, ⟨?o15_1_15, ⟨?o15_1_16, trivial⟩⟩⟩⟩⟩⟩⟩⟩⟩⟩⟩⟩⟩⟩⟩⟩⟩ ⟨?e15_1_0, ⟨?e15_1_1, trivial⟩⟩ ⟨.old 0 1 _ rfl rfl, ⟨.old 1 2 _ rfl rfl, ⟨.old 2 26 _ rfl rfl, ⟨.old 3 27 _ rfl rfl, ⟨.old 4 28 _ rfl rfl, ⟨.old 5 9 _ rfl rfl, ⟨.old 6 41 _ rfl rfl, ⟨.old 7 42 _ rfl rfl, ⟨.old 8 43 _ rfl rfl, ⟨.eff 1 16 8 (fun (g : Value) => g) rfl rfl (fun _ => rfl) (fun _ _ hx => Qr (hx.2.1 _ (mo 0 rfl))), trivial⟩⟩⟩⟩⟩⟩⟩⟩⟩⟩ ?n15_1
 case o15_1_0 => exact fun _ O' _ => ⟨rfl, fun _ _ _ hx hl _ => Yd rfl (hl.env 9 8 _ rfl rfl) hx⟩
 case o15_1_1 => exact fun _ O' _ => ⟨rfl, fun _ _ _ hx hl _ => ZW Zaa rfl (hl.env 1 2 _ rfl rfl) hx⟩
 case o15_1_2 => exact fun _ O' _ => ⟨rfl, fun _ _ _ hx hl _ => ZO ZgZ rfl (hl.dep 1 56 _ rfl rfl rfl rfl) hx⟩
 case o15_1_3 => exact fun _ O' _ => ⟨rfl, fun _ _ _ hx hl _ => Yd rfl (hl.env 5 9 _ rfl rfl) hx⟩
 case o15_1_4 => exact fun _ O' _ => ⟨rfl, fun _ _ _ hx hl _ => Z0 (i := (i : Int)) ZD rfl (hl.dep 2 57 _ rfl rfl rfl rfl) (hl.dep 3 58 _ rfl rfl rfl rfl) (Int.natCast_nonneg _) (Yh (xs := d.frames) (k := i) (by first | omega | (simp; omega) | grind [Zg])) rfl hx⟩
 case o15_1_5 => exact fun _ O' _ => ⟨rfl, fun _ _ _ hx hl _ => ZW XS rfl (hl.dep 4 59 _ rfl rfl rfl rfl) hx⟩
 case o15_1_6 => exact fun _ O' _ => ⟨rfl, fun _ _ _ hx hl _ => ZO Za7 rfl (hl.dep 5 60 _ rfl rfl rfl rfl) hx⟩
 case o15_1_7 => exact fun _ O' _ => ⟨rfl, fun _ _ _ hx hl _ => ZW Zaa rfl (hl.env 1 2 _ rfl rfl) hx⟩
 case o15_1_8 => exact fun _ O' _ => ⟨rfl, fun _ _ _ hx hl _ => ZO ZgZ rfl (hl.dep 7 62 _ rfl rfl rfl rfl) hx⟩
 case o15_1_9 => exact fun _ O' _ => ⟨rfl, fun _ _ _ hx hl _ => Yd rfl (hl.env 10 12 _ rfl rfl) hx⟩
 case o15_1_10 => exact fun _ O' _ => ⟨rfl, fun _ _ _ hx hl _ => Z0 (i := (ge (ZT d i) j)) ZD rfl (hl.dep 8 63 _ rfl rfl rfl rfl) (hl.dep 9 64 _ rfl rfl rfl rfl) (by first | omega | (simp; omega) | grind [Zg]) (Za2 (xs := d.frames) (i := (ge (ZT d i) j)) (by first | omega | (simp; omega) | grind [Zg]) (by first | omega | (simp; omega) | grind [Zg])) rfl hx⟩
 case o15_1_11 => exact fun _ O' _ => ⟨rfl, fun _ _ _ hx hl _ => ZW XS rfl (hl.dep 10 65 _ rfl rfl rfl rfl) hx⟩
 case o15_1_12 => exact fun _ O' _ => ⟨rfl, fun _ _ _ hx hl _ => ZO Za7 rfl (hl.dep 11 66 _ rfl rfl rfl rfl) hx⟩
 case o15_1_13 => exact fun _ O' _ => ⟨rfl, fun a _ _ hx hl _ => Zb2 (us := [a.eval (Go.Operand.tmp 61), a.eval (Go.Operand.tmp 67)]) ZcB rfl (by simp) (ZR (hl.dep 6 61 _ rfl rfl rfl rfl) (ZR (hl.dep 12 67 _ rfl rfl rfl rfl) XB)) rfl hx⟩
 case o15_1_14 => exact fun _ O' _ => ⟨rfl, fun _ _ hk hx hl _ => ZaI XH Zip (by decide) rfl rfl (hl.dep 13 68 _ rfl rfl rfl rfl) (Zo hS _ hk hx _ (Nat.le_refl _)) (jo hJ hx)⟩
 case o15_1_15 => exact Zk rfl
 case o15_1_16 => exact Zk rfl
 case e15_1_0 => exact ⟨_, rfl, rfl, rfl, rfl, fun _ _ w hk hx hl _ => Zx (XQ (f := prC) out2 ([(⟨(ge d.frames i).label, (ge d.frames (ge (ZT d i) j).toNat).label⟩ : Pr)]) (fun _ => rfl) Zfi hJ hJ0 rfl hk hx (hl.dep 0 55 _ rfl rfl rfl rfl).lit (hl.dep 14 69 _ rfl rfl rfl rfl) (by simp; omega) (by simp; omega)) fun v w' hp => ⟨v, rfl, fun k' hk' => absurd hk' (Nat.not_lt_zero _), fun _ => rfl, hp⟩⟩
 case e15_1_1 => exact ⟨_, rfl, rfl, rfl, rfl, fun g _ w hk hx _ hs => Zx (QB (.inl rfl) (hs 0 15 _ 70 (by omega) rfl rfl rfl) hk hx) fun v w' hp => ⟨g, rfl, fun _ _ => rfl, fun _ => hp.1, hp.2⟩⟩
 clear a w h
 intro v1
 change ∀ a w, St All (SO S [OB.row v1 53 2 ((out2 ++ ([(⟨(ge d.frames i).label, (ge d.frames (ge (ZT d i) j).toNat).label⟩ : Pr)])).map prC)]) w0 74 [(1, .str m), (2, .ptr (dbC d)), (26, .rd (ZG (usL d d.frames.length))), (27, .int ((usL d d.frames.length).length : Nat)), (28, .int (i : Nat)), (9, .int (i : Nat)), (41, .rd (ZJ (ZT d i))), (42, .int ((ZT d i).length : Nat)), (43, .int (j : Nat)), (8, .lit v1)] (XO J S w0.heap.size [OB.row v1 53 2 ((out2 ++ ([(⟨(ge d.frames i).label, (ge d.frames (ge (ZT d i) j).toNat).label⟩ : Pr)])).map prC)]) a w → _
 refine nx (ln 2 fun hl5 => ?_)
 refine ln 6 fun hl6 => ?_
 refine Yj tb hJ [0,1,2,3,4,5,6,7,9,1001] [.int (j + 1 : Nat),_] [0] [_,_,_,_,_,_,_,_,_,_] rfl ⟨Z2, trivial⟩ ?_
 exact Yr (j + 1, v1, out2 ++ ([(⟨(ge d.frames i).label, (ge d.frames (ge (ZT d i) j).toNat).label⟩ : Pr)])) [0,1,2,3,4,5,6,7,9,8] ⟨by omega, by rw [ZI (by omega), ZaR, ← List.append_assoc, ← f2_2]; first | (rw [if_pos (by rw [hb4, hb6]; rfl)]; rfl) | (rw [if_neg (by rw [hb4, hb6]; decide)]; simp; done), by first | omega | (simp; omega)⟩
 refine Za (nx (Yj tb hJ [0,1,2,3,4,5,6,7,9,1001] [.int (j + 1 : Nat),_] [0] [_,_,_,_,_,_,_,_,_,_] rfl ⟨Z2, trivial⟩ ?_))
 exact Yr (j + 1, vp, out2) [0,1,2,3,4,5,6,7,9,8] ⟨by omega, by rw [ZI (by omega), ZaR, ← List.append_assoc, ← f2_2]; first | (rw [if_pos (by rw [hb4, hb6]; rfl)]; rfl) | (rw [if_neg (by rw [hb4, hb6]; decide)]; simp; done), by first | omega | (simp; omega)⟩
 try simp at hb5
 refine Zl (nx (Yj tb hJ [0,1,2,3,9,1001] [.int (i + 1 : Nat),_] [0] [_,_,_,_,_,_] rfl ⟨Z2, trivial⟩ ?_))
 exact Yr (i + 1, vp, out2) [0,1,2,3,5,4] ⟨by omega, by rw [Zcu, ← f1_2]; first | (rw [Zhk hb4, List.append_nil]; done) | (rw [f2_2, Zu (by omega)]), by omega⟩
 try simp at hb3
 refine Zl (nx (qso tb hJ [1001,1002] [_,_,_] [_,_] ?_))
 refine tw (fun h => ZB hS h (m := 0) (s := 4) rfl) ?_
 exact Ze (fun a w h => Ye (m := 0) (k := 1) rfl (ZK h) rfl rfl (congrArg (fun z => AV.rd (YI z)) (show out = (if deE d m = 0 then ZcN d m d.frames.length else []) from by first | (rw [c2, Yc]; done) | exact c2.symm | exact c0.symm | (rw [c2, if_neg c1]; done) | (rw [c2]; rfl) | (rw [if_pos c0, f1_2, show i = d.frames.length by omega]))) (eI (by first | (rw [c2, Yc]; done) | exact c2.symm | exact c0.symm | (rw [c2, if_neg c1]; done) | (rw [c2]; rfl) | (rw [if_pos c0, f1_2, show i = d.frames.length by omega]))))
end Go.Proofs.YtnpgmdffjemnbaaGreatDoor
set_option maxHeartbeats 8000000
set_option maxRecDepth 100000
namespace Go.Proofs.YtnpgmdffjemnbaaGreatDoor
open Go.RowKit
theorem ZoI : Zj Tryz.prog 34 := Zp Tryz.func34 rfl rfl
theorem ZoH : Zj Tryz.prog 35 := Zp Tryz.func35 rfl rfl
theorem ZoG : Zj Tryz.prog 36 := Zp Tryz.func36 rfl rfl
theorem ZoF : Zj Tryz.prog 37 := Zp Tryz.func37 rfl rfl
theorem ZoE : Zj Tryz.prog 38 := Zp Tryz.func38 rfl rfl
theorem ZoD : Zj Tryz.prog 39 := Zp Tryz.func39 rfl rfl
theorem Zh0 {J : World → Prop} (hJ : Stab J) (d : Db) (l : List ByteArray) (m : ByteArray) (hw : ∀ f ∈ d.frames, f.wide.length * 32 ≤ 140737488351232) (hG : XK J) : Fn Tryz.prog J 7 [.agg (dbC d), .rd (Zf l), .str m] (.bool true) := by
 refine Zn (N := 95) Tryz.func7 rfl rfl (lb rfl) fun S w0 hS hJ0 => ?_
 refine tw Yb ?_
 refine ln 1 fun hl1 => ?_
 have hw2 : ∀ i, i < d.frames.length → (ge d.frames i).wide.length * 32 ≤ 140737488351232 := fun i hi => hw _ (Zg hi)
 refine ZC tb hJ [1,2,1000] [.ptr (dbC d),_] [0] [_,_,_] rfl ⟨fun _ _ hk hx hl _ => Yk rfl (hl.env 0 0 _ rfl rfl) (Zo hS _ hk hx _ (Nat.le_refl _)) (jo hJ hx), trivial⟩ ?_
 refine Zd (ZC tb hJ [0,1,2,1007] [_,.bool (fewD d),_,_,_,.int (l.length : Nat),_,_] [1,5] [_,_,_,_] rfl ⟨iFo hS hJ (w_Few hJ (d := d) ) call_8, ZZ Zr, trivial⟩ ?_)
 refine cj 3 (fun hb1 => ?_) fun hb1 => ?_
 refine ZC tb hJ [1001] [.bool true,_] [0] [_] rfl ⟨iFo hS hJ (Ziw hJ  (by exact hG)) Znk, trivial⟩ ?_
 exact Ze (Y2 (m := 0) rfl rfl rfl)
 have hl40 : l.length ≤ 40 := by simp at hb1; omega
 refine Za (nx (ZC tb hJ [0,1,2,1004,1006,1007] [_,_,.tup [.rd (ZJ (if Zam d l = 0 then ZbR d l d.frames.length else [])), .int (Zam d l)],_,_,_,_,_] [2] [_,_,_,_,_,_] rfl ⟨iFo hS hJ (Zk9 hJ (d := d) (l := l) (by exact hw) (by exact hG)) ZoI, trivial⟩ ?_))
 refine ln 3 fun hl2 => ?_
 refine ZC tb hJ [0,1,2,4,5,1006,1007] [_,_,.tup [.rd (ZJ (if Zam d l = 0 then ZbR d l d.frames.length else [])), .int (Zam d l)],_,_,_,_,_] [2] [_,_,_,_,_,_,_] rfl ⟨iFo hS hJ (ZmG hJ (d := d) (l := l) (by exact hw2) (by exact hl40)) ZoH, trivial⟩ ?_
 refine ZC tb hJ [0,1,2,3,4,5,6,1004,1006,1007] [_,_,.tup [.rd (ZJ (if QG d l = 0 then Zec d l else [])), .int (QG d l)],_,_,_,_,_] [2] [_,_,_,_,_,_,_,_,_,_] rfl ⟨iFo hS hJ (ZnN hJ (d := d) (l := l) (by exact hw) (by exact hG) (by exact hl40)) ZoL, trivial⟩ ?_
 refine ln 7 fun hl3 => ?_
 refine ZC tb hJ [1,2,3,4,5,6,8,9,1006,1007] [_,_,.tup [.rd (ZJ (if QG d l = 0 then Zec d l else [])), .int (QG d l)],_,_,_,_,_] [2] [_,_,_,_,_,_,_,_,_,_] rfl ⟨iFo hS hJ (ZoS hJ (d := d) (l := l) (by exact hw2) (by exact hl40)) ZoG, trivial⟩ ?_
 refine ZC tb hJ [0,1,2,3,4,5,6,7,8,9,1004,1006,1007] [_,_,.tup [.rd (YI (if deE d m = 0 then ZcN d m d.frames.length else [])), .int (deE d m)],_,_,_,_,_] [2] [_,_,_,_,_,_,_,_,_,_,_,_,_] rfl ⟨iFo hS hJ (ZeI hJ (d := d) (m := m) (by exact hw) (by exact hG)) ZoF, trivial⟩ ?_
 refine ln 10 fun hl4 => ?_
 refine ZC tb hJ [2,3,4,5,6,7,8,9,11,12,1006,1007] [_,_,.tup [.rd (YI (if deE d m = 0 then ZcN d m d.frames.length else [])), .int (deE d m)],_,_,_,_,_] [2] [_,_,_,_,_,_,_,_,_,_,_,_] rfl ⟨iFo hS hJ (Zfd hJ (d := d) (m := m) (by exact hw2)) ZoE, trivial⟩ ?_
 refine ZC tb hJ [1031] [_,_,.bool (decide ((if Zam d l = 0 then ZbR d l d.frames.length else []) = (if Zam d l = 0 then ZbR d l d.frames.length else []))),_,_,_,_,_,_,_,_,.bool (decide ((if QG d l = 0 then Zec d l else []) = (if QG d l = 0 then Zec d l else []))),_,_,_,_,_,_,_,_,_,.bool (decide ((if deE d m = 0 then ZcN d m d.frames.length else []) = (if deE d m = 0 then ZcN d m d.frames.length else []))),_,_,_,_,_,_,_,.bool true,_,_] [2,11,21,29] [_] rfl ⟨iFo hS hJ (ZbF hJ (xs := (if Zam d l = 0 then ZbR d l d.frames.length else [])) (ys := (if Zam d l = 0 then ZbR d l d.frames.length else [])) ) ZdZ, iFo hS hJ (ZbF hJ (xs := (if QG d l = 0 then Zec d l else [])) (ys := (if QG d l = 0 then Zec d l else [])) ) ZdZ, iFo hS hJ (Zlh hJ (xs := (if deE d m = 0 then ZcN d m d.frames.length else [])) (ys := (if deE d m = 0 then ZcN d m d.frames.length else [])) ) ZoD, fun _ _ hk hx _ hc => Zbi (Ziw hJ  (by have hc' : (((((((decide ((if Zam d l = 0 then ZbR d l d.frames.length else []) = (if Zam d l = 0 then ZbR d l d.frames.length else []))) && (decide (Zam d l = Zam d l))) && (decide ((if QG d l = 0 then Zec d l else []) = (if QG d l = 0 then Zec d l else [])))) && (decide (QG d l = QG d l))) && (decide ((if deE d m = 0 then ZcN d m d.frames.length else []) = (if deE d m = 0 then ZcN d m d.frames.length else [])))) && (decide (deE d m = deE d m))) == true) = true := hc; (try simp at hc'); (exact hG))) Znk rfl (Zo hS _ hk hx) (hx.1) Zi (jo hJ hx), trivial⟩ ?_
 exact Ze (Y2 (m := 0) rfl rfl (eB (by simp)))
end Go.Proofs.YtnpgmdffjemnbaaGreatDoor
