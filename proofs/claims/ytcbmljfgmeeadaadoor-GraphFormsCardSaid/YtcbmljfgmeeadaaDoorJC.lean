/-
  PLAIN LAW: the key of a step tells it; so the map finds a step where it lies.
  PLAIN LAW: share depends on the tree alone, and keeps it.
  PLAIN LAW: Expand and Ordered keep the tree; Ordered done twice is Ordered.
  PLAIN LAW: what the reference's visit has: the steps so far, and of each old step its new number.
-/
import Derived.Test.YtcbmljfgmeeadaaDoorG15
import Derived.Test.YtcbmljfgmeeadaaDoorShr
import Derived.Test.YtcbmljfgmeeadaaDoorJB
namespace Go.Proofs.YtcbmljfgmeeadaaDoor

def unDec (l : List UInt8) : Nat := l.foldl (fun acc b => acc * 10 + (b.toNat - 48)) 0

theorem unDec_snoc (l : List UInt8) (b : UInt8) : unDec (l ++ [b]) = unDec l * 10 + (b.toNat - 48) := by simp [unDec]

theorem decDigits_spec (u : Nat) : unDec (Lib.decDigits u) = u ∧ ∀ b ∈ Lib.decDigits u, 48 ≤ b.toNat ∧ b.toNat ≤ 57 := by
  induction u using Nat.strongRecOn with
  | _ u ih =>
    have hb : ∀ d : Nat, d < 10 → (UInt8.ofNat (48 + d)).toNat = 48 + d := fun d hd => by
      rw [UInt8.toNat_ofNat']; omega
    by_cases h : u < 10
    · rw [Lib.decDigits, dif_pos h]
      have h1 := hb u h
      refine ⟨?_, ?_⟩
      · show 0 * 10 + ((UInt8.ofNat (48 + u)).toNat - 48) = u
        rw [h1]; omega
      · intro b hb2
        simp only [List.mem_singleton] at hb2
        rw [hb2, h1]; omega
    · rw [Lib.decDigits, dif_neg h]
      obtain ⟨i1, i2⟩ := ih (u / 10) (by omega)
      have h1 := hb (u % 10) (by omega)
      refine ⟨?_, ?_⟩
      · rw [unDec_snoc, i1, h1]; omega
      · intro b hb2
        rcases List.mem_append.1 hb2 with h2 | h2
        · exact i2 b h2
        · simp only [List.mem_singleton] at h2
          rw [h2, h1]; omega

theorem decDigits_inj {a b : Nat} (h : Lib.decDigits a = Lib.decDigits b) : a = b := by
  rw [← (decDigits_spec a).1, ← (decDigits_spec b).1, h]

theorem itoa_inj {a b : Int} (h : Lib.itoa a = Lib.itoa b) : a = b := by
  have no : ∀ (u v : Nat), Lib.decDigits u ≠ 45 :: Lib.decDigits v := fun u v he => by
    have := (decDigits_spec u).2 45 (by rw [he]; simp)
    have h45 : (45 : UInt8).toNat = 45 := rfl
    omega
  unfold Lib.itoa at h
  split at h <;> split at h
  · have := decDigits_inj (List.cons.inj h).2
    omega
  · exact absurd h.symm (no _ _)
  · exact absurd h (no _ _)
  · have := decDigits_inj h
    omega

theorem itoa_no32 (a : Int) : ∀ b ∈ Lib.itoa a, b ≠ 32 := by
  intro b hb he
  subst he
  have h32 : (32 : UInt8).toNat = 32 := rfl
  unfold Lib.itoa at hb
  split at hb
  · rcases List.mem_cons.1 hb with h | h
    · exact absurd h (by decide)
    · have := (decDigits_spec _).2 _ h; omega
  · have := (decDigits_spec _).2 _ hb; omega

theorem split32 : ∀ (l m x y : List UInt8), (∀ b ∈ l, b ≠ 32) → (∀ b ∈ m, b ≠ 32) → l ++ 32 :: x = m ++ 32 :: y → l = m ∧ x = y
  | [], [], x, y, _, _, h => ⟨rfl, (List.cons.inj h).2⟩
  | [], b :: m, x, y, _, hm, h => absurd (List.cons.inj h).1.symm (hm b (by simp))
  | b :: l, [], x, y, hl, _, h => absurd (List.cons.inj h).1 (hl b (by simp))
  | b :: l, c :: m, x, y, hl, hm, h => by
    obtain ⟨h1, h2⟩ := List.cons.inj h
    obtain ⟨h3, h4⟩ := split32 l m x y (fun b hb => hl b (by simp [hb])) (fun b hb => hm b (by simp [hb])) h2
    exact ⟨by rw [h1, h3], h4⟩

theorem keyStr_inj : ∀ (l m : List Int), keyStr l = keyStr m → l = m
  | [], [], _ => rfl
  | [], b :: m, h => by simp [keyStr] at h
  | a :: l, [], h => by simp [keyStr] at h
  | a :: l, b :: m, h => by
    have e : ∀ (a : Int) (l : List Int), keyStr (a :: l) = Lib.itoa a ++ 32 :: keyStr l := fun a l => by simp [keyStr]
    rw [e, e] at h
    obtain ⟨h1, h2⟩ := split32 _ _ _ _ (itoa_no32 a) (itoa_no32 b) h
    rw [itoa_inj h1, keyStr_inj l m h2]

theorem keyOfStp_inj {s t : Stp} (h : keyOfStp s = keyOfStp t) : s = t := by
  unfold keyOfStp at h
  obtain ⟨h1, h2⟩ := Prod.mk.inj h
  refine Stp.ext' h1 (keyStr_inj _ _ ?_)
  have h3 := congrArg (fun b : ByteArray => b.data.toList) h2
  simpa using h3

theorem findK_idx (s : Stp) : ∀ (out : List Stp) (i : Nat), findK (keyOfStp s) (out.map keyOfStp) i = if s ∈ out then some (i + out.idxOf s) else none
  | [], i => by simp [findK]
  | t :: out, i => by
    simp only [List.map_cons, findK]
    by_cases h : s = t
    · subst h
      simp
    · have hk : ¬ keyOfStp t = keyOfStp s := fun e => h (keyOfStp_inj e).symm
      have hk' : ¬ keyOfStp s = keyOfStp t := fun e => h (keyOfStp_inj e)
      have ih := findK_idx s out (i + 1)
      simp only [hk', if_false, ih, List.mem_cons, h, false_or]
      have ht : (t == s) = false := by simp; exact fun e => h e.symm
      simp only [List.idxOf_cons, ht, cond_false]
      split
      · congr 1; omega
      · rfl

theorem addM_eq (out : List Stp) (s : Stp) : addM out s = if s ∈ out then out else out ++ [s] := by
  unfold addM
  rw [findK_idx]
  split <;> rename_i h
  · split at h
    · rename_i h2; rw [if_pos h2]
    · cases h
  · split at h
    · cases h
    · rename_i h2; rw [if_neg h2]
theorem addAt_eq (out : List Stp) (s : Stp) : addAt out s = out.idxOf s := by
  unfold addAt
  rw [findK_idx]
  by_cases h : s ∈ out
  · simp [h]
  · rw [if_neg h]; exact (List.idxOf_eq_length h).symm

end Go.Proofs.YtcbmljfgmeeadaaDoor

namespace Go.Proofs.YtcbmljfgmeeadaaDoor

/-- Args lead back. -/
def Back (ss : List Stp) : Prop := ∀ i (h : i < ss.length), ∀ a ∈ ss[i].args, 0 ≤ a ∧ a < (i : Int)
theorem Back.kids {ss : List Stp} (h : Back ss) : ∀ i, ∀ a ∈ kidsOf ss i, a < i := by
  intro i a ha
  by_cases hi : i < ss.length
  · rw [kidsOf_lt hi] at ha
    obtain ⟨b, hb, rfl⟩ := List.mem_map.1 ha
    have := h i hi b hb
    omega
  · simp [kidsOf, List.getElem?_eq_none (Nat.le_of_not_lt hi)] at ha
theorem Okay.back {ss : List Stp} (h : Okay ss) : Back ss := fun i hi => (h.2.2 i hi).2

theorem Back.tree {ss : List Stp} (hb : Back ss) {i : Nat} (h : i < ss.length) : treeAt ss i = .node ss[i].label (ss[i].args.map fun a => treeAt ss a.toNat) := by
  rw [treeAt_eq hb.kids, kidsOf_lt h, List.map_map]
  simp [h]

/-- What stands behind does not matter. -/
theorem Back.ahead {ss ts : List Stp} (hs : Back ss) (ht : Back ts) (hp : ss <+: ts) : ∀ i, i < ss.length → treeAt ts i = treeAt ss i := by
  intro i
  induction i using Nat.strongRecOn with
  | _ i ih =>
    intro hi
    obtain ⟨r, rfl⟩ := hp
    have hi2 : i < (ss ++ r).length := by simp; omega
    rw [ht.tree hi2, hs.tree hi]
    simp only [List.getElem_append_left hi, Tree.node.injEq, true_and]
    refine List.map_congr_left fun a ha => ?_
    have := hs i hi a ha
    exact ih a.toNat (by omega) (by omega)

/-- Steps without a double. -/
structure Terse (ss : List Stp) : Prop where
  nodup : ss.Nodup
  back : Back ss

theorem Terse.nil : Terse [] := ⟨List.nodup_nil, fun i h => by simp at h⟩
theorem Back.snoc {ss : List Stp} {s : Stp} (h : Back ss) (hs : ∀ a ∈ s.args, 0 ≤ a ∧ a < (ss.length : Int)) : Back (ss ++ [s]) := by
  intro i hi a ha
  by_cases hl : i < ss.length
  · simp only [List.getElem_append_left hl] at ha
    exact h i hl a ha
  · obtain rfl : i = ss.length := by simp at hi; omega
    simp at ha
    exact hs a ha

/-- Of steps without a double a tree has one number alone. -/
theorem Terse.one {ss : List Stp} (h : Terse ss) : ∀ i j, i < ss.length → j < ss.length → treeAt ss i = treeAt ss j → i = j := by
  intro i
  induction i using Nat.strongRecOn with
  | _ i ih =>
    intro j hi hj he
    rw [h.back.tree hi, h.back.tree hj] at he
    obtain ⟨h1, h2⟩ := Tree.node.inj he
    have hlen : ss[i].args.length = ss[j].args.length := by simpa using congrArg List.length h2
    have hargs : ss[i].args = ss[j].args := by
      refine List.ext_getElem hlen fun k hk1 hk2 => ?_
      have h3 : (ss[i].args.map fun a => treeAt ss a.toNat)[k]'(by simpa using hk1) = (ss[j].args.map fun a => treeAt ss a.toNat)[k]'(by simpa using hk2) := by simp only [h2]
      simp only [List.getElem_map] at h3
      have b1 := h.back i hi _ (List.getElem_mem hk1)
      have b2 := h.back j hj _ (List.getElem_mem hk2)
      have := ih ss[i].args[k].toNat (by omega) ss[j].args[k].toNat (by omega) (by omega) h3
      omega
    have hst : ss[i] = ss[j] := Stp.ext' h1 hargs
    exact (List.getElem_inj h.nodup).1 hst

mutual
/-- A tree is shared into what there is. -/
def shT : Tree → List Stp → List Stp × Nat
  | .node l ks, out => (addM (shTs ks out).1 ⟨l, (shTs ks out).2⟩, addAt (shTs ks out).1 ⟨l, (shTs ks out).2⟩)
def shTs : List Tree → List Stp → List Stp × List Int
  | [], out => (out, [])
  | k :: ks, out => ((shTs ks (shT k out).1).1, ((shT k out).2 : Int) :: (shTs ks (shT k out).1).2)
end

/-- What sharing a tree leaves. -/
structure ShOk (out : List Stp) (t : Tree) (r : List Stp × Nat) : Prop where
  lean : Terse r.1
  pre : out <+: r.1
  lt : r.2 < r.1.length
  tree : treeAt r.1 r.2 = t

theorem addM_ok {out : List Stp} (h : Terse out) (s : Stp) (hs : ∀ a ∈ s.args, 0 ≤ a ∧ a < (out.length : Int)) : Terse (addM out s) ∧ out <+: addM out s ∧ addAt out s < (addM out s).length ∧ (addM out s)[addAt out s]? = some s := by
  rw [addM_eq, addAt_eq]
  by_cases hm : s ∈ out
  · rw [if_pos hm]
    refine ⟨h, List.prefix_rfl, List.idxOf_lt_length_iff.2 hm, ?_⟩
    rw [List.getElem?_eq_getElem (List.idxOf_lt_length_iff.2 hm), List.getElem_idxOf]
  · rw [if_neg hm, List.idxOf_eq_length hm]
    refine ⟨⟨?_, h.back.snoc hs⟩, List.prefix_append _ _, by simp, by simp⟩
    rw [List.nodup_append]
    exact ⟨h.nodup, by simp, fun a ha b hb => by simp at hb; rintro rfl; exact hm (hb ▸ ha)⟩

mutual
theorem shT_ok : ∀ (t : Tree) (out : List Stp), Terse out → ShOk out t (shT t out)
  | .node l ks, out, h => by
    obtain ⟨h1, h2, h3, h4, h5⟩ := shTs_ok ks out h
    obtain ⟨a1, a2, a3, a4⟩ := addM_ok h1 ⟨l, (shTs ks out).2⟩ (fun a ha => h4 a ha)
    refine ⟨a1, h2.trans a2, a3, ?_⟩
    show treeAt (addM (shTs ks out).1 ⟨l, (shTs ks out).2⟩) (addAt (shTs ks out).1 ⟨l, (shTs ks out).2⟩) = _
    rw [a1.back.tree a3]
    have he := a4
    rw [List.getElem?_eq_getElem a3] at he
    rw [Option.some.inj he]
    simp only [Tree.node.injEq, true_and]
    refine (List.map_congr_left fun a ha => ?_).trans h5
    have := h4 a ha
    exact h1.back.ahead a1.back a2 a.toNat (by omega)
theorem shTs_ok : ∀ (ks : List Tree) (out : List Stp), Terse out → Terse (shTs ks out).1 ∧ out <+: (shTs ks out).1 ∧ (shTs ks out).2.length = ks.length ∧
    (∀ a ∈ (shTs ks out).2, 0 ≤ a ∧ a < ((shTs ks out).1.length : Int)) ∧ ((shTs ks out).2.map fun a => treeAt (shTs ks out).1 a.toNat) = ks
  | [], out, h => by simp [shTs, h]
  | k :: ks, out, h => by
    obtain ⟨b1, b2, b3, b4⟩ := shT_ok k out h
    obtain ⟨c1, c2, c3, c4, c5⟩ := shTs_ok ks _ b1
    simp only [shTs]
    have hle := c2.length_le
    refine ⟨c1, b2.trans c2, by simp [c3], ?_, ?_⟩
    · intro a ha
      rcases List.mem_cons.1 ha with h | h
      · omega
      · exact c4 a h
    · simp only [List.map_cons, c5, Int.toNat_natCast, List.cons.injEq, and_true]
      rw [b1.back.ahead c1.back c2 _ b3, b4]
end

/-- A tree that is there is not added. -/
theorem shT_known {out : List Stp} (h : Terse out) : ∀ n, n < out.length → shT (treeAt out n) out = (out, n) := by
  intro n
  induction n using Nat.strongRecOn with
  | _ n ih =>
    intro hn
    rw [h.back.tree hn]
    have hk : ∀ (l : List Int), (∀ a ∈ l, 0 ≤ a ∧ a < (n : Int)) → shTs (l.map fun a => treeAt out a.toNat) out = (out, l) := by
      intro l
      induction l with
      | nil => intro _; rfl
      | cons a l ihl =>
        intro hl
        have ha := hl a (by simp)
        simp only [List.map_cons, shTs, ih a.toNat (by omega) (by omega), ihl fun b hb => hl b (by simp [hb])]
        congr 2
        omega
    simp only [shT, hk _ (h.back n hn)]
    have he : (⟨out[n].label, out[n].args⟩ : Stp) = out[n] := rfl
    rw [he, addM_eq, addAt_eq, if_pos (List.getElem_mem hn), List.Nodup.idxOf_getElem h.nodup]


/-- The state of share's rounds. -/
structure ShSt (ss : List Stp) (pre : List Nat) (outs : List Stp) (now : List Int) : Prop where
  lean : Terse outs
  len : now.length = ss.length
  at_ : ∀ x ∈ pre, ∃ n : Nat, now[x]? = some (n : Int) ∧ n < outs.length ∧ treeAt outs n = treeAt ss x

theorem shareTo_append (ss : List Stp) (o p : List Nat) : shareTo ss (o ++ p) = p.foldl (shRound ss) (shareTo ss o) := by simp [shareTo]

theorem ShSt.round {ss : List Stp} {pre : List Nat} {outs : List Stp} {now : List Int} {x : Nat} (hok : Okay ss) (h : ShSt ss pre outs now) (hx : x < ss.length) (hxp : x ∉ pre) (hk : ∀ a ∈ kidsOf ss x, a ∈ pre) :
    ShSt ss (pre ++ [x]) (shRound ss (outs, now) x).1 (shRound ss (outs, now) x).2 ∧ outs <+: (shRound ss (outs, now) x).1 ∧
      ∀ (ns : List Int), (∀ a ∈ ns, 0 ≤ a ∧ a < (outs.length : Int)) → (ns.map fun a => treeAt outs a.toNat) = (kidsOf ss x).map (treeAt ss) → shStp ss now x = ⟨ss[x].label, ns⟩ := by
  have hargs : ∀ a ∈ ss[x].args, ∃ n : Nat, numAt now a = (n : Int) ∧ n < outs.length ∧ treeAt outs n = treeAt ss a.toNat := by
    intro a ha
    obtain ⟨n, h1, h2, h3⟩ := h.at_ a.toNat (hk _ (by rw [kidsOf_lt hx]; exact List.mem_map.2 ⟨a, ha, rfl⟩))
    exact ⟨n, by rw [numAt, List.getD_eq_getElem?_getD, h1]; rfl, h2, h3⟩
  have hst : shStp ss now x = ⟨ss[x].label, ss[x].args.map (numAt now)⟩ := by simp [shStp, hx]
  have hb : ∀ a ∈ (shStp ss now x).args, 0 ≤ a ∧ a < (outs.length : Int) := by
    rw [hst]
    intro a ha
    obtain ⟨b, hb, rfl⟩ := List.mem_map.1 ha
    obtain ⟨n, h1, h2, _⟩ := hargs b hb
    rw [h1]; omega
  obtain ⟨a1, a2, a3, a4⟩ := addM_ok h.lean (shStp ss now x) hb
  refine ⟨⟨a1, by simp [shRound, h.len], ?_⟩, a2, ?_⟩
  · intro y hy
    by_cases hyx : y = x
    · subst hyx
      refine ⟨addAt outs (shStp ss now y), by simp only [shRound]; rw [List.getElem?_set_self (by rw [h.len]; exact hx)], a3, ?_⟩
      show treeAt (addM outs (shStp ss now y)) _ = _
      have he := a4
      rw [List.getElem?_eq_getElem a3] at he
      have he' := Option.some.inj he
      rw [a1.back.tree a3, he', hok.back.tree hx, hst]
      simp only [Tree.node.injEq, true_and, List.map_map]
      refine List.map_congr_left fun a ha => ?_
      obtain ⟨n, h1, h2, h3⟩ := hargs a ha
      simp only [Function.comp_apply, h1, Int.toNat_natCast]
      rw [← h3]
      rw [hst] at a1 a2
      exact h.lean.back.ahead a1.back a2 n h2
    · have hyp : y ∈ pre := by
        rcases List.mem_append.1 hy with h | h
        · exact h
        · simp at h; exact absurd h hyx
      obtain ⟨n, h1, h2, h3⟩ := h.at_ y hyp
      refine ⟨n, by simp only [shRound]; rw [List.getElem?_set_ne (fun e => hyx e.symm)]; exact h1, Nat.lt_of_lt_of_le h2 a2.length_le, ?_⟩
      rw [← h3]
      exact h.lean.back.ahead a1.back a2 n h2
  · intro ns hns he
    rw [hst]
    congr 1
    rw [kidsOf_lt hx, List.map_map] at he
    have hlen : ns.length = ss[x].args.length := by simpa using congrArg List.length he
    refine List.ext_getElem (by simp [hlen]) fun k hk1 hk2 => ?_
    simp only [List.length_map] at hk1
    obtain ⟨n, h1, h2, h3⟩ := hargs _ (List.getElem_mem hk1)
    simp only [List.getElem_map, h1]
    have hb := hns _ (List.getElem_mem hk2)
    have h4 : (ns.map fun a => treeAt outs a.toNat)[k]'(by simpa using hk2) = (ss[x].args.map (treeAt ss ∘ Int.toNat))[k]'(by simpa using hk1) := by simp only [he]
    simp only [List.getElem_map, Function.comp_apply] at h4
    have := h.lean.one n ns[k].toNat h2 (by omega) (h3.trans h4.symm)
    omega


theorem trav_mem' {kids : Nat → List Nat} {f x : Nat} {o : List Nat} (h : x < f) : x ∈ trav kids f x o := by
  obtain ⟨f', rfl⟩ : ∃ f', f = f' + 1 := ⟨f - 1, by omega⟩
  exact trav_mem kids f' x o

theorem trav_share {ss : List Stp} (hok : Okay ss) : ∀ (f i : Nat) (pre : List Nat), i < f → i < ss.length → Shut (kidsOf ss) pre → ShSt ss pre (shareTo ss pre).1 (shareTo ss pre).2 →
    ShSt ss (trav (kidsOf ss) f i pre) (shareTo ss (trav (kidsOf ss) f i pre)).1 (shareTo ss (trav (kidsOf ss) f i pre)).2 ∧
      (shareTo ss (trav (kidsOf ss) f i pre)).1 = (shT (treeAt ss i) (shareTo ss pre).1).1
  | 0, i, pre, h, _, _, _ => by omega
  | f + 1, i, pre, hf, hi, hs, hst => by
    by_cases hm : i ∈ pre
    · have ht : trav (kidsOf ss) (f + 1) i pre = pre := by simp [trav, hm]
      rw [ht]
      refine ⟨hst, ?_⟩
      obtain ⟨n, h1, h2, h3⟩ := hst.at_ i hm
      rw [← h3, shT_known hst.lean n h2]
    · have ht : trav (kidsOf ss) (f + 1) i pre = (kidsOf ss i).foldl (fun o a => trav (kidsOf ss) f a o) pre ++ [i] := by simp [trav, hm]
      have key : ∀ (l : List Nat) (pre : List Nat), (∀ a ∈ l, a < i) → Shut (kidsOf ss) pre → ShSt ss pre (shareTo ss pre).1 (shareTo ss pre).2 →
          ShSt ss (l.foldl (fun o a => trav (kidsOf ss) f a o) pre) (shareTo ss (l.foldl (fun o a => trav (kidsOf ss) f a o) pre)).1 (shareTo ss (l.foldl (fun o a => trav (kidsOf ss) f a o) pre)).2 ∧
            (shareTo ss (l.foldl (fun o a => trav (kidsOf ss) f a o) pre)).1 = (shTs (l.map (treeAt ss)) (shareTo ss pre).1).1 := by
        intro l
        induction l with
        | nil => intro pre _ _ h; exact ⟨h, rfl⟩
        | cons a l ih =>
          intro pre hl h1 h2
          have ha := hl a (by simp)
          obtain ⟨i1, i2⟩ := trav_share hok f a pre (by omega) (by omega) h1 h2
          have h3 := trav_shut (kidsOf ss) id (fun x a ha => hok.kid ha) f a pre (by simp only [id]; omega) h1
          obtain ⟨j1, j2⟩ := ih (trav (kidsOf ss) f a pre) (fun b hb => hl b (by simp [hb])) h3 i1
          refine ⟨j1, ?_⟩
          rw [List.foldl_cons, j2, i2]
          rfl
      have hshut := trav_shut (kidsOf ss) id (fun x a ha => hok.kid ha) (f + 1) i pre (by simp only [id]; omega) hs
      obtain ⟨k1, k2⟩ := key (kidsOf ss i) pre (fun a ha => hok.kid ha) hs hst
      rw [ht] at hshut ⊢
      obtain ⟨n1, n2⟩ := hshut _ _ List.prefix_rfl
      generalize (kidsOf ss i).foldl (fun o a => trav (kidsOf ss) f a o) pre = pre' at k1 k2 n1 n2 ⊢
      obtain ⟨r1, r2, r3⟩ := k1.round hok hi n1 n2
      rw [shareTo_snoc]
      refine ⟨r1, ?_⟩
      obtain ⟨t1, t2, t3, t4, t5⟩ := shTs_ok ((kidsOf ss i).map (treeAt ss)) (shareTo ss pre).1 hst.lean
      rw [← k2] at t4 t5
      have hstp := r3 _ t4 t5
      show addM (shareTo ss pre').1 (shStp ss (shareTo ss pre').2 i) = _
      rw [hstp, treeAt_eq hok.kids, k2]
      simp [shT, hi]

/-- What share makes of a proof is what it makes of the tree. -/
theorem shareM_tree {ss : List Stp} (hok : Okay ss) : shareM ss = (shT (treeM ss) []).1 := by
  have h0 := hok.1
  have h := trav_share hok ss.length (ss.length - 1) [] (by omega) (by omega) (shut_nil _) ⟨Terse.nil, by simp [shareTo], fun x hx => by cases hx⟩
  exact h.2

mutual
/-- What is added is no greater than the tree. -/
theorem shT_new : ∀ (t : Tree) (out : List Stp), Terse out → ∀ p, out.length ≤ p → p < (shT t out).1.length → tsize (treeAt (shT t out).1 p) ≤ tsize t
  | .node l ks, out, h, p, h1, h2 => by
    obtain ⟨a1, a2, a3, a4, a5⟩ := shTs_ok ks out h
    have hw := shT_ok (.node l ks) out h
    by_cases hp : p < (shTs ks out).1.length
    · have h3 := shTs_new ks out h p h1 hp
      have hpre : (shTs ks out).1 <+: (shT (.node l ks) out).1 := by
        show _ <+: addM _ _
        rw [addM_eq]
        split
        · exact List.prefix_rfl
        · exact List.prefix_append _ _
      rw [a1.back.ahead hw.lean.back hpre p hp]
      simp only [tsize]
      omega
    · have hlen : (shT (.node l ks) out).1.length ≤ (shTs ks out).1.length + 1 := addM_length _ _
      have hat : (shT (.node l ks) out).2 = p := by
        show addAt _ _ = p
        have hgt : (addM (shTs ks out).1 ⟨l, (shTs ks out).2⟩).length ≠ (shTs ks out).1.length := by
          show (shT (.node l ks) out).1.length ≠ _
          omega
        rw [addM_eq] at hgt
        rw [addAt_eq]
        split at hgt
        · exact absurd rfl hgt
        · rename_i hm
          rw [List.idxOf_eq_length hm]
          omega
      have := hw.tree
      rw [hat] at this
      rw [this]
      exact Nat.le_refl _
theorem shTs_new : ∀ (ks : List Tree) (out : List Stp), Terse out → ∀ p, out.length ≤ p → p < (shTs ks out).1.length → tsize (treeAt (shTs ks out).1 p) ≤ tsizes ks
  | [], out, h, p, h1, h2 => by simp only [shTs] at h2; omega
  | k :: ks, out, h, p, h1, h2 => by
    obtain ⟨b1, b2, b3, b4⟩ := shT_ok k out h
    obtain ⟨c1, c2, c3, c4, c5⟩ := shTs_ok ks _ b1
    simp only [tsizes]
    by_cases hp : p < (shT k out).1.length
    · have h3 := shT_new k out h p h1 hp
      show tsize (treeAt (shTs ks (shT k out).1).1 p) ≤ _
      rw [b1.back.ahead c1.back c2 p hp]
      omega
    · have h3 := shTs_new ks _ b1 p (by omega) h2
      show tsize (treeAt (shTs ks (shT k out).1).1 p) ≤ _
      omega
end

/-- The root stands last. -/
theorem shT_last (t : Tree) (out : List Stp) (h : Terse out) : (shT t out).1 = out ∨ (shT t out).2 + 1 = (shT t out).1.length := by
  obtain ⟨l, ks⟩ := t
  obtain ⟨a1, a2, a3, a4, a5⟩ := shTs_ok ks out h
  have hw := shT_ok (.node l ks) out h
  by_cases hm : (⟨l, (shTs ks out).2⟩ : Stp) ∈ (shTs ks out).1
  · have he : (shT (.node l ks) out).1 = (shTs ks out).1 := by
      show addM _ _ = _
      rw [addM_eq, if_pos hm]
    by_cases hn : (shT (.node l ks) out).2 < out.length
    · left
      have h1 := h.back.ahead hw.lean.back hw.pre _ hn
      rw [hw.tree] at h1
      rw [h1, shT_known h _ hn]
    · have h2 := shTs_new ks out h (shT (.node l ks) out).2 (by omega) (by rw [← he]; exact hw.lt)
      rw [← he, hw.tree] at h2
      simp only [tsize] at h2
      omega
  · right
    show addAt _ _ + 1 = (addM _ _).length
    rw [addM_eq, addAt_eq, if_neg hm, List.idxOf_eq_length hm]
    simp

/-- share keeps the tree, and its form is right. -/
theorem shareM_back {ss : List Stp} (hok : Okay ss) : Terse (shareM ss) ∧ 1 ≤ (shareM ss).length ∧ treeM (shareM ss) = treeM ss := by
  have h := shT_ok (treeM ss) [] Terse.nil
  have h2 := shT_last (treeM ss) [] Terse.nil
  rw [shareM_tree hok]
  have hlt := h.lt
  refine ⟨h.lean, by omega, ?_⟩
  rcases h2 with h2 | h2
  · rw [h2] at hlt; simp at hlt
  · generalize treeM ss = t at *
    show treeAt (shT t []).1 ((shT t []).1.length - 1) = t
    rw [← h2, Nat.add_sub_cancel]
    exact h.tree

theorem shareTo_slim {ss : List Stp} (hok : Okay ss) : ∀ (o : List Nat) (st : List Stp × List Int), (∀ s ∈ st.1, s.args.length ≤ 40) → ∀ s ∈ (o.foldl (shRound ss) st).1, s.args.length ≤ 40
  | [], _, h => h
  | x :: o, st, h => by
    refine shareTo_slim hok o _ fun s hs => ?_
    simp only [shRound, addM_eq] at hs
    have hx : (shStp ss st.2 x).args.length ≤ 40 := by
      simp only [shStp, List.length_map]
      by_cases hi : x < ss.length
      · simp only [List.getElem?_eq_getElem hi, Option.map_some, Option.getD_some]
        exact (hok.2.2 x hi).1
      · simp [List.getElem?_eq_none (Nat.le_of_not_lt hi)]
    split at hs
    · exact h s hs
    · rcases List.mem_append.1 hs with h1 | h1
      · exact h s h1
      · simp only [List.mem_singleton] at h1
        rw [h1]; exact hx

theorem shareM_length (ss : List Stp) : (shareM ss).length ≤ (post ss).length := (shareTo_bounds ss (post ss)).1

theorem shareM_okay {ss : List Stp} (hok : Okay ss) : Okay (shareM ss) := by
  obtain ⟨h1, h2, _⟩ := shareM_back hok
  have h3 := shareM_length ss
  have h4 := post_length_le hok
  have h5 := hok.2.1
  exact ⟨h2, by omega, fun i hi => ⟨shareTo_slim hok (post ss) _ (by simp) _ (List.getElem_mem hi), h1.back i hi⟩⟩

end Go.Proofs.YtcbmljfgmeeadaaDoor

namespace Go.Proofs.YtcbmljfgmeeadaaDoor

theorem Back.append {ss ts : List Stp} (h : Back ss) (hts : ∀ i (h : i < ts.length), ∀ a ∈ ts[i].args, 0 ≤ a ∧ a < ((ss.length + i : Nat) : Int)) : Back (ss ++ ts) := by
  intro i hi a ha
  by_cases hl : i < ss.length
  · simp only [List.getElem_append_left hl] at ha
    exact h i hl a ha
  · have hi2 : i - ss.length < ts.length := by simp at hi; omega
    simp only [List.getElem_append_right (Nat.le_of_not_lt hl)] at ha
    have := hts _ hi2 a ha
    omega

mutual
/-- The flat form behind what there is: Args lead back, and the root is the tree. -/
theorem flat_tree : ∀ (t : Tree) (pre : List Stp), Back pre → Back (pre ++ flat t pre.length) ∧ treeAt (pre ++ flat t pre.length) (pre.length + tsize t - 1) = t
  | .node l ks, pre, h => by
    obtain ⟨h1, h2, h3⟩ := flats_tree ks pre h
    have hlen : (pre ++ (flats ks pre.length).1).length = pre.length + tsizes ks := by rw [List.length_append, flats_length]
    have hb : Back (pre ++ flat (.node l ks) pre.length) := by
      simp only [flat, ← List.append_assoc]
      exact h1.snoc fun a ha => by rw [hlen]; exact h2 a ha
    refine ⟨hb, ?_⟩
    simp only [flat, tsize, ← List.append_assoc] at hb ⊢
    have hi : pre.length + (tsizes ks + 1) - 1 < (pre ++ (flats ks pre.length).1 ++ [(⟨l, (flats ks pre.length).2⟩ : Stp)]).length := by simp [flats_length]
    rw [hb.tree hi]
    have hget : (pre ++ (flats ks pre.length).1 ++ [(⟨l, (flats ks pre.length).2⟩ : Stp)])[pre.length + (tsizes ks + 1) - 1] = ⟨l, (flats ks pre.length).2⟩ := by
      rw [List.getElem_append_right (by rw [hlen]; omega)]
      simp
    rw [hget]
    simp only [Tree.node.injEq, true_and]
    refine (List.map_congr_left fun a ha => ?_).trans h3
    have := h2 a ha
    exact h1.ahead hb (List.prefix_append _ _) a.toNat (by rw [hlen]; omega)
theorem flats_tree : ∀ (ks : List Tree) (pre : List Stp), Back pre → Back (pre ++ (flats ks pre.length).1) ∧ (∀ a ∈ (flats ks pre.length).2, 0 ≤ a ∧ a < ((pre.length + tsizes ks : Nat) : Int)) ∧
    ((flats ks pre.length).2.map fun a => treeAt (pre ++ (flats ks pre.length).1) a.toNat) = ks
  | [], pre, h => by simp [flats, h]
  | k :: ks, pre, h => by
    obtain ⟨h1, h2⟩ := flat_tree k pre h
    have hlen : (pre ++ flat k pre.length).length = pre.length + (flat k pre.length).length := List.length_append
    obtain ⟨h3, h4, h5⟩ := flats_tree ks (pre ++ flat k pre.length) h1
    have hb := flats_bound (k :: ks) pre.length
    rw [hlen] at h3 h4 h5
    simp only [flats, List.append_assoc] at h3 h5 hb ⊢
    refine ⟨h3, hb, ?_⟩
    simp only [List.map_cons, List.cons.injEq]
    refine ⟨?_, h5⟩
    have hp := tsize_pos k
    rw [flat_length] at hlen ⊢
    rw [show (((pre.length + tsize k : Nat) : Int) - 1).toNat = pre.length + tsize k - 1 by omega]
    rw [show pre ++ (flat k pre.length ++ (flats ks (pre.length + tsize k)).1) = (pre ++ flat k pre.length) ++ (flats ks (pre.length + tsize k)).1 by rw [List.append_assoc]]
    rw [flat_length, ← List.append_assoc] at h3
    refine (h1.ahead h3 (List.prefix_append _ _) _ (by rw [hlen]; omega)).trans h2
end

mutual
/-- No node has more than 40 kids. -/
def slim : Tree → Prop
  | .node _ ks => ks.length ≤ 40 ∧ slims ks
def slims : List Tree → Prop
  | [] => True
  | k :: ks => slim k ∧ slims ks
end
theorem slims_mem : ∀ (ks : List Tree), (∀ k ∈ ks, slim k) → slims ks
  | [], _ => trivial
  | k :: ks, h => ⟨h k (by simp), slims_mem ks fun x hx => h x (by simp [hx])⟩

theorem slim_tree {ss : List Stp} (hok : Okay ss) (i : Nat) : i < ss.length → slim (treeAt ss i) := by
  induction i using Nat.strongRecOn with
  | _ i ih =>
    intro hi
    rw [hok.back.tree hi]
    refine ⟨by rw [List.length_map]; exact (hok.2.2 i hi).1, slims_mem _ fun k hk => ?_⟩
    obtain ⟨a, ha, rfl⟩ := List.mem_map.1 hk
    have := (hok.2.2 i hi).2 a ha
    exact ih a.toNat (by omega) (by omega)

mutual
theorem flat_slim : ∀ (t : Tree) (n : Nat), slim t → ∀ s ∈ flat t n, s.args.length ≤ 40
  | .node l ks, n, h, s, hs => by
    simp only [flat, List.mem_append, List.mem_singleton] at hs
    rcases hs with hs | hs
    · exact flats_slim ks n h.2 s hs
    · rw [hs]
      show (flats ks n).2.length ≤ 40
      rw [flats_count]; exact h.1
theorem flats_slim : ∀ (ks : List Tree) (n : Nat), slims ks → ∀ s ∈ (flats ks n).1, s.args.length ≤ 40
  | [], n, h, s, hs => by simp [flats] at hs
  | k :: ks, n, h, s, hs => by
    simp only [flats, List.mem_append] at hs
    rcases hs with hs | hs
    · exact flat_slim k n h.1 s hs
    · exact flats_slim ks _ h.2 s hs
end

theorem expandM_length (ss : List Stp) : (expandM ss).length = tsize (treeM ss) := flat_length _ _
theorem expandM_ok {ss : List Stp} (hok : Okay ss) (hb : tsize (treeM ss) ≤ 2000) : Okay (expandM ss) ∧ treeM (expandM ss) = treeM ss := by
  have h0 := hok.1
  obtain ⟨h1, h2⟩ := flat_tree (treeM ss) [] Terse.nil.back
  have hl := expandM_length ss
  have hp := tsize_pos (treeM ss)
  simp only [List.nil_append, List.length_nil, Nat.zero_add] at h1 h2
  refine ⟨⟨by omega, by omega, fun i hi => ⟨flat_slim _ _ (slim_tree hok _ (by omega)) _ (List.getElem_mem hi), h1 i hi⟩⟩, ?_⟩
  show treeAt (expandM ss) ((expandM ss).length - 1) = _
  rw [hl]
  exact h2

/-! Ordered -/

theorem trav_any {kids : Nat → List Nat} (hk : ∀ x, ∀ a ∈ kids x, a < x) : ∀ (f g x : Nat) (o : List Nat), x < f → x < g → trav kids f x o = trav kids g x o
  | 0, _, _, _, h, _ => by omega
  | _, 0, _, _, _, h => by omega
  | f + 1, g + 1, x, o, h1, h2 => by
    simp only [trav]
    have key : ∀ (l : List Nat) (o : List Nat), (∀ a ∈ l, a < x) → l.foldl (fun o a => trav kids f a o) o = l.foldl (fun o a => trav kids g a o) o := by
      intro l
      induction l with
      | nil => intro _ _; rfl
      | cons a l ih =>
        intro o hl
        have ha := hl a (by simp)
        rw [List.foldl_cons, List.foldl_cons, trav_any hk f g a o (by omega) (by omega), ih _ fun b hb => hl b (by simp [hb])]
    rw [key _ _ (hk x)]

theorem post_last {ss : List Stp} (hok : Okay ss) : ∃ p, post ss = p ++ [ss.length - 1] := by
  have h0 := hok.1
  unfold post
  obtain ⟨f, hf⟩ : ∃ f, ss.length = f + 1 := ⟨ss.length - 1, by omega⟩
  rw [hf]
  exact ⟨(kidsOf ss f).foldl (fun o a => trav (kidsOf ss) f a o) [], by simp [trav]⟩

theorem orderedM_length (ss : List Stp) : (orderedM ss).length = (post ss).length := by simp [orderedM]

theorem closed_idx {ss : List Stp} (hok : Okay ss) {k : Nat} (hk : k < (post ss).length) : ∀ a ∈ kidsOf ss (post ss)[k], (post ss).idxOf a < k := by
  intro a ha
  have h := hok.shut ((post ss).take k) (post ss)[k] (by rw [← List.take_succ_eq_append_getElem hk]; exact List.take_prefix _ _)
  have hm := h.2 a ha
  rw [show (post ss).idxOf a = ((post ss).take k ++ (post ss).drop k).idxOf a by rw [List.take_append_drop], List.idxOf_append, if_pos hm]
  have := List.idxOf_lt_length_iff.2 hm
  rw [List.length_take] at this
  omega

theorem orderedM_get {ss : List Stp} (hok : Okay ss) {k : Nat} (hk : k < (orderedM ss).length) :
    (orderedM ss)[k] = ⟨(ss[(post ss)[k]'(by rw [← orderedM_length]; exact hk)]'(hok.post_lt (List.getElem_mem _))).label, (kidsOf ss ((post ss)[k]'(by rw [← orderedM_length]; exact hk))).map fun a => ((post ss).idxOf a : Int)⟩ := by
  have hk2 : k < (post ss).length := by rw [← orderedM_length]; exact hk
  have hx := hok.post_lt (List.getElem_mem hk2)
  simp only [orderedM, List.getElem_map]
  rw [ordStep_lt hx, kidsOf_lt hx, List.map_map]
  rfl

theorem orderedM_back {ss : List Stp} (hok : Okay ss) : Back (orderedM ss) := by
  intro k hk a ha
  rw [orderedM_get hok hk] at ha
  obtain ⟨b, hb, rfl⟩ := List.mem_map.1 ha
  have := closed_idx hok (by rw [← orderedM_length]; exact hk) b hb
  omega

theorem orderedM_ok {ss : List Stp} (hok : Okay ss) : Okay (orderedM ss) := by
  obtain ⟨p, hp⟩ := post_last hok
  have h1 := post_length_le hok
  have h2 := hok.2.1
  have h3 : (post ss).length = p.length + 1 := by rw [hp]; simp
  refine ⟨by rw [orderedM_length]; omega, by rw [orderedM_length]; omega, fun k hk => ⟨?_, orderedM_back hok k hk⟩⟩
  rw [orderedM_get hok hk]
  have hx := hok.post_lt (List.getElem_mem (l := post ss) (by rw [← orderedM_length]; exact hk))
  rw [kidsOf_lt hx]
  simp only [List.length_map]
  exact (hok.2.2 _ hx).1

theorem post_closed {ss : List Stp} (hok : Okay ss) {x : Nat} (hx : x ∈ post ss) : ∀ a ∈ kidsOf ss x, a ∈ post ss := by
  intro a ha
  obtain ⟨k, hk, rfl⟩ := List.getElem_of_mem hx
  have := closed_idx hok hk a ha
  exact List.idxOf_lt_length_iff.1 (by omega)

theorem orderedM_treeAt {ss : List Stp} (hok : Okay ss) (k : Nat) : ∀ (hk : k < (post ss).length), treeAt (orderedM ss) k = treeAt ss (post ss)[k] := by
  induction k using Nat.strongRecOn with
  | _ k ih =>
    intro hk
    have hk2 : k < (orderedM ss).length := by rw [orderedM_length]; exact hk
    have hx := hok.post_lt (List.getElem_mem hk)
    rw [(orderedM_back hok).tree hk2, orderedM_get hok hk2, treeAt_eq hok.kids]
    simp only [List.getElem?_eq_getElem hx, Option.map_some, Option.getD_some, Tree.node.injEq, true_and, List.map_map]
    refine List.map_congr_left fun a ha => ?_
    have h1 := closed_idx hok hk a ha
    simp only [Function.comp_apply, Int.toNat_natCast]
    rw [ih _ h1 (by omega), List.getElem_idxOf]

theorem orderedM_tree {ss : List Stp} (hok : Okay ss) : treeM (orderedM ss) = treeM ss := by
  obtain ⟨p, hp⟩ := post_last hok
  have h3 : (post ss).length = p.length + 1 := by rw [hp]; simp
  unfold treeM
  rw [orderedM_length, orderedM_treeAt hok _ (by omega)]
  congr 1
  have : (post ss)[(post ss).length - 1]? = some (ss.length - 1) := by rw [h3, hp]; simp
  rw [List.getElem?_eq_getElem (by omega)] at this
  exact Option.some.inj this

theorem kids_ordered {ss : List Stp} (hok : Okay ss) {x : Nat} (hx : x ∈ post ss) : kidsOf (orderedM ss) ((post ss).idxOf x) = (kidsOf ss x).map ((post ss).idxOf ·) := by
  have hk : (post ss).idxOf x < (post ss).length := List.idxOf_lt_length_iff.2 hx
  have hk2 : (post ss).idxOf x < (orderedM ss).length := by rw [orderedM_length]; exact hk
  rw [kidsOf_lt hk2]
  simp only [orderedM_get hok hk2, List.getElem_idxOf, List.map_map]
  refine List.map_congr_left fun a _ => ?_
  simp

theorem idx_inj {o : List Nat} {x y : Nat} (hx : x ∈ o) (h : o.idxOf x = o.idxOf y) : x = y := by
  have h1 := List.idxOf_lt_length_iff.2 hx
  have h2 : o.idxOf y < o.length := by omega
  have e1 := List.getElem_idxOf h1
  have e2 := List.getElem_idxOf h2
  rw [← e1, ← e2]
  simp only [h]

/-- The order of the ordered proof is the order. -/
theorem trav_ordered {ss : List Stp} (hok : Okay ss) : ∀ (f x : Nat) (o : List Nat), x ∈ post ss → (∀ y ∈ o, y ∈ post ss) →
    trav (kidsOf (orderedM ss)) f ((post ss).idxOf x) (o.map ((post ss).idxOf ·)) = (trav (kidsOf ss) f x o).map ((post ss).idxOf ·) ∧ (∀ y ∈ trav (kidsOf ss) f x o, y ∈ post ss)
  | 0, _, _, _, h => ⟨rfl, h⟩
  | f + 1, x, o, hx, ho => by
    have hmem : (post ss).idxOf x ∈ o.map ((post ss).idxOf ·) ↔ x ∈ o := by
      constructor
      · intro h
        obtain ⟨y, hy, he⟩ := List.mem_map.1 h
        have := idx_inj hx he.symm
        rw [this]; exact hy
      · intro h; exact List.mem_map.2 ⟨x, h, rfl⟩
    by_cases hm : x ∈ o
    · have h1 := hmem.2 hm
      simp only [trav, if_pos hm, if_pos h1]
      exact ⟨trivial, ho⟩
    · have h1 := fun h => hm (hmem.1 h)
      simp only [trav, if_neg hm, if_neg h1]
      have key : ∀ (l : List Nat) (o : List Nat), (∀ a ∈ l, a ∈ post ss) → (∀ y ∈ o, y ∈ post ss) →
          (l.map ((post ss).idxOf ·)).foldl (fun o a => trav (kidsOf (orderedM ss)) f a o) (o.map ((post ss).idxOf ·)) = (l.foldl (fun o a => trav (kidsOf ss) f a o) o).map ((post ss).idxOf ·) ∧ ∀ y ∈ l.foldl (fun o a => trav (kidsOf ss) f a o) o, y ∈ post ss := by
        intro l
        induction l with
        | nil => intro o _ h; exact ⟨rfl, h⟩
        | cons a l ih =>
          intro o hl h
          obtain ⟨i1, i2⟩ := trav_ordered hok f a o (hl a (by simp)) h
          obtain ⟨j1, j2⟩ := ih _ (fun b hb => hl b (by simp [hb])) i2
          simp only [List.map_cons, List.foldl_cons, i1]
          exact ⟨j1, j2⟩
      obtain ⟨k1, k2⟩ := key (kidsOf ss x) o (post_closed hok hx) ho
      rw [kids_ordered hok hx, k1]
      refine ⟨by simp, fun y hy => ?_⟩
      rcases List.mem_append.1 hy with h | h
      · exact k2 y h
      · simp only [List.mem_singleton] at h
        rw [h]; exact hx

theorem post_ordered {ss : List Stp} (hok : Okay ss) : post (orderedM ss) = List.range (post ss).length := by
  obtain ⟨p, hp⟩ := post_last hok
  have h0 := hok.1
  have h3 : (post ss).length = p.length + 1 := by rw [hp]; simp
  have hn := shut_nodup hok.shut
  have hle := post_length_le hok
  have hlast : (post ss).idxOf (ss.length - 1) = (post ss).length - 1 := by
    have h := List.Nodup.idxOf_getElem hn ((post ss).length - 1) (by omega)
    have hg : (post ss)[(post ss).length - 1]? = some (ss.length - 1) := by rw [h3, hp]; simp
    rw [List.getElem?_eq_getElem (by omega)] at hg
    rw [Option.some.inj hg] at h
    exact h
  have hmem : ss.length - 1 ∈ post ss := by rw [hp]; simp
  obtain ⟨h1, _⟩ := trav_ordered hok ss.length (ss.length - 1) [] hmem (fun y h => by cases h)
  have h2 : post (orderedM ss) = trav (kidsOf (orderedM ss)) ss.length ((post ss).idxOf (ss.length - 1)) [] := by
    unfold post
    rw [← show post ss = trav (kidsOf ss) ss.length (ss.length - 1) [] from rfl, hlast, orderedM_length]
    exact trav_any (orderedM_ok hok).kids _ _ _ _ (by omega) (by omega)
  rw [h2]
  simp only [List.map_nil] at h1
  rw [h1]
  show (post ss).map ((post ss).idxOf ·) = _
  refine List.ext_getElem (by simp) fun k hk1 hk2 => ?_
  simp only [List.getElem_map, List.getElem_range]
  exact List.Nodup.idxOf_getElem hn k (by simpa using hk1)

theorem idxOf_range {n a : Nat} (h : a < n) : (List.range n).idxOf a = a := by
  have := List.Nodup.idxOf_getElem (List.nodup_range (n := n)) a (by simpa using h)
  simpa using this

theorem orderedM_twice {ss : List Stp} (hok : Okay ss) : orderedM (orderedM ss) = orderedM ss := by
  have hpo := post_ordered hok
  rw [orderedM, hpo]
  refine List.ext_getElem (by simp [orderedM_length]) fun k hk1 hk2 => ?_
  simp only [List.getElem_map, List.getElem_range]
  rw [ordStep_lt hk2]
  refine Stp.ext' rfl ?_
  show (orderedM ss)[k].args.map _ = _
  conv => rhs; rw [← List.map_id (orderedM ss)[k].args]
  refine List.map_congr_left fun a ha => ?_
  have := orderedM_back hok k hk2 a ha
  rw [idxOf_range (by rw [← orderedM_length]; omega)]
  simp only [id]
  omega

end Go.Proofs.YtcbmljfgmeeadaaDoor

namespace Go.Proofs.YtcbmljfgmeeadaaDoor

/-- The steps that stand for the visited ones. -/
def stepsOf (ss : List Stp) (pre : List Nat) : List Stp := pre.map (ordStep ss pre)
theorem stepsOf_length (ss : List Stp) (pre : List Nat) : (stepsOf ss pre).length = pre.length := by simp [stepsOf]

theorem idxOf_mono {p o : List Nat} (h : p <+: o) {x : Nat} (hx : x ∈ p) : o.idxOf x = p.idxOf x := by
  obtain ⟨t, rfl⟩ := h
  rw [List.idxOf_append, if_pos hx]

theorem ordStep_mono {ss : List Stp} {p o : List Nat} (h : p <+: o) {x : Nat} (hx : x < ss.length) (hk : ∀ a ∈ kidsOf ss x, a ∈ p) : ordStep ss o x = ordStep ss p x := by
  rw [ordStep_lt hx, ordStep_lt hx]
  congr 1
  refine List.map_congr_left fun a ha => ?_
  rw [idxOf_mono h (hk _ (by rw [kidsOf_lt hx]; exact List.mem_map.2 ⟨a, ha, rfl⟩))]

theorem stepsOf_snoc {ss : List Stp} {pre : List Nat} {x : Nat} (hs : Shut (kidsOf ss) pre) (hlt : ∀ y ∈ pre, y < ss.length) (hx : x < ss.length) (hk : ∀ a ∈ kidsOf ss x, a ∈ pre) : stepsOf ss (pre ++ [x]) = stepsOf ss pre ++ [ordStep ss pre x] := by
  unfold stepsOf
  rw [List.map_append, List.map_cons, List.map_nil]
  have hp : pre <+: pre ++ [x] := List.prefix_append _ _
  congr 1
  · refine List.map_congr_left fun y hy => ?_
    have hyl := hlt y hy
    refine ordStep_mono hp hyl ?_
    obtain ⟨p, q, hpq⟩ := List.append_of_mem hy
    intro a ha
    have h := (hs p y ⟨q, by rw [hpq]; simp⟩).2 a ha
    rw [hpq]; exact List.mem_append_left _ h
  · rw [ordStep_mono hp hx hk]

/-- Of each old step its new number, -1 without one. -/
structure NowOk (ss : List Stp) (pre : List Nat) (L : List Int) : Prop where
  len : L.length = ss.length
  yes : ∀ x ∈ pre, L[x]? = some ((pre.idxOf x : Nat) : Int)
  no : ∀ x, x < ss.length → x ∉ pre → L[x]? = some (-1)

theorem NowOk.start (ss : List Stp) : NowOk ss [] (List.replicate ss.length (-1)) := ⟨by simp, fun x h => by simp at h, fun x h _ => by simp [h]⟩
theorem NowOk.snoc {ss : List Stp} {pre : List Nat} {L : List Int} {x : Nat} (h : NowOk ss pre L) (hx : x < ss.length) (hn : x ∉ pre) : NowOk ss (pre ++ [x]) (L.set x (pre.length : Int)) := by
  refine ⟨by simp [h.len], fun y hy => ?_, fun y hy hny => ?_⟩
  · by_cases e : y = x
    · subst e
      rw [List.getElem?_set_self (by rw [h.len]; exact hx), List.idxOf_append, if_neg hn]; simp
    · rw [List.getElem?_set_ne (fun h => e h.symm)]
      rcases List.mem_append.1 hy with h' | h'
      · rw [h.yes y h', List.idxOf_append, if_pos h']
      · simp at h'; exact absurd h' e
  · simp at hny
    rw [List.getElem?_set_ne (fun h => hny.2 h.symm)]
    exact h.no y hy hny.1

/-- A list of visited steps. -/
structure Vis (ss : List Stp) (pre : List Nat) : Prop where
  shut : Shut (kidsOf ss) pre
  lt : ∀ y ∈ pre, y < ss.length

theorem Vis.nil (ss : List Stp) : Vis ss [] := ⟨shut_nil _, fun y h => by simp at h⟩
theorem Vis.trav {ss : List Stp} (hok : Okay ss) {f i : Nat} {pre : List Nat} (h : Vis ss pre) (hif : i < f) (hi : i < ss.length) : Vis ss (trav (kidsOf ss) f i pre) :=
  ⟨trav_shut (kidsOf ss) id (fun x a ha => hok.kid ha) f i pre hif h.shut, fun y hy => by
    rcases trav_rank (kidsOf ss) id (fun x a ha => hok.kid ha) f i pre y hy with h' | h'
    · exact h.lt y h'
    · exact Nat.lt_of_le_of_lt h' hi⟩
theorem Vis.fold {ss : List Stp} (hok : Okay ss) {f : Nat} : ∀ (l : List Nat) (pre : List Nat), Vis ss pre → (∀ a ∈ l, a < f ∧ a < ss.length) → Vis ss (l.foldl (fun o a => Go.Proofs.YtcbmljfgmeeadaaDoor.trav (kidsOf ss) f a o) pre)
  | [], _, h, _ => h
  | a :: l, pre, h, hl => Vis.fold hok l _ (h.trav hok (hl a (by simp)).1 (hl a (by simp)).2) fun b hb => hl b (by simp [hb])
theorem Vis.length {ss : List Stp} {pre : List Nat} (h : Vis ss pre) : pre.length ≤ ss.length := nodup_bound _ _ (shut_nodup h.shut) h.lt

theorem fold_rank {ss : List Stp} (hok : Okay ss) {f m : Nat} : ∀ (l : List Nat) (pre : List Nat), (∀ a ∈ l, a < m) → ∀ y ∈ l.foldl (fun o a => trav (kidsOf ss) f a o) pre, y ∈ pre ∨ y < m
  | [], _, _, y, h => Or.inl h
  | a :: l, pre, hl, y, h => by
    rcases fold_rank hok l _ (fun b hb => hl b (by simp [hb])) y h with h' | h'
    · rcases trav_rank (kidsOf ss) id (fun x a ha => hok.kid ha) f a pre y h' with h2 | h2
      · exact Or.inl h2
      · exact Or.inr (Nat.lt_of_le_of_lt h2 (hl a (by simp)))
    · exact Or.inr h'

theorem fold_mem {ss : List Stp} {f : Nat} : ∀ (l : List Nat) (pre : List Nat), (∀ a ∈ l, a < f) → ∀ a ∈ l, a ∈ l.foldl (fun o a => trav (kidsOf ss) f a o) pre
  | x :: l, pre, hl, a, h => by
    rcases List.mem_cons.1 h with rfl | h
    · exact (fold_prefix (kidsOf ss) f l _).subset (trav_mem' (hl a (by simp)))
    · exact fold_mem l _ (fun b hb => hl b (by simp [hb])) a h

/-- What has been visited when the first k kids of i have been. -/
def preAt (ss : List Stp) (f i k : Nat) (pre : List Nat) : List Nat := ((kidsOf ss i).take k).foldl (fun o a => trav (kidsOf ss) f a o) pre
/-- Their new numbers. -/
def argsAt (ss : List Stp) (f i k : Nat) (pre : List Nat) : List Int := ((kidsOf ss i).take k).map fun a => (((preAt ss f i k pre).idxOf a : Nat) : Int)

theorem preAt_zero (ss : List Stp) (f i : Nat) (pre : List Nat) : preAt ss f i 0 pre = pre := by simp [preAt]
theorem argsAt_zero (ss : List Stp) (f i : Nat) (pre : List Nat) : argsAt ss f i 0 pre = [] := by simp [argsAt]
theorem preAt_succ {ss : List Stp} {f i k : Nat} {pre : List Nat} (h : k < (kidsOf ss i).length) : preAt ss f i (k + 1) pre = trav (kidsOf ss) f (kidsOf ss i)[k] (preAt ss f i k pre) := fold_take_succ _ _ _ _ h _
theorem preAt_vis {ss : List Stp} (hok : Okay ss) {f i : Nat} {pre : List Nat} (h : Vis ss pre) (hif : i ≤ f) (hi : i < ss.length) (k : Nat) : Vis ss (preAt ss f i k pre) :=
  h.fold hok _ _ fun a ha => by have := hok.kid (List.mem_of_mem_take ha); omega
theorem preAt_mem {ss : List Stp} (hok : Okay ss) {f i k : Nat} {pre : List Nat} (hif : i ≤ f) {a : Nat} (ha : a ∈ (kidsOf ss i).take k) : a ∈ preAt ss f i k pre :=
  fold_mem _ _ (fun b hb => by have := hok.kid (List.mem_of_mem_take hb); omega) a ha
theorem preAt_not {ss : List Stp} (hok : Okay ss) {f i k : Nat} {pre : List Nat} (h : i ∉ pre) : i ∉ preAt ss f i k pre := fun hm => by
  rcases fold_rank hok _ _ (fun a ha => hok.kid (List.mem_of_mem_take ha)) i hm with h' | h'
  · exact h h'
  · omega
theorem argsAt_length {ss : List Stp} {f i k : Nat} {pre : List Nat} (h : k ≤ (kidsOf ss i).length) : (argsAt ss f i k pre).length = k := by simp [argsAt]; omega
theorem argsAt_succ {ss : List Stp} (hok : Okay ss) {f i k : Nat} {pre : List Nat} (hif : i ≤ f) (h : k < (kidsOf ss i).length) : argsAt ss f i (k + 1) pre = argsAt ss f i k pre ++ [(((preAt ss f i (k + 1) pre).idxOf (kidsOf ss i)[k] : Nat) : Int)] := by
  unfold argsAt
  rw [List.take_succ_eq_append_getElem h, List.map_append]
  congr 1
  refine List.map_congr_left fun a ha => ?_
  rw [idxOf_mono (p := preAt ss f i k pre) ?_ (preAt_mem hok hif ha)]
  rw [preAt_succ h]
  exact trav_prefix _ _ _ _
theorem argsAt_bound {ss : List Stp} (hok : Okay ss) {f i k : Nat} {pre : List Nat} (h : Vis ss pre) (hif : i ≤ f) (hi : i < ss.length) : ∀ x ∈ argsAt ss f i k pre, 0 ≤ x ∧ x ≤ 2000 := by
  intro x hx
  obtain ⟨a, _, rfl⟩ := List.mem_map.1 hx
  have h1 : (preAt ss f i k pre).idxOf a ≤ (preAt ss f i k pre).length := List.idxOf_le_length
  have h2 := (preAt_vis hok h hif hi k).length
  have h3 := hok.2.1
  omega
theorem visit_end {ss : List Stp} {f i : Nat} {pre : List Nat} (hi : i < ss.length) (hn : i ∉ pre) : trav (kidsOf ss) (f + 1) i pre = preAt ss f i ss[i].args.length pre ++ [i] ∧
    ordStep ss (preAt ss f i ss[i].args.length pre) i = ⟨ss[i].label, argsAt ss f i ss[i].args.length pre⟩ := by
  have hk : (kidsOf ss i).take ss[i].args.length = kidsOf ss i := by rw [kidsOf_lt hi, List.take_of_length_le (by simp)]
  constructor
  · simp only [trav, if_neg hn, preAt, hk]
  · rw [ordStep_lt hi, argsAt, hk, kidsOf_lt hi, List.map_map]
    rfl

end Go.Proofs.YtcbmljfgmeeadaaDoor
