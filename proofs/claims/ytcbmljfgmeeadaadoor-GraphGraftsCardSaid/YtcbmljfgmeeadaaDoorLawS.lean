/-
  PLAIN LAW: share depends on the tree alone, and keeps it.
-/
import Derived.Test.YtcbmljfgmeeadaaDoorLawK
import Derived.Test.YtcbmljfgmeeadaaDoorTre
namespace Go.Proofs.YtcbmljfgmeeadaaDoor

/-- Args lead back. -/
def Back (ss : List Stp) : Prop := ∀ i (h : i < ss.length), ∀ a ∈ ss[i].args, 0 ≤ a ∧ a < (i : Int)
theorem Back.kids {ss : List Stp} (h : Back ss) : ∀ i, ∀ a ∈ kidsOf ss i, a < i := by
  intro i a ha
  by_cases hi : i < ss.length
  · rw [kidsOf_lt hi] at ha
    obtain ⟨b, hb, rfl⟩ := List.mem_map.1 ha
    have := h i hi b hb
    omega
  · simp [kidsOf, List.getElem?_eq_none (Nat.le_of_not_lt hi)] at ha
theorem Okay.back {ss : List Stp} (h : Okay ss) : Back ss := fun i hi => (h.2.2 i hi).2

theorem Back.tree {ss : List Stp} (hb : Back ss) {i : Nat} (h : i < ss.length) : treeAt ss i = .node ss[i].label (ss[i].args.map fun a => treeAt ss a.toNat) := by
  rw [treeAt_eq hb.kids, kidsOf_lt h, List.map_map]
  simp [h]

/-- What stands behind does not matter. -/
theorem Back.ahead {ss ts : List Stp} (hs : Back ss) (ht : Back ts) (hp : ss <+: ts) : ∀ i, i < ss.length → treeAt ts i = treeAt ss i := by
  intro i
  induction i using Nat.strongRecOn with
  | _ i ih =>
    intro hi
    obtain ⟨r, rfl⟩ := hp
    have hi2 : i < (ss ++ r).length := by simp; omega
    rw [ht.tree hi2, hs.tree hi]
    simp only [List.getElem_append_left hi, Tree.node.injEq, true_and]
    refine List.map_congr_left fun a ha => ?_
    have := hs i hi a ha
    exact ih a.toNat (by omega) (by omega)

/-- Steps without a double. -/
structure Terse (ss : List Stp) : Prop where
  nodup : ss.Nodup
  back : Back ss

theorem Terse.nil : Terse [] := ⟨List.nodup_nil, fun i h => by simp at h⟩
theorem Back.snoc {ss : List Stp} {s : Stp} (h : Back ss) (hs : ∀ a ∈ s.args, 0 ≤ a ∧ a < (ss.length : Int)) : Back (ss ++ [s]) := by
  intro i hi a ha
  by_cases hl : i < ss.length
  · simp only [List.getElem_append_left hl] at ha
    exact h i hl a ha
  · obtain rfl : i = ss.length := by simp at hi; omega
    simp at ha
    exact hs a ha

/-- Of steps without a double a tree has one number alone. -/
theorem Terse.one {ss : List Stp} (h : Terse ss) : ∀ i j, i < ss.length → j < ss.length → treeAt ss i = treeAt ss j → i = j := by
  intro i
  induction i using Nat.strongRecOn with
  | _ i ih =>
    intro j hi hj he
    rw [h.back.tree hi, h.back.tree hj] at he
    obtain ⟨h1, h2⟩ := Tree.node.inj he
    have hlen : ss[i].args.length = ss[j].args.length := by simpa using congrArg List.length h2
    have hargs : ss[i].args = ss[j].args := by
      refine List.ext_getElem hlen fun k hk1 hk2 => ?_
      have h3 : (ss[i].args.map fun a => treeAt ss a.toNat)[k]'(by simpa using hk1) = (ss[j].args.map fun a => treeAt ss a.toNat)[k]'(by simpa using hk2) := by simp only [h2]
      simp only [List.getElem_map] at h3
      have b1 := h.back i hi _ (List.getElem_mem hk1)
      have b2 := h.back j hj _ (List.getElem_mem hk2)
      have := ih ss[i].args[k].toNat (by omega) ss[j].args[k].toNat (by omega) (by omega) h3
      omega
    have hst : ss[i] = ss[j] := Stp.ext' h1 hargs
    exact (List.getElem_inj h.nodup).1 hst

mutual
/-- A tree is shared into what there is. -/
def shT : Tree → List Stp → List Stp × Nat
  | .node l ks, out => (addM (shTs ks out).1 ⟨l, (shTs ks out).2⟩, addAt (shTs ks out).1 ⟨l, (shTs ks out).2⟩)
def shTs : List Tree → List Stp → List Stp × List Int
  | [], out => (out, [])
  | k :: ks, out => ((shTs ks (shT k out).1).1, ((shT k out).2 : Int) :: (shTs ks (shT k out).1).2)
end

/-- What sharing a tree leaves. -/
structure ShOk (out : List Stp) (t : Tree) (r : List Stp × Nat) : Prop where
  lean : Terse r.1
  pre : out <+: r.1
  lt : r.2 < r.1.length
  tree : treeAt r.1 r.2 = t

theorem addM_ok {out : List Stp} (h : Terse out) (s : Stp) (hs : ∀ a ∈ s.args, 0 ≤ a ∧ a < (out.length : Int)) : Terse (addM out s) ∧ out <+: addM out s ∧ addAt out s < (addM out s).length ∧ (addM out s)[addAt out s]? = some s := by
  rw [addM_eq, addAt_eq]
  by_cases hm : s ∈ out
  · rw [if_pos hm]
    refine ⟨h, List.prefix_rfl, List.idxOf_lt_length_iff.2 hm, ?_⟩
    rw [List.getElem?_eq_getElem (List.idxOf_lt_length_iff.2 hm), List.getElem_idxOf]
  · rw [if_neg hm, List.idxOf_eq_length hm]
    refine ⟨⟨?_, h.back.snoc hs⟩, List.prefix_append _ _, by simp, by simp⟩
    rw [List.nodup_append]
    exact ⟨h.nodup, by simp, fun a ha b hb => by simp at hb; rintro rfl; exact hm (hb ▸ ha)⟩

mutual
theorem shT_ok : ∀ (t : Tree) (out : List Stp), Terse out → ShOk out t (shT t out)
  | .node l ks, out, h => by
    obtain ⟨h1, h2, h3, h4, h5⟩ := shTs_ok ks out h
    obtain ⟨a1, a2, a3, a4⟩ := addM_ok h1 ⟨l, (shTs ks out).2⟩ (fun a ha => h4 a ha)
    refine ⟨a1, h2.trans a2, a3, ?_⟩
    show treeAt (addM (shTs ks out).1 ⟨l, (shTs ks out).2⟩) (addAt (shTs ks out).1 ⟨l, (shTs ks out).2⟩) = _
    rw [a1.back.tree a3]
    have he := a4
    rw [List.getElem?_eq_getElem a3] at he
    rw [Option.some.inj he]
    simp only [Tree.node.injEq, true_and]
    refine (List.map_congr_left fun a ha => ?_).trans h5
    have := h4 a ha
    exact h1.back.ahead a1.back a2 a.toNat (by omega)
theorem shTs_ok : ∀ (ks : List Tree) (out : List Stp), Terse out → Terse (shTs ks out).1 ∧ out <+: (shTs ks out).1 ∧ (shTs ks out).2.length = ks.length ∧
    (∀ a ∈ (shTs ks out).2, 0 ≤ a ∧ a < ((shTs ks out).1.length : Int)) ∧ ((shTs ks out).2.map fun a => treeAt (shTs ks out).1 a.toNat) = ks
  | [], out, h => by simp [shTs, h]
  | k :: ks, out, h => by
    obtain ⟨b1, b2, b3, b4⟩ := shT_ok k out h
    obtain ⟨c1, c2, c3, c4, c5⟩ := shTs_ok ks _ b1
    simp only [shTs]
    have hle := c2.length_le
    refine ⟨c1, b2.trans c2, by simp [c3], ?_, ?_⟩
    · intro a ha
      rcases List.mem_cons.1 ha with h | h
      · omega
      · exact c4 a h
    · simp only [List.map_cons, c5, Int.toNat_natCast, List.cons.injEq, and_true]
      rw [b1.back.ahead c1.back c2 _ b3, b4]
end

/-- A tree that is there is not added. -/
theorem shT_known {out : List Stp} (h : Terse out) : ∀ n, n < out.length → shT (treeAt out n) out = (out, n) := by
  intro n
  induction n using Nat.strongRecOn with
  | _ n ih =>
    intro hn
    rw [h.back.tree hn]
    have hk : ∀ (l : List Int), (∀ a ∈ l, 0 ≤ a ∧ a < (n : Int)) → shTs (l.map fun a => treeAt out a.toNat) out = (out, l) := by
      intro l
      induction l with
      | nil => intro _; rfl
      | cons a l ihl =>
        intro hl
        have ha := hl a (by simp)
        simp only [List.map_cons, shTs, ih a.toNat (by omega) (by omega), ihl fun b hb => hl b (by simp [hb])]
        congr 2
        omega
    simp only [shT, hk _ (h.back n hn)]
    have he : (⟨out[n].label, out[n].args⟩ : Stp) = out[n] := rfl
    rw [he, addM_eq, addAt_eq, if_pos (List.getElem_mem hn), List.Nodup.idxOf_getElem h.nodup]


/-- The state of share's rounds. -/
structure ShSt (ss : List Stp) (pre : List Nat) (outs : List Stp) (now : List Int) : Prop where
  lean : Terse outs
  len : now.length = ss.length
  at_ : ∀ x ∈ pre, ∃ n : Nat, now[x]? = some (n : Int) ∧ n < outs.length ∧ treeAt outs n = treeAt ss x

theorem shareTo_append (ss : List Stp) (o p : List Nat) : shareTo ss (o ++ p) = p.foldl (shRound ss) (shareTo ss o) := by simp [shareTo]

theorem ShSt.round {ss : List Stp} {pre : List Nat} {outs : List Stp} {now : List Int} {x : Nat} (hok : Okay ss) (h : ShSt ss pre outs now) (hx : x < ss.length) (hxp : x ∉ pre) (hk : ∀ a ∈ kidsOf ss x, a ∈ pre) :
    ShSt ss (pre ++ [x]) (shRound ss (outs, now) x).1 (shRound ss (outs, now) x).2 ∧ outs <+: (shRound ss (outs, now) x).1 ∧
      ∀ (ns : List Int), (∀ a ∈ ns, 0 ≤ a ∧ a < (outs.length : Int)) → (ns.map fun a => treeAt outs a.toNat) = (kidsOf ss x).map (treeAt ss) → shStp ss now x = ⟨ss[x].label, ns⟩ := by
  have hargs : ∀ a ∈ ss[x].args, ∃ n : Nat, numAt now a = (n : Int) ∧ n < outs.length ∧ treeAt outs n = treeAt ss a.toNat := by
    intro a ha
    obtain ⟨n, h1, h2, h3⟩ := h.at_ a.toNat (hk _ (by rw [kidsOf_lt hx]; exact List.mem_map.2 ⟨a, ha, rfl⟩))
    exact ⟨n, by rw [numAt, List.getD_eq_getElem?_getD, h1]; rfl, h2, h3⟩
  have hst : shStp ss now x = ⟨ss[x].label, ss[x].args.map (numAt now)⟩ := by simp [shStp, hx]
  have hb : ∀ a ∈ (shStp ss now x).args, 0 ≤ a ∧ a < (outs.length : Int) := by
    rw [hst]
    intro a ha
    obtain ⟨b, hb, rfl⟩ := List.mem_map.1 ha
    obtain ⟨n, h1, h2, _⟩ := hargs b hb
    rw [h1]; omega
  obtain ⟨a1, a2, a3, a4⟩ := addM_ok h.lean (shStp ss now x) hb
  refine ⟨⟨a1, by simp [shRound, h.len], ?_⟩, a2, ?_⟩
  · intro y hy
    by_cases hyx : y = x
    · subst hyx
      refine ⟨addAt outs (shStp ss now y), by simp only [shRound]; rw [List.getElem?_set_self (by rw [h.len]; exact hx)], a3, ?_⟩
      show treeAt (addM outs (shStp ss now y)) _ = _
      have he := a4
      rw [List.getElem?_eq_getElem a3] at he
      have he' := Option.some.inj he
      rw [a1.back.tree a3, he', hok.back.tree hx, hst]
      simp only [Tree.node.injEq, true_and, List.map_map]
      refine List.map_congr_left fun a ha => ?_
      obtain ⟨n, h1, h2, h3⟩ := hargs a ha
      simp only [Function.comp_apply, h1, Int.toNat_natCast]
      rw [← h3]
      rw [hst] at a1 a2
      exact h.lean.back.ahead a1.back a2 n h2
    · have hyp : y ∈ pre := by
        rcases List.mem_append.1 hy with h | h
        · exact h
        · simp at h; exact absurd h hyx
      obtain ⟨n, h1, h2, h3⟩ := h.at_ y hyp
      refine ⟨n, by simp only [shRound]; rw [List.getElem?_set_ne (fun e => hyx e.symm)]; exact h1, Nat.lt_of_lt_of_le h2 a2.length_le, ?_⟩
      rw [← h3]
      exact h.lean.back.ahead a1.back a2 n h2
  · intro ns hns he
    rw [hst]
    congr 1
    rw [kidsOf_lt hx, List.map_map] at he
    have hlen : ns.length = ss[x].args.length := by simpa using congrArg List.length he
    refine List.ext_getElem (by simp [hlen]) fun k hk1 hk2 => ?_
    simp only [List.length_map] at hk1
    obtain ⟨n, h1, h2, h3⟩ := hargs _ (List.getElem_mem hk1)
    simp only [List.getElem_map, h1]
    have hb := hns _ (List.getElem_mem hk2)
    have h4 : (ns.map fun a => treeAt outs a.toNat)[k]'(by simpa using hk2) = (ss[x].args.map (treeAt ss ∘ Int.toNat))[k]'(by simpa using hk1) := by simp only [he]
    simp only [List.getElem_map, Function.comp_apply] at h4
    have := h.lean.one n ns[k].toNat h2 (by omega) (h3.trans h4.symm)
    omega


theorem trav_mem' {kids : Nat → List Nat} {f x : Nat} {o : List Nat} (h : x < f) : x ∈ trav kids f x o := by
  obtain ⟨f', rfl⟩ : ∃ f', f = f' + 1 := ⟨f - 1, by omega⟩
  exact trav_mem kids f' x o

theorem trav_share {ss : List Stp} (hok : Okay ss) : ∀ (f i : Nat) (pre : List Nat), i < f → i < ss.length → Shut (kidsOf ss) pre → ShSt ss pre (shareTo ss pre).1 (shareTo ss pre).2 →
    ShSt ss (trav (kidsOf ss) f i pre) (shareTo ss (trav (kidsOf ss) f i pre)).1 (shareTo ss (trav (kidsOf ss) f i pre)).2 ∧
      (shareTo ss (trav (kidsOf ss) f i pre)).1 = (shT (treeAt ss i) (shareTo ss pre).1).1
  | 0, i, pre, h, _, _, _ => by omega
  | f + 1, i, pre, hf, hi, hs, hst => by
    by_cases hm : i ∈ pre
    · have ht : trav (kidsOf ss) (f + 1) i pre = pre := by simp [trav, hm]
      rw [ht]
      refine ⟨hst, ?_⟩
      obtain ⟨n, h1, h2, h3⟩ := hst.at_ i hm
      rw [← h3, shT_known hst.lean n h2]
    · have ht : trav (kidsOf ss) (f + 1) i pre = (kidsOf ss i).foldl (fun o a => trav (kidsOf ss) f a o) pre ++ [i] := by simp [trav, hm]
      have key : ∀ (l : List Nat) (pre : List Nat), (∀ a ∈ l, a < i) → Shut (kidsOf ss) pre → ShSt ss pre (shareTo ss pre).1 (shareTo ss pre).2 →
          ShSt ss (l.foldl (fun o a => trav (kidsOf ss) f a o) pre) (shareTo ss (l.foldl (fun o a => trav (kidsOf ss) f a o) pre)).1 (shareTo ss (l.foldl (fun o a => trav (kidsOf ss) f a o) pre)).2 ∧
            (shareTo ss (l.foldl (fun o a => trav (kidsOf ss) f a o) pre)).1 = (shTs (l.map (treeAt ss)) (shareTo ss pre).1).1 := by
        intro l
        induction l with
        | nil => intro pre _ _ h; exact ⟨h, rfl⟩
        | cons a l ih =>
          intro pre hl h1 h2
          have ha := hl a (by simp)
          obtain ⟨i1, i2⟩ := trav_share hok f a pre (by omega) (by omega) h1 h2
          have h3 := trav_shut (kidsOf ss) id (fun x a ha => hok.kid ha) f a pre (by simp only [id]; omega) h1
          obtain ⟨j1, j2⟩ := ih (trav (kidsOf ss) f a pre) (fun b hb => hl b (by simp [hb])) h3 i1
          refine ⟨j1, ?_⟩
          rw [List.foldl_cons, j2, i2]
          rfl
      have hshut := trav_shut (kidsOf ss) id (fun x a ha => hok.kid ha) (f + 1) i pre (by simp only [id]; omega) hs
      obtain ⟨k1, k2⟩ := key (kidsOf ss i) pre (fun a ha => hok.kid ha) hs hst
      rw [ht] at hshut ⊢
      obtain ⟨n1, n2⟩ := hshut _ _ List.prefix_rfl
      generalize (kidsOf ss i).foldl (fun o a => trav (kidsOf ss) f a o) pre = pre' at k1 k2 n1 n2 ⊢
      obtain ⟨r1, r2, r3⟩ := k1.round hok hi n1 n2
      rw [shareTo_snoc]
      refine ⟨r1, ?_⟩
      obtain ⟨t1, t2, t3, t4, t5⟩ := shTs_ok ((kidsOf ss i).map (treeAt ss)) (shareTo ss pre).1 hst.lean
      rw [← k2] at t4 t5
      have hstp := r3 _ t4 t5
      show addM (shareTo ss pre').1 (shStp ss (shareTo ss pre').2 i) = _
      rw [hstp, treeAt_eq hok.kids, k2]
      simp [shT, hi]

/-- What share makes of a proof is what it makes of the tree. -/
theorem shareM_tree {ss : List Stp} (hok : Okay ss) : shareM ss = (shT (treeM ss) []).1 := by
  have h0 := hok.1
  have h := trav_share hok ss.length (ss.length - 1) [] (by omega) (by omega) (shut_nil _) ⟨Terse.nil, by simp [shareTo], fun x hx => by cases hx⟩
  exact h.2

mutual
/-- What is added is no greater than the tree. -/
theorem shT_new : ∀ (t : Tree) (out : List Stp), Terse out → ∀ p, out.length ≤ p → p < (shT t out).1.length → tsize (treeAt (shT t out).1 p) ≤ tsize t
  | .node l ks, out, h, p, h1, h2 => by
    obtain ⟨a1, a2, a3, a4, a5⟩ := shTs_ok ks out h
    have hw := shT_ok (.node l ks) out h
    by_cases hp : p < (shTs ks out).1.length
    · have h3 := shTs_new ks out h p h1 hp
      have hpre : (shTs ks out).1 <+: (shT (.node l ks) out).1 := by
        show _ <+: addM _ _
        rw [addM_eq]
        split
        · exact List.prefix_rfl
        · exact List.prefix_append _ _
      rw [a1.back.ahead hw.lean.back hpre p hp]
      simp only [tsize]
      omega
    · have hlen : (shT (.node l ks) out).1.length ≤ (shTs ks out).1.length + 1 := addM_length _ _
      have hat : (shT (.node l ks) out).2 = p := by
        show addAt _ _ = p
        have hgt : (addM (shTs ks out).1 ⟨l, (shTs ks out).2⟩).length ≠ (shTs ks out).1.length := by
          show (shT (.node l ks) out).1.length ≠ _
          omega
        rw [addM_eq] at hgt
        rw [addAt_eq]
        split at hgt
        · exact absurd rfl hgt
        · rename_i hm
          rw [List.idxOf_eq_length hm]
          omega
      have := hw.tree
      rw [hat] at this
      rw [this]
      exact Nat.le_refl _
theorem shTs_new : ∀ (ks : List Tree) (out : List Stp), Terse out → ∀ p, out.length ≤ p → p < (shTs ks out).1.length → tsize (treeAt (shTs ks out).1 p) ≤ tsizes ks
  | [], out, h, p, h1, h2 => by simp only [shTs] at h2; omega
  | k :: ks, out, h, p, h1, h2 => by
    obtain ⟨b1, b2, b3, b4⟩ := shT_ok k out h
    obtain ⟨c1, c2, c3, c4, c5⟩ := shTs_ok ks _ b1
    simp only [tsizes]
    by_cases hp : p < (shT k out).1.length
    · have h3 := shT_new k out h p h1 hp
      show tsize (treeAt (shTs ks (shT k out).1).1 p) ≤ _
      rw [b1.back.ahead c1.back c2 p hp]
      omega
    · have h3 := shTs_new ks _ b1 p (by omega) h2
      show tsize (treeAt (shTs ks (shT k out).1).1 p) ≤ _
      omega
end

/-- The root stands last. -/
theorem shT_last (t : Tree) (out : List Stp) (h : Terse out) : (shT t out).1 = out ∨ (shT t out).2 + 1 = (shT t out).1.length := by
  obtain ⟨l, ks⟩ := t
  obtain ⟨a1, a2, a3, a4, a5⟩ := shTs_ok ks out h
  have hw := shT_ok (.node l ks) out h
  by_cases hm : (⟨l, (shTs ks out).2⟩ : Stp) ∈ (shTs ks out).1
  · have he : (shT (.node l ks) out).1 = (shTs ks out).1 := by
      show addM _ _ = _
      rw [addM_eq, if_pos hm]
    by_cases hn : (shT (.node l ks) out).2 < out.length
    · left
      have h1 := h.back.ahead hw.lean.back hw.pre _ hn
      rw [hw.tree] at h1
      rw [h1, shT_known h _ hn]
    · have h2 := shTs_new ks out h (shT (.node l ks) out).2 (by omega) (by rw [← he]; exact hw.lt)
      rw [← he, hw.tree] at h2
      simp only [tsize] at h2
      omega
  · right
    show addAt _ _ + 1 = (addM _ _).length
    rw [addM_eq, addAt_eq, if_neg hm, List.idxOf_eq_length hm]
    simp

/-- share keeps the tree, and its form is right. -/
theorem shareM_back {ss : List Stp} (hok : Okay ss) : Terse (shareM ss) ∧ 1 ≤ (shareM ss).length ∧ treeM (shareM ss) = treeM ss := by
  have h := shT_ok (treeM ss) [] Terse.nil
  have h2 := shT_last (treeM ss) [] Terse.nil
  rw [shareM_tree hok]
  have hlt := h.lt
  refine ⟨h.lean, by omega, ?_⟩
  rcases h2 with h2 | h2
  · rw [h2] at hlt; simp at hlt
  · generalize treeM ss = t at *
    show treeAt (shT t []).1 ((shT t []).1.length - 1) = t
    rw [← h2, Nat.add_sub_cancel]
    exact h.tree

theorem shareTo_slim {ss : List Stp} (hok : Okay ss) : ∀ (o : List Nat) (st : List Stp × List Int), (∀ s ∈ st.1, s.args.length ≤ 40) → ∀ s ∈ (o.foldl (shRound ss) st).1, s.args.length ≤ 40
  | [], _, h => h
  | x :: o, st, h => by
    refine shareTo_slim hok o _ fun s hs => ?_
    simp only [shRound, addM_eq] at hs
    have hx : (shStp ss st.2 x).args.length ≤ 40 := by
      simp only [shStp, List.length_map]
      by_cases hi : x < ss.length
      · simp only [List.getElem?_eq_getElem hi, Option.map_some, Option.getD_some]
        exact (hok.2.2 x hi).1
      · simp [List.getElem?_eq_none (Nat.le_of_not_lt hi)]
    split at hs
    · exact h s hs
    · rcases List.mem_append.1 hs with h1 | h1
      · exact h s h1
      · simp only [List.mem_singleton] at h1
        rw [h1]; exact hx

theorem shareM_length (ss : List Stp) : (shareM ss).length ≤ (post ss).length := (shareTo_bounds ss (post ss)).1

theorem shareM_okay {ss : List Stp} (hok : Okay ss) : Okay (shareM ss) := by
  obtain ⟨h1, h2, _⟩ := shareM_back hok
  have h3 := shareM_length ss
  have h4 := post_length_le hok
  have h5 := hok.2.1
  exact ⟨h2, by omega, fun i hi => ⟨shareTo_slim hok (post ss) _ (by simp) _ (List.getElem_mem hi), h1.back i hi⟩⟩

end Go.Proofs.YtcbmljfgmeeadaaDoor
