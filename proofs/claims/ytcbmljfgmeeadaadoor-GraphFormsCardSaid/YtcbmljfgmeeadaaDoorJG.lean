/-
  PLAIN LAW: the reference's way to share: equal steps are made one, then the needed ones are put in order: the same steps as by the tree.
  PLAIN LAW: texts that are put in order one by one are those that are sorted, each once.
  PLAIN LAW: the reference's way to graft gives the same tree.
-/
import Derived.Test.YtcbmljfgmeeadaaDoorG21
import Derived.Test.YtcbmljfgmeeadaaDoorJC
import Derived.Test.YtcbmljfgmeeadaaDoorJF
namespace Go.Proofs.YtcbmljfgmeeadaaDoor

def mgStep (st : List Stp × List Int) (s : Stp) : List Stp × List Int := (addM st.1 (renumM st.2 s), st.2 ++ [((addAt st.1 (renumM st.2 s) : Nat) : Int)])
/-- The first k steps, merged. -/
def mgTo (ss : List Stp) (k : Nat) : List Stp × List Int := (ss.take k).foldl mgStep ([], [])
theorem mgTo_succ {ss : List Stp} {k : Nat} (h : k < ss.length) : mgTo ss (k + 1) = mgStep (mgTo ss k) ss[k] := by
  unfold mgTo
  rw [List.take_succ_eq_append_getElem h, List.foldl_append]; rfl

structure MgSt (ss : List Stp) (k : Nat) (outs : List Stp) (now : List Int) : Prop where
  lean : Terse outs
  len : now.length = k
  olen : outs.length ≤ k
  slim : ∀ s ∈ outs, s.args.length ≤ 40
  at_ : ∀ x, x < k → ∃ n : Nat, now[x]? = some (n : Int) ∧ n < outs.length ∧ treeAt outs n = treeAt ss x

theorem MgSt.next {ss : List Stp} (hok : Okay ss) {k : Nat} {outs : List Stp} {now : List Int} (h : MgSt ss k outs now) (hk : k < ss.length) : MgSt ss (k + 1) (mgStep (outs, now) ss[k]).1 (mgStep (outs, now) ss[k]).2 := by
  have hr := (hok.2.2 k hk)
  have hargs : ∀ a ∈ ss[k].args, ∃ n : Nat, numAt now a = (n : Int) ∧ n < outs.length ∧ treeAt outs n = treeAt ss a.toNat := by
    intro a ha
    have := hr.2 a ha
    obtain ⟨n, h1, h2, h3⟩ := h.at_ a.toNat (by omega)
    exact ⟨n, by rw [numAt, List.getD_eq_getElem?_getD, h1]; rfl, h2, h3⟩
  have hb : ∀ a ∈ (renumM now ss[k]).args, 0 ≤ a ∧ a < (outs.length : Int) := by
    intro a ha
    obtain ⟨b, hb, rfl⟩ := List.mem_map.1 ha
    obtain ⟨n, h1, h2, _⟩ := hargs b hb
    rw [h1]; omega
  obtain ⟨a1, a2, a3, a4⟩ := addM_ok h.lean (renumM now ss[k]) hb
  refine ⟨a1, by simp [mgStep, h.len], ?_, ?_, ?_⟩
  · have := addM_length outs (renumM now ss[k])
    have := h.olen
    simp only [mgStep]; omega
  · intro s hs
    simp only [mgStep, addM_eq] at hs
    split at hs
    · exact h.slim s hs
    · rcases List.mem_append.1 hs with h' | h'
      · exact h.slim s h'
      · simp at h'; subst h'; simpa [renumM] using hr.1
  · intro x hx
    by_cases e : x = k
    · subst e
      refine ⟨addAt outs (renumM now ss[x]), by simp only [mgStep]; rw [List.getElem?_append_right (by rw [h.len]; exact Nat.le_refl _), h.len, Nat.sub_self]; rfl, a3, ?_⟩
      show treeAt (addM outs (renumM now ss[x])) _ = _
      have he := a4
      rw [List.getElem?_eq_getElem a3] at he
      have he' := Option.some.inj he
      rw [a1.back.tree a3, he', hok.back.tree hk]
      simp only [renumM, Tree.node.injEq, true_and, List.map_map]
      refine List.map_congr_left fun a ha => ?_
      obtain ⟨n, h1, h2, h3⟩ := hargs a ha
      simp only [Function.comp_apply, h1, Int.toNat_natCast]
      rw [← h3]
      exact h.lean.back.ahead a1.back a2 n h2
    · obtain ⟨n, h1, h2, h3⟩ := h.at_ x (by omega)
      refine ⟨n, by simp only [mgStep]; rw [List.getElem?_append_left (by rw [h.len]; omega)]; exact h1, Nat.lt_of_lt_of_le h2 a2.length_le, ?_⟩
      rw [← h3]
      exact h.lean.back.ahead a1.back a2 n h2

theorem mgTo_st {ss : List Stp} (hok : Okay ss) : ∀ k, k ≤ ss.length → MgSt ss k (mgTo ss k).1 (mgTo ss k).2
  | 0, _ => ⟨Terse.nil, rfl, by simp [mgTo], (fun s h => by simp [mgTo] at h), (fun x h => by omega)⟩
  | k + 1, h => by
    rw [mgTo_succ h]
    exact (mgTo_st hok k (by omega)).next hok h

/-- The number of the last step. -/
def mgLast (ss : List Stp) : Nat := ((mgTo ss ss.length).2.getD (ss.length - 1) 0).toNat
/-- What the reference's merged returns. -/
def mergedM (ss : List Stp) : List Stp := (mgTo ss ss.length).1.take (mgLast ss + 1)

theorem Back.take {ss : List Stp} (h : Back ss) (n : Nat) : Back (ss.take n) := by
  intro i hi a ha
  simp only [List.getElem_take] at ha
  exact h i (by rw [List.length_take] at hi; omega) a ha

theorem mgLast_spec {ss : List Stp} (hok : Okay ss) : (mgTo ss ss.length).2[ss.length - 1]? = some ((mgLast ss : Nat) : Int) ∧ mgLast ss < (mgTo ss ss.length).1.length ∧ treeAt (mgTo ss ss.length).1 (mgLast ss) = treeM ss := by
  have h1 := hok.1
  have h := mgTo_st hok ss.length (Nat.le_refl _)
  obtain ⟨n, h2, h3, h4⟩ := h.at_ (ss.length - 1) (by omega)
  have hn : mgLast ss = n := by rw [mgLast, List.getD_eq_getElem?_getD, h2]; simp
  rw [hn]
  exact ⟨h2, h3, h4⟩

theorem mergedM_spec {ss : List Stp} (hok : Okay ss) : Okay (mergedM ss) ∧ (mergedM ss).Nodup ∧ treeM (mergedM ss) = treeM ss := by
  have h1 := hok.1
  have h2 := hok.2.1
  have h := mgTo_st hok ss.length (Nat.le_refl _)
  obtain ⟨_, m1, m2⟩ := mgLast_spec hok
  have hlen : (mergedM ss).length = mgLast ss + 1 := by rw [mergedM, List.length_take]; omega
  have hb : Back (mergedM ss) := h.lean.back.take _
  have ho : Okay (mergedM ss) := by
    refine ⟨by omega, by have := h.olen; omega, fun i hi => ⟨?_, hb i hi⟩⟩
    refine h.slim _ ?_
    have hm := List.getElem_mem hi
    exact List.mem_of_mem_take hm
  refine ⟨ho, h.lean.nodup.sublist (List.take_sublist _ _), ?_⟩
  rw [← m2]
  unfold treeM
  rw [hlen]
  exact (hb.ahead h.lean.back (List.take_prefix _ _) (mgLast ss) (by omega)).symm

theorem ordStep_inj {q : List Stp} (hq : Okay q) (hn : q.Nodup) {x y : Nat} (hx : x ∈ post q) (hy : y ∈ post q) (h : ordStep q (post q) x = ordStep q (post q) y) : x = y := by
  have lx := hq.post_lt hx
  have ly := hq.post_lt hy
  rw [ordStep_lt lx, ordStep_lt ly, Stp.mk.injEq] at h
  obtain ⟨h1, h2⟩ := h
  have hlen : q[x].args.length = q[y].args.length := by simpa using congrArg List.length h2
  have hargs : q[x].args = q[y].args := by
    refine List.ext_getElem hlen fun k k1 k2 => ?_
    have h3 : (q[x].args.map fun a => (((post q).idxOf a.toNat : Nat) : Int))[k]'(by simpa using k1) = (q[y].args.map fun a => (((post q).idxOf a.toNat : Nat) : Int))[k]'(by simpa using k2) := by simp only [h2]
    simp only [List.getElem_map] at h3
    have hm := post_closed hq hx _ (by rw [kidsOf_lt lx]; exact List.mem_map.2 ⟨_, List.getElem_mem k1, rfl⟩)
    have h4 := idx_inj hm (show (post q).idxOf q[x].args[k].toNat = (post q).idxOf q[y].args[k].toNat by omega)
    have b1 := (hq.2.2 x lx).2 _ (List.getElem_mem k1)
    have b2 := (hq.2.2 y ly).2 _ (List.getElem_mem k2)
    omega
  have he : q[x] = q[y] := by
    cases hqx : q[x]; cases hqy : q[y]
    simp only [hqx, hqy] at h1 hargs
    rw [h1, hargs]
  rw [← List.Nodup.idxOf_getElem hn x lx, he, List.Nodup.idxOf_getElem hn y ly]

theorem share_terse {q : List Stp} (hq : Okay q) (hn : q.Nodup) : ∀ (n : Nat) (pre : List Nat), pre.length = n → pre <+: post q → (shareTo q pre).1 = pre.map (ordStep q (post q)) ∧ (shareTo q pre).2.length = q.length ∧ ∀ x ∈ pre, (shareTo q pre).2[x]? = some (((post q).idxOf x : Nat) : Int)
  | 0, pre, h, _ => by
    obtain rfl := List.eq_nil_of_length_eq_zero h
    exact ⟨rfl, by simp [shareTo], fun x h => by cases h⟩
  | n + 1, pre, h, hp => by
    rcases List.eq_nil_or_concat pre with rfl | ⟨p, x, rfl⟩
    · simp at h
    · rw [List.concat_eq_append] at *
      obtain ⟨i1, i2, i3⟩ := share_terse hq hn n p (by simpa using h) ((List.prefix_append _ _).trans hp)
      obtain ⟨hx, hxp, hk⟩ := hq.round hp
      have hxm : x ∈ post q := hp.subset (by simp)
      have hst : shStp q (shareTo q p).2 x = ordStep q (post q) x := by
        rw [ordStep_lt hx]
        simp only [shStp, List.getElem?_eq_getElem hx, Option.map_some, Option.getD_some]
        congr 1
        refine List.map_congr_left fun a ha => ?_
        have := i3 a.toNat (hk _ (by rw [kidsOf_lt hx]; exact List.mem_map.2 ⟨a, ha, rfl⟩))
        rw [numAt, List.getD_eq_getElem?_getD, this]; rfl
      have hnew : ordStep q (post q) x ∉ p.map (ordStep q (post q)) := by
        intro hm
        obtain ⟨y, hy, he⟩ := List.mem_map.1 hm
        have := ordStep_inj hq hn (hp.subset (by simp [hy])) hxm he
        subst this
        exact hxp hy
      rw [shareTo_snoc]
      simp only [shRound, hst, i1, addM_eq, addAt_eq, if_neg hnew, List.idxOf_eq_length hnew]
      refine ⟨by simp, by simp [i2], fun y hy => ?_⟩
      by_cases e : y = x
      · subst e
        rw [List.getElem?_set_self (by rw [i2]; exact hx), idxOf_prefix hp hxp]; simp
      · rw [List.getElem?_set_ne (fun h => e h.symm)]
        refine i3 y ?_
        rcases List.mem_append.1 hy with h' | h'
        · exact h'
        · simp at h'; exact absurd h' e

/-- Of steps without a double the ordered ones are the shared ones. -/
theorem ordered_terse {q : List Stp} (hq : Okay q) (hn : q.Nodup) : orderedM q = shareM q := by
  have h := (share_terse hq hn _ (post q) rfl (List.prefix_refl _)).1
  rw [shareM, h]; rfl

theorem share_ref {ss : List Stp} (hok : Okay ss) : orderedM (mergedM ss) = shareM ss := by
  obtain ⟨h1, h2, h3⟩ := mergedM_spec hok
  rw [ordered_terse h1 h2, shareM_tree h1, shareM_tree hok, h3]

end Go.Proofs.YtcbmljfgmeeadaaDoor

namespace Go.Proofs.YtcbmljfgmeeadaaDoor
open Go.RowKit Go.Shelf Go.Sort

theorem bl_irrefl : ∀ x : List UInt8, Op.bytesLess x x = false
  | [] => rfl
  | a :: x => by simp [Op.bytesLess, bl_irrefl x]
theorem bl_trans : ∀ x y z : List UInt8, Op.bytesLess x y = true → Op.bytesLess y z = true → Op.bytesLess x z = true
  | _, _, [], _, h => by cases ‹List UInt8› <;> simp [Op.bytesLess] at h
  | x, [], _ :: _, h, _ => by cases x <;> simp [Op.bytesLess] at h
  | [], _ :: _, _ :: _, _, _ => rfl
  | a :: x, b :: y, c :: z, h1, h2 => by
    simp only [Op.bytesLess, Bool.or_eq_true, Bool.and_eq_true, decide_eq_true_eq, beq_iff_eq] at h1 h2 ⊢
    rcases h1 with h1 | ⟨rfl, h1⟩
    · rcases h2 with h2 | ⟨rfl, h2⟩
      · exact Or.inl (UInt8.lt_trans h1 h2)
      · exact Or.inl h1
    · rcases h2 with h2 | ⟨rfl, h2⟩
      · exact Or.inl h2
      · exact Or.inr ⟨rfl, bl_trans x y z h1 h2⟩
theorem bl_total : ∀ x y : List UInt8, Op.bytesLess x y = false → Op.bytesLess y x = false → x = y
  | [], [], _, _ => rfl
  | [], _ :: _, h, _ => by simp [Op.bytesLess] at h
  | _ :: _, [], _, h => by simp [Op.bytesLess] at h
  | a :: x, b :: y, h1, h2 => by
    simp only [Op.bytesLess, Bool.or_eq_false_iff, Bool.and_eq_false_iff, decide_eq_false_iff_not] at h1 h2
    have hab : a = b := by
      have h3 := h1.1
      have h4 := h2.1
      rw [UInt8.lt_iff_toNat_lt] at h3 h4
      exact UInt8.toNat_inj.1 (by omega)
    subst hab
    have h3 := h1.2
    have h4 := h2.2
    simp at h3 h4
    rw [bl_total x y h3 h4]

/-- The order of texts. -/
def sLt (a b : ByteArray) : Bool := Op.bytesLess a.toList b.toList
theorem sLt_irrefl (a : ByteArray) : sLt a a = false := bl_irrefl _
theorem sLt_trans {a b c : ByteArray} (h : sLt a b = true) (k : sLt b c = true) : sLt a c = true := bl_trans _ _ _ h k
theorem sLt_total {a b : ByteArray} (h : sLt a b = false) (k : sLt b a = false) : a = b := toList_inj.1 (bl_total _ _ h k)

/-- Two lists that ascend, of the same texts, are one. -/
theorem asc_ext : ∀ (l m : List ByteArray), l.Pairwise (fun a b => sLt a b = true) → m.Pairwise (fun a b => sLt a b = true) → (∀ x, x ∈ l ↔ x ∈ m) → l = m
  | [], m, _, _, h => by
    cases m with
    | nil => rfl
    | cons x _ => have := (h x).2 (by simp); cases this
  | x :: l, [], _, _, h => by have := (h x).1 (by simp); cases this
  | x :: l, y :: m, h1, h2, h => by
    rw [List.pairwise_cons] at h1 h2
    have hxy : x = y := by
      rcases List.mem_cons.1 ((h x).1 (by simp)) with e | e
      · exact e
      · rcases List.mem_cons.1 ((h y).2 (by simp)) with e2 | e2
        · exact e2.symm
        · have a := h2.1 x e
          have b := h1.1 y e2
          have := sLt_trans a b
          rw [sLt_irrefl] at this; cases this
    subst hxy
    rw [asc_ext l m h1.2 h2.2 fun z => ⟨fun hz => ?_, fun hz => ?_⟩]
    · rcases List.mem_cons.1 ((h z).1 (by simp [hz])) with e | e
      · subst e; have := h1.1 z hz; rw [sLt_irrefl] at this; cases this
      · exact e
    · rcases List.mem_cons.1 ((h z).2 (by simp [hz])) with e | e
      · subst e; have := h2.1 z hz; rw [sLt_irrefl] at this; cases this
      · exact e

/-- Where a text belongs. -/
def insAt (lab : ByteArray) : List ByteArray → Nat
  | [] => 0
  | x :: r => if sLt x lab = true then insAt lab r + 1 else 0
/-- A text more. -/
def insU (lab : ByteArray) (out : List ByteArray) : List ByteArray := if out[insAt lab out]? = some lab then out else out.take (insAt lab out) ++ lab :: out.drop (insAt lab out)

theorem insAt_le (lab : ByteArray) : ∀ out, insAt lab out ≤ out.length
  | [] => Nat.le_refl _
  | x :: r => by
    simp only [insAt]
    split
    · have := insAt_le lab r; simp; omega
    · simp
theorem insAt_lt (lab : ByteArray) : ∀ (out : List ByteArray) (j : Nat) (_ : j < insAt lab out) (h2 : j < out.length), sLt out[j] lab = true
  | [], j, _, h2 => by simp at h2
  | x :: r, j, h, h2 => by
    simp only [insAt] at h
    split at h
    · rename_i hx
      cases j with
      | zero => exact hx
      | succ j => exact insAt_lt lab r j (by omega) (by simpa using h2)
    · omega
theorem insAt_at (lab : ByteArray) : ∀ (out : List ByteArray) (h : insAt lab out < out.length), sLt out[insAt lab out] lab = false
  | [], h => by simp at h
  | x :: r, h => by
    by_cases hx : sLt x lab = true
    · have e : insAt lab (x :: r) = insAt lab r + 1 := by simp [insAt, hx]
      have h' : insAt lab r < r.length := by rw [e] at h; simpa using h
      have := insAt_at lab r h'
      simp only [e, List.getElem_cons_succ]; exact this
    · have e : insAt lab (x :: r) = 0 := by simp [insAt, hx]
      simp only [e, List.getElem_cons_zero]; simpa using hx
/-- The loop's way to the place. -/
theorem insAt_unique {lab : ByteArray} {out : List ByteArray} {t : Nat} (ht : t ≤ out.length) (h1 : ∀ j (h : j < out.length), j < t → sLt out[j] lab = true) (h2 : ∀ h : t < out.length, sLt out[t] lab = false) : insAt lab out = t := by
  rcases Nat.lt_trichotomy (insAt lab out) t with h | h | h
  · have hl : insAt lab out < out.length := by omega
    have a := insAt_at lab out hl
    rw [h1 _ hl h] at a; cases a
  · exact h
  · have hle := insAt_le lab out
    have hl : t < out.length := by omega
    have a := insAt_lt lab out t h hl
    rw [h2 hl] at a; cases a

theorem insU_asc {lab : ByteArray} {out : List ByteArray} (h : out.Pairwise (fun a b => sLt a b = true)) : (insU lab out).Pairwise (fun a b => sLt a b = true) ∧ ∀ x, x ∈ insU lab out ↔ x = lab ∨ x ∈ out := by
  unfold insU
  split
  · rename_i he
    refine ⟨h, fun x => ⟨Or.inr, fun hx => ?_⟩⟩
    rcases hx with rfl | hx
    · exact List.mem_of_getElem? he
    · exact hx
  · rename_i he
    have hle := insAt_le lab out
    constructor
    · rw [List.pairwise_append]
      refine ⟨h.sublist (List.take_sublist _ _), ?_, ?_⟩
      · rw [List.pairwise_cons]
        refine ⟨fun y hy => ?_, h.sublist (List.drop_sublist _ _)⟩
        have hl : insAt lab out < out.length := by
          rcases Nat.lt_or_ge (insAt lab out) out.length with h' | h'
          · exact h'
          · rw [List.drop_eq_nil_of_le h'] at hy; cases hy
        have a := insAt_at lab out hl
        have b : sLt lab out[insAt lab out] = true := by
          cases hb : sLt lab out[insAt lab out] with
          | true => rfl
          | false => exact absurd (by rw [List.getElem?_eq_getElem hl, sLt_total a hb]) he
        rw [List.drop_eq_getElem_cons hl] at hy
        rcases List.mem_cons.1 hy with rfl | hy
        · exact b
        · have hp := h.sublist (List.drop_sublist (insAt lab out) out)
          rw [List.drop_eq_getElem_cons hl, List.pairwise_cons] at hp
          exact sLt_trans b (hp.1 y hy)
      · intro x hx y hy
        obtain ⟨j, hj, rfl⟩ := List.getElem_of_mem hx
        rw [List.length_take] at hj
        have a := insAt_lt lab out j (by omega) (by omega)
        simp only [List.getElem_take]
        rcases List.mem_cons.1 hy with rfl | hy
        · exact a
        · have hl : insAt lab out < out.length := by
            rcases Nat.lt_or_ge (insAt lab out) out.length with h' | h'
            · exact h'
            · rw [List.drop_eq_nil_of_le h'] at hy; cases hy
          rw [← List.take_append_drop (insAt lab out) out, List.pairwise_append] at h
          have := h.2.2 _ hx y hy
          simpa only [List.getElem_take] using this
    · intro x
      rw [List.mem_append, List.mem_cons]
      constructor
      · rintro (hx | rfl | hx)
        · exact Or.inr (List.mem_of_mem_take hx)
        · exact Or.inl rfl
        · exact Or.inr (List.mem_of_mem_drop hx)
      · rintro (rfl | hx)
        · exact Or.inr (Or.inl rfl)
        · rw [← List.take_append_drop (insAt lab out) out] at hx
          rcases List.mem_append.1 hx with hx | hx
          · exact Or.inl hx
          · exact Or.inr (Or.inr hx)

theorem bl_eq : ∀ (x y : List UInt8), Op.bytesLess x y = decide (x < y)
  | [], [] => by simp [Op.bytesLess]
  | _ :: _, [] => by simp [Op.bytesLess]
  | [], _ :: _ => by simp [Op.bytesLess]
  | a :: x, b :: y => by
    rw [Op.bytesLess, bl_eq x y]
    simp only [List.cons_lt_cons_iff]
    by_cases h1 : a < b <;> by_cases h2 : a = b <;> by_cases h3 : x < y <;> simp [h1, h2, h3]
theorem bl_le (x y : List UInt8) : (decide (x ≤ y) = true) ↔ Op.bytesLess y x = false := by
  rw [bl_eq, decide_eq_true_eq, decide_eq_false_iff_not]
  exact Iff.rfl
theorem bl_asymm {x y : List UInt8} (h : Op.bytesLess x y = true) : Op.bytesLess y x = false := by
  cases hb : Op.bytesLess y x with
  | false => rfl
  | true => have := bl_trans _ _ _ h hb; rw [bl_irrefl] at this; cases this

theorem sortL_asc (xs : List ByteArray) : (sortL xs).Pairwise (fun x y => Op.bytesLess y x = false) := by
  have h := List.pairwise_mergeSort (le := fun x y : List UInt8 => decide (x ≤ y)) (fun a b c h1 h2 => ?_) (fun a b => ?_) (xs.map bytesOf)
  · exact h.imp fun {a b} h => (bl_le a b).1 h
  · rw [bl_le] at h1 h2 ⊢
    cases hb : Op.bytesLess c a with
    | false => rfl
    | true =>
      cases hab : Op.bytesLess a b with
      | true => have := bl_trans _ _ _ hb hab; rw [h2] at this; cases this
      | false => have e := bl_total a b hab h1; subst e; rw [h2] at hb; cases hb
  · rw [Bool.or_eq_true, bl_le, bl_le]
    cases hb : Op.bytesLess b a with
    | false => exact Or.inl rfl
    | true => exact Or.inr (bl_asymm hb)

theorem compactUpTo_asc (zs : List (List UInt8)) (h : zs.Pairwise (fun x y => Op.bytesLess y x = false)) : ∀ m, m ≤ zs.length →
    (Lib.compactUpTo zs.toArray m).Pairwise (fun x y => Op.bytesLess x y = true) ∧ ∀ x ∈ Lib.compactUpTo zs.toArray m, Op.bytesLess zs.toArray[m - 1]! x = false
  | 0, _ => by simp [Lib.compactUpTo]
  | m + 1, hm => by
    obtain ⟨i1, i2⟩ := compactUpTo_asc zs h m (by omega)
    rw [Lib.compactUpTo_succ]
    simp only [Nat.add_sub_cancel]
    have hget : zs.toArray[m]! = zs[m] := by rw [getElem!_pos _ m (by simp; omega)]; simp
    cases hk : Lib.keeps zs.toArray m with
    | true =>
      have hlt : ∀ x ∈ Lib.compactUpTo zs.toArray m, Op.bytesLess x zs.toArray[m]! = true := by
        intro x hx
        by_cases h0 : m = 0
        · subst h0; simp [Lib.compactUpTo] at hx
        · have hne : zs.toArray[m]! ≠ zs.toArray[m - 1]! := by
            simp only [Lib.keeps, decide_eq_true_eq] at hk
            exact hk.resolve_left h0
          have hle : Op.bytesLess zs.toArray[m]! zs.toArray[m - 1]! = false := by
            have hget2 : zs.toArray[m - 1]! = zs[m - 1] := by rw [getElem!_pos _ (m - 1) (by simp; omega)]; simp
            rw [hget, hget2]
            exact List.pairwise_iff_getElem.1 h (m - 1) m (by omega) (by omega) (by omega)
          have h1 : Op.bytesLess zs.toArray[m - 1]! zs.toArray[m]! = true := by
            cases hb : Op.bytesLess zs.toArray[m - 1]! zs.toArray[m]! with
            | true => rfl
            | false => exact absurd (bl_total _ _ hle hb) hne
          have h2 := i2 x hx
          cases hb : Op.bytesLess x zs.toArray[m - 1]! with
          | true => exact bl_trans _ _ _ hb h1
          | false => rw [bl_total _ _ hb h2]; exact h1
      rw [if_pos rfl]
      refine ⟨List.pairwise_append.2 ⟨i1, by simp, fun x hx y hy => by rw [List.mem_singleton.1 hy]; exact hlt x hx⟩, fun x hx => ?_⟩
      rcases List.mem_append.1 hx with hx | hx
      · exact bl_asymm (hlt x hx)
      · rw [List.mem_singleton.1 hx]; exact bl_irrefl _
    | false =>
      have he : m ≠ 0 ∧ zs.toArray[m]! = zs.toArray[m - 1]! := by
        simp only [Lib.keeps, decide_eq_false_iff_not, not_or, ne_eq, Decidable.not_not] at hk
        exact hk
      rw [if_neg (by simp), List.append_nil, he.2]
      exact ⟨i1, i2⟩

theorem toList_mk (l : List UInt8) : (⟨l.toArray⟩ : ByteArray).toList = l := by
  have h : ∀ a : ByteArray, a.toList = a.data.toList := fun a => ByteArray.toList_eq a
  rw [h]

theorem setL_asc (xs : List ByteArray) : (setL xs).Pairwise (fun a b => sLt a b = true) := by
  unfold setL
  rw [List.pairwise_map]
  refine (compactUpTo_asc (sortL xs) (sortL_asc xs) _ (Nat.le_refl _)).1.imp fun {a b} h => ?_
  simp only [sLt, toList_mk]; exact h

/-- What the reference's Names returns. -/
def namesTo (ss : List Stp) (k : Nat) : List ByteArray := ((List.range k).filter fun j => decide (j ∈ post ss)).foldl (fun out j => insU (labOf ss j) out) []
theorem namesTo_succ (ss : List Stp) (k : Nat) : namesTo ss (k + 1) = if k ∈ post ss then insU (labOf ss k) (namesTo ss k) else namesTo ss k := by
  unfold namesTo
  rw [List.range_succ, List.filter_append, List.foldl_append]
  by_cases h : k ∈ post ss <;> simp [h]
theorem namesTo_asc (ss : List Stp) : ∀ k, (namesTo ss k).Pairwise (fun a b => sLt a b = true) ∧ (∀ x, x ∈ namesTo ss k ↔ ∃ j, j < k ∧ j ∈ post ss ∧ labOf ss j = x) ∧ (namesTo ss k).length ≤ k
  | 0 => by simp [namesTo]
  | k + 1 => by
    obtain ⟨h1, h2, h3⟩ := namesTo_asc ss k
    rw [namesTo_succ]
    split
    · rename_i hk
      obtain ⟨a, b⟩ := insU_asc (lab := labOf ss k) h1
      refine ⟨a, fun x => ?_, ?_⟩
      · rw [b, h2]
        constructor
        · rintro (rfl | ⟨j, hj, hp, rfl⟩)
          · exact ⟨k, by omega, hk, rfl⟩
          · exact ⟨j, by omega, hp, rfl⟩
        · rintro ⟨j, hj, hp, rfl⟩
          by_cases e : j = k
          · subst e; exact Or.inl rfl
          · exact Or.inr ⟨j, by omega, hp, rfl⟩
      · have hle := insAt_le (labOf ss k) (namesTo ss k)
        unfold insU
        split
        · omega
        · simp; omega
    · rename_i hk
      refine ⟨h1, fun x => ?_, by omega⟩
      rw [h2]
      exact ⟨fun ⟨j, a, b⟩ => ⟨j, by omega, b⟩, fun ⟨j, a, b, c⟩ => ⟨j, by
        have : j ≠ k := fun e => hk (e ▸ b)
        omega, b, c⟩⟩

theorem names_ref {ss : List Stp} (hok : Okay ss) : namesTo ss ss.length = namesM ss := by
  obtain ⟨h1, h2, _⟩ := namesTo_asc ss ss.length
  refine asc_ext _ _ h1 (setL_asc _) fun x => ?_
  rw [h2, namesM, mem_setL, List.mem_map]
  exact ⟨fun ⟨j, _, hp, e⟩ => ⟨j, hp, e⟩, fun ⟨j, hp, e⟩ => ⟨j, hok.post_lt hp, hp, e⟩⟩

end Go.Proofs.YtcbmljfgmeeadaaDoor

namespace Go.Proofs.YtcbmljfgmeeadaaDoor

/-- Step i. -/
def stpAt (ss : List Stp) (i : Nat) : Stp := (ss[i]?).getD ⟨ByteArray.empty, []⟩
theorem stpAt_lt {ss : List Stp} {i : Nat} (h : i < ss.length) : stpAt ss i = ss[i] := by simp [stpAt, h]

/-- The steps and the numbers, when i steps have been looked at. -/
def glTo (ss ts : List Stp) (k : Nat) : Nat → List Stp × List Int
  | 0 => (ts, [])
  | i + 1 => if i = k then ((glTo ss ts k i).1, (glTo ss ts k i).2 ++ [(ts.length : Int) - 1])
    else ((glTo ss ts k i).1 ++ [renumM (glTo ss ts k i).2 (stpAt ss i)], (glTo ss ts k i).2 ++ [((glTo ss ts k i).1.length : Int)])

structure GlSt (ss ts : List Stp) (k i : Nat) (l : List Stp) (now : List Int) : Prop where
  back : Back l
  pre : ts <+: l
  len : now.length = i
  llen : l.length ≤ ts.length + i
  slim : ∀ s ∈ l, s.args.length ≤ 40
  at_ : ∀ x, x < i → ∃ m : Nat, now[x]? = some (m : Int) ∧ m < l.length ∧ treeAt l m = treeAt (graftW ss k ts) (graftAt ts.length k x)

theorem glTo_st {ss ts : List Stp} (hp : Okay ss) (hq : Okay ts) (k : Nat) (hlen : ss.length + ts.length ≤ 2000) : ∀ i, i ≤ ss.length → GlSt ss ts k i (glTo ss ts k i).1 (glTo ss ts k i).2
  | 0, _ => ⟨hq.back, List.prefix_refl _, rfl, Nat.le_refl _, (fun s hs => by
      obtain ⟨j, hj, rfl⟩ := List.getElem_of_mem hs
      exact (hq.2.2 j hj).1), (fun x h => by omega)⟩
  | i + 1, hi => by
    have ih := glTo_st hp hq k hlen i (by omega)
    have hg := graftW_okay hp hq k hlen
    have hq1 := hq.1
    generalize hl : (glTo ss ts k i).1 = l at ih
    generalize hn : (glTo ss ts k i).2 = now at ih
    simp only [glTo, hl, hn]
    by_cases e : i = k
    · rw [if_pos e]
      subst e
      refine ⟨ih.back, ih.pre, by simp [ih.len], by have := ih.llen; simp only; omega, ih.slim, fun x hx => ?_⟩
      by_cases ex : x = i
      · subst ex
        refine ⟨ts.length - 1, ?_, ?_, ?_⟩
        · simp only
          rw [List.getElem?_append_right (by rw [ih.len]; exact Nat.le_refl _), ih.len, Nat.sub_self]
          simp; omega
        · have := ih.pre.length_le; simp only; omega
        · simp only [graftAt, if_true]
          rw [graftW_treeq hp hq x hlen (by omega)]
          exact hq.back.ahead ih.back ih.pre _ (by omega)
      · obtain ⟨m, h1, h2, h3⟩ := ih.at_ x (by omega)
        exact ⟨m, by simp only; rw [List.getElem?_append_left (by rw [ih.len]; omega)]; exact h1, h2, h3⟩
    · rw [if_neg e]
      have hlt : i < ss.length := hi
      rw [stpAt_lt hlt]
      have hr := hp.2.2 i hlt
      have hargs : ∀ a ∈ ss[i].args, ∃ m : Nat, numAt now a = (m : Int) ∧ m < l.length ∧ treeAt l m = treeAt (graftW ss k ts) (graftAt ts.length k a.toNat) := by
        intro a ha
        have := hr.2 a ha
        obtain ⟨m, h1, h2, h3⟩ := ih.at_ a.toNat (by omega)
        exact ⟨m, by rw [numAt, List.getD_eq_getElem?_getD, h1]; rfl, h2, h3⟩
      have hb : ∀ a ∈ (renumM now ss[i]).args, 0 ≤ a ∧ a < (l.length : Int) := by
        intro a ha
        obtain ⟨b, hb, rfl⟩ := List.mem_map.1 ha
        obtain ⟨m, h1, h2, _⟩ := hargs b hb
        rw [h1]; omega
      have hback := ih.back.snoc hb
      have hpre : l <+: l ++ [renumM now ss[i]] := List.prefix_append _ _
      refine ⟨hback, ih.pre.trans hpre, by simp [ih.len], by have := ih.llen; simp; omega, ?_, ?_⟩
      · intro s hs
        rcases List.mem_append.1 hs with h | h
        · exact ih.slim s h
        · simp at h; subst h; simpa [renumM] using hr.1
      · intro x hx
        by_cases ex : x = i
        · subst ex
          refine ⟨l.length, ?_, by simp, ?_⟩
          · simp only
            rw [List.getElem?_append_right (by rw [ih.len]; exact Nat.le_refl _), ih.len, Nat.sub_self]; rfl
          · have hl' : l.length < (l ++ [renumM now ss[x]]).length := by simp
            rw [hback.tree hl']
            simp only [List.getElem_append_right (Nat.le_refl _), Nat.sub_self, List.getElem_cons_zero]
            unfold graftAt
            rw [if_neg e, treeAt_eq hg.kids, graftW_kids hp hq k hlt, List.map_map]
            have hlab := labOf_graft (p := ss) (q := ts) k hlt
            unfold labOf at hlab
            rw [hlab]
            have hlx : (ss[x]?.map Stp.label).getD ByteArray.empty = ss[x].label := by simp [hlt]
            rw [hlx, kidsOf_lt hlt, List.map_map]
            simp only [renumM, Tree.node.injEq, true_and, List.map_map]
            refine List.map_congr_left fun a ha => ?_
            obtain ⟨m, h1, h2, h3⟩ := hargs a ha
            simp only [Function.comp_apply, h1, Int.toNat_natCast]
            rw [← h3]
            exact ih.back.ahead hback hpre m h2
        · obtain ⟨m, h1, h2, h3⟩ := ih.at_ x (by omega)
          refine ⟨m, by simp only; rw [List.getElem?_append_left (by rw [ih.len]; omega)]; exact h1, by simp; omega, ?_⟩
          rw [← h3]
          exact ih.back.ahead hback hpre m h2

def glLast (ss ts : List Stp) (k : Nat) : Nat := ((glTo ss ts k ss.length).2.getD (ss.length - 1) 0).toNat
/-- The proof with the other one in it, not shared. -/
def wholeM (ss ts : List Stp) (k : Nat) : List Stp := (glTo ss ts k ss.length).1.take (glLast ss ts k + 1)

theorem glLast_spec {ss ts : List Stp} (hp : Okay ss) (hq : Okay ts) (k : Nat) (hlen : ss.length + ts.length ≤ 2000) :
    (glTo ss ts k ss.length).2[ss.length - 1]? = some ((glLast ss ts k : Nat) : Int) ∧ glLast ss ts k < (glTo ss ts k ss.length).1.length ∧ treeAt (glTo ss ts k ss.length).1 (glLast ss ts k) = treeAt (graftW ss k ts) (graftAt ts.length k (ss.length - 1)) := by
  have h1 := hp.1
  have h := glTo_st hp hq k hlen ss.length (Nat.le_refl _)
  obtain ⟨n, h2, h3, h4⟩ := h.at_ (ss.length - 1) (by omega)
  have hn : glLast ss ts k = n := by rw [glLast, List.getD_eq_getElem?_getD, h2]; simp
  rw [hn]
  exact ⟨h2, h3, h4⟩

theorem wholeM_spec {ss ts : List Stp} (hp : Okay ss) (hq : Okay ts) (k : Nat) (hlen : ss.length + ts.length ≤ 2000) : Okay (wholeM ss ts k) ∧ treeM (wholeM ss ts k) = treeM (graftM ss k ts) := by
  have h1 := hp.1
  have h2 := hq.1
  have h := glTo_st hp hq k hlen ss.length (Nat.le_refl _)
  obtain ⟨_, m1, m2⟩ := glLast_spec hp hq k hlen
  have hlw : (wholeM ss ts k).length = glLast ss ts k + 1 := by rw [wholeM, List.length_take]; omega
  have hb : Back (wholeM ss ts k) := h.back.take _
  have ho : Okay (wholeM ss ts k) := by
    refine ⟨by omega, by have := h.llen; omega, fun i hi => ⟨?_, hb i hi⟩⟩
    exact h.slim _ (List.mem_of_mem_take (List.getElem_mem hi))
  refine ⟨ho, ?_⟩
  have hw : treeM (wholeM ss ts k) = treeAt (graftW ss k ts) (graftAt ts.length k (ss.length - 1)) := by
    rw [← m2]
    unfold treeM
    rw [hlw]
    exact (hb.ahead h.back (List.take_prefix _ _) (glLast ss ts k) (by omega)).symm
  rw [hw]
  unfold graftM graftAt
  by_cases e : k + 1 = ss.length
  · rw [if_pos e, if_pos (by omega), graftW_treeq hp hq k hlen (by omega)]; rfl
  · rw [if_neg e, if_neg (by omega)]
    unfold treeM
    congr 1
    simp [graftW]; omega

end Go.Proofs.YtcbmljfgmeeadaaDoor
