/-
  PLAIN LAW: Expand and Ordered keep the tree; Ordered done twice is Ordered.
-/
import Derived.Test.YtcbmljfgmeeadaaDoorLawS
namespace Go.Proofs.YtcbmljfgmeeadaaDoor

theorem Back.append {ss ts : List Stp} (h : Back ss) (hts : ∀ i (h : i < ts.length), ∀ a ∈ ts[i].args, 0 ≤ a ∧ a < ((ss.length + i : Nat) : Int)) : Back (ss ++ ts) := by
  intro i hi a ha
  by_cases hl : i < ss.length
  · simp only [List.getElem_append_left hl] at ha
    exact h i hl a ha
  · have hi2 : i - ss.length < ts.length := by simp at hi; omega
    simp only [List.getElem_append_right (Nat.le_of_not_lt hl)] at ha
    have := hts _ hi2 a ha
    omega

mutual
/-- The flat form behind what there is: Args lead back, and the root is the tree. -/
theorem flat_tree : ∀ (t : Tree) (pre : List Stp), Back pre → Back (pre ++ flat t pre.length) ∧ treeAt (pre ++ flat t pre.length) (pre.length + tsize t - 1) = t
  | .node l ks, pre, h => by
    obtain ⟨h1, h2, h3⟩ := flats_tree ks pre h
    have hlen : (pre ++ (flats ks pre.length).1).length = pre.length + tsizes ks := by rw [List.length_append, flats_length]
    have hb : Back (pre ++ flat (.node l ks) pre.length) := by
      simp only [flat, ← List.append_assoc]
      exact h1.snoc fun a ha => by rw [hlen]; exact h2 a ha
    refine ⟨hb, ?_⟩
    simp only [flat, tsize, ← List.append_assoc] at hb ⊢
    have hi : pre.length + (tsizes ks + 1) - 1 < (pre ++ (flats ks pre.length).1 ++ [(⟨l, (flats ks pre.length).2⟩ : Stp)]).length := by simp [flats_length]
    rw [hb.tree hi]
    have hget : (pre ++ (flats ks pre.length).1 ++ [(⟨l, (flats ks pre.length).2⟩ : Stp)])[pre.length + (tsizes ks + 1) - 1] = ⟨l, (flats ks pre.length).2⟩ := by
      rw [List.getElem_append_right (by rw [hlen]; omega)]
      simp
    rw [hget]
    simp only [Tree.node.injEq, true_and]
    refine (List.map_congr_left fun a ha => ?_).trans h3
    have := h2 a ha
    exact h1.ahead hb (List.prefix_append _ _) a.toNat (by rw [hlen]; omega)
theorem flats_tree : ∀ (ks : List Tree) (pre : List Stp), Back pre → Back (pre ++ (flats ks pre.length).1) ∧ (∀ a ∈ (flats ks pre.length).2, 0 ≤ a ∧ a < ((pre.length + tsizes ks : Nat) : Int)) ∧
    ((flats ks pre.length).2.map fun a => treeAt (pre ++ (flats ks pre.length).1) a.toNat) = ks
  | [], pre, h => by simp [flats, h]
  | k :: ks, pre, h => by
    obtain ⟨h1, h2⟩ := flat_tree k pre h
    have hlen : (pre ++ flat k pre.length).length = pre.length + (flat k pre.length).length := List.length_append
    obtain ⟨h3, h4, h5⟩ := flats_tree ks (pre ++ flat k pre.length) h1
    have hb := flats_bound (k :: ks) pre.length
    rw [hlen] at h3 h4 h5
    simp only [flats, List.append_assoc] at h3 h5 hb ⊢
    refine ⟨h3, hb, ?_⟩
    simp only [List.map_cons, List.cons.injEq]
    refine ⟨?_, h5⟩
    have hp := tsize_pos k
    rw [flat_length] at hlen ⊢
    rw [show (((pre.length + tsize k : Nat) : Int) - 1).toNat = pre.length + tsize k - 1 by omega]
    rw [show pre ++ (flat k pre.length ++ (flats ks (pre.length + tsize k)).1) = (pre ++ flat k pre.length) ++ (flats ks (pre.length + tsize k)).1 by rw [List.append_assoc]]
    rw [flat_length, ← List.append_assoc] at h3
    refine (h1.ahead h3 (List.prefix_append _ _) _ (by rw [hlen]; omega)).trans h2
end

mutual
/-- No node has more than 40 kids. -/
def slim : Tree → Prop
  | .node _ ks => ks.length ≤ 40 ∧ slims ks
def slims : List Tree → Prop
  | [] => True
  | k :: ks => slim k ∧ slims ks
end
theorem slims_mem : ∀ (ks : List Tree), (∀ k ∈ ks, slim k) → slims ks
  | [], _ => trivial
  | k :: ks, h => ⟨h k (by simp), slims_mem ks fun x hx => h x (by simp [hx])⟩

theorem slim_tree {ss : List Stp} (hok : Okay ss) (i : Nat) : i < ss.length → slim (treeAt ss i) := by
  induction i using Nat.strongRecOn with
  | _ i ih =>
    intro hi
    rw [hok.back.tree hi]
    refine ⟨by rw [List.length_map]; exact (hok.2.2 i hi).1, slims_mem _ fun k hk => ?_⟩
    obtain ⟨a, ha, rfl⟩ := List.mem_map.1 hk
    have := (hok.2.2 i hi).2 a ha
    exact ih a.toNat (by omega) (by omega)

mutual
theorem flat_slim : ∀ (t : Tree) (n : Nat), slim t → ∀ s ∈ flat t n, s.args.length ≤ 40
  | .node l ks, n, h, s, hs => by
    simp only [flat, List.mem_append, List.mem_singleton] at hs
    rcases hs with hs | hs
    · exact flats_slim ks n h.2 s hs
    · rw [hs]
      show (flats ks n).2.length ≤ 40
      rw [flats_count]; exact h.1
theorem flats_slim : ∀ (ks : List Tree) (n : Nat), slims ks → ∀ s ∈ (flats ks n).1, s.args.length ≤ 40
  | [], n, h, s, hs => by simp [flats] at hs
  | k :: ks, n, h, s, hs => by
    simp only [flats, List.mem_append] at hs
    rcases hs with hs | hs
    · exact flat_slim k n h.1 s hs
    · exact flats_slim ks _ h.2 s hs
end

theorem expandM_length (ss : List Stp) : (expandM ss).length = tsize (treeM ss) := flat_length _ _
theorem expandM_ok {ss : List Stp} (hok : Okay ss) (hb : tsize (treeM ss) ≤ 2000) : Okay (expandM ss) ∧ treeM (expandM ss) = treeM ss := by
  have h0 := hok.1
  obtain ⟨h1, h2⟩ := flat_tree (treeM ss) [] Terse.nil.back
  have hl := expandM_length ss
  have hp := tsize_pos (treeM ss)
  simp only [List.nil_append, List.length_nil, Nat.zero_add] at h1 h2
  refine ⟨⟨by omega, by omega, fun i hi => ⟨flat_slim _ _ (slim_tree hok _ (by omega)) _ (List.getElem_mem hi), h1 i hi⟩⟩, ?_⟩
  show treeAt (expandM ss) ((expandM ss).length - 1) = _
  rw [hl]
  exact h2

/-! Ordered -/

theorem trav_any {kids : Nat → List Nat} (hk : ∀ x, ∀ a ∈ kids x, a < x) : ∀ (f g x : Nat) (o : List Nat), x < f → x < g → trav kids f x o = trav kids g x o
  | 0, _, _, _, h, _ => by omega
  | _, 0, _, _, _, h => by omega
  | f + 1, g + 1, x, o, h1, h2 => by
    simp only [trav]
    have key : ∀ (l : List Nat) (o : List Nat), (∀ a ∈ l, a < x) → l.foldl (fun o a => trav kids f a o) o = l.foldl (fun o a => trav kids g a o) o := by
      intro l
      induction l with
      | nil => intro _ _; rfl
      | cons a l ih =>
        intro o hl
        have ha := hl a (by simp)
        rw [List.foldl_cons, List.foldl_cons, trav_any hk f g a o (by omega) (by omega), ih _ fun b hb => hl b (by simp [hb])]
    rw [key _ _ (hk x)]

theorem post_last {ss : List Stp} (hok : Okay ss) : ∃ p, post ss = p ++ [ss.length - 1] := by
  have h0 := hok.1
  unfold post
  obtain ⟨f, hf⟩ : ∃ f, ss.length = f + 1 := ⟨ss.length - 1, by omega⟩
  rw [hf]
  exact ⟨(kidsOf ss f).foldl (fun o a => trav (kidsOf ss) f a o) [], by simp [trav]⟩

theorem orderedM_length (ss : List Stp) : (orderedM ss).length = (post ss).length := by simp [orderedM]

theorem closed_idx {ss : List Stp} (hok : Okay ss) {k : Nat} (hk : k < (post ss).length) : ∀ a ∈ kidsOf ss (post ss)[k], (post ss).idxOf a < k := by
  intro a ha
  have h := hok.shut ((post ss).take k) (post ss)[k] (by rw [← List.take_succ_eq_append_getElem hk]; exact List.take_prefix _ _)
  have hm := h.2 a ha
  rw [show (post ss).idxOf a = ((post ss).take k ++ (post ss).drop k).idxOf a by rw [List.take_append_drop], List.idxOf_append, if_pos hm]
  have := List.idxOf_lt_length_iff.2 hm
  rw [List.length_take] at this
  omega

theorem orderedM_get {ss : List Stp} (hok : Okay ss) {k : Nat} (hk : k < (orderedM ss).length) :
    (orderedM ss)[k] = ⟨(ss[(post ss)[k]'(by rw [← orderedM_length]; exact hk)]'(hok.post_lt (List.getElem_mem _))).label, (kidsOf ss ((post ss)[k]'(by rw [← orderedM_length]; exact hk))).map fun a => ((post ss).idxOf a : Int)⟩ := by
  have hk2 : k < (post ss).length := by rw [← orderedM_length]; exact hk
  have hx := hok.post_lt (List.getElem_mem hk2)
  simp only [orderedM, List.getElem_map]
  rw [ordStep_lt hx, kidsOf_lt hx, List.map_map]
  rfl

theorem orderedM_back {ss : List Stp} (hok : Okay ss) : Back (orderedM ss) := by
  intro k hk a ha
  rw [orderedM_get hok hk] at ha
  obtain ⟨b, hb, rfl⟩ := List.mem_map.1 ha
  have := closed_idx hok (by rw [← orderedM_length]; exact hk) b hb
  omega

theorem orderedM_ok {ss : List Stp} (hok : Okay ss) : Okay (orderedM ss) := by
  obtain ⟨p, hp⟩ := post_last hok
  have h1 := post_length_le hok
  have h2 := hok.2.1
  have h3 : (post ss).length = p.length + 1 := by rw [hp]; simp
  refine ⟨by rw [orderedM_length]; omega, by rw [orderedM_length]; omega, fun k hk => ⟨?_, orderedM_back hok k hk⟩⟩
  rw [orderedM_get hok hk]
  have hx := hok.post_lt (List.getElem_mem (l := post ss) (by rw [← orderedM_length]; exact hk))
  rw [kidsOf_lt hx]
  simp only [List.length_map]
  exact (hok.2.2 _ hx).1

theorem post_closed {ss : List Stp} (hok : Okay ss) {x : Nat} (hx : x ∈ post ss) : ∀ a ∈ kidsOf ss x, a ∈ post ss := by
  intro a ha
  obtain ⟨k, hk, rfl⟩ := List.getElem_of_mem hx
  have := closed_idx hok hk a ha
  exact List.idxOf_lt_length_iff.1 (by omega)

theorem orderedM_treeAt {ss : List Stp} (hok : Okay ss) (k : Nat) : ∀ (hk : k < (post ss).length), treeAt (orderedM ss) k = treeAt ss (post ss)[k] := by
  induction k using Nat.strongRecOn with
  | _ k ih =>
    intro hk
    have hk2 : k < (orderedM ss).length := by rw [orderedM_length]; exact hk
    have hx := hok.post_lt (List.getElem_mem hk)
    rw [(orderedM_back hok).tree hk2, orderedM_get hok hk2, treeAt_eq hok.kids]
    simp only [List.getElem?_eq_getElem hx, Option.map_some, Option.getD_some, Tree.node.injEq, true_and, List.map_map]
    refine List.map_congr_left fun a ha => ?_
    have h1 := closed_idx hok hk a ha
    simp only [Function.comp_apply, Int.toNat_natCast]
    rw [ih _ h1 (by omega), List.getElem_idxOf]

theorem orderedM_tree {ss : List Stp} (hok : Okay ss) : treeM (orderedM ss) = treeM ss := by
  obtain ⟨p, hp⟩ := post_last hok
  have h3 : (post ss).length = p.length + 1 := by rw [hp]; simp
  unfold treeM
  rw [orderedM_length, orderedM_treeAt hok _ (by omega)]
  congr 1
  have : (post ss)[(post ss).length - 1]? = some (ss.length - 1) := by rw [h3, hp]; simp
  rw [List.getElem?_eq_getElem (by omega)] at this
  exact Option.some.inj this

theorem kids_ordered {ss : List Stp} (hok : Okay ss) {x : Nat} (hx : x ∈ post ss) : kidsOf (orderedM ss) ((post ss).idxOf x) = (kidsOf ss x).map ((post ss).idxOf ·) := by
  have hk : (post ss).idxOf x < (post ss).length := List.idxOf_lt_length_iff.2 hx
  have hk2 : (post ss).idxOf x < (orderedM ss).length := by rw [orderedM_length]; exact hk
  rw [kidsOf_lt hk2]
  simp only [orderedM_get hok hk2, List.getElem_idxOf, List.map_map]
  refine List.map_congr_left fun a _ => ?_
  simp

theorem idx_inj {o : List Nat} {x y : Nat} (hx : x ∈ o) (h : o.idxOf x = o.idxOf y) : x = y := by
  have h1 := List.idxOf_lt_length_iff.2 hx
  have h2 : o.idxOf y < o.length := by omega
  have e1 := List.getElem_idxOf h1
  have e2 := List.getElem_idxOf h2
  rw [← e1, ← e2]
  simp only [h]

/-- The order of the ordered proof is the order. -/
theorem trav_ordered {ss : List Stp} (hok : Okay ss) : ∀ (f x : Nat) (o : List Nat), x ∈ post ss → (∀ y ∈ o, y ∈ post ss) →
    trav (kidsOf (orderedM ss)) f ((post ss).idxOf x) (o.map ((post ss).idxOf ·)) = (trav (kidsOf ss) f x o).map ((post ss).idxOf ·) ∧ (∀ y ∈ trav (kidsOf ss) f x o, y ∈ post ss)
  | 0, _, _, _, h => ⟨rfl, h⟩
  | f + 1, x, o, hx, ho => by
    have hmem : (post ss).idxOf x ∈ o.map ((post ss).idxOf ·) ↔ x ∈ o := by
      constructor
      · intro h
        obtain ⟨y, hy, he⟩ := List.mem_map.1 h
        have := idx_inj hx he.symm
        rw [this]; exact hy
      · intro h; exact List.mem_map.2 ⟨x, h, rfl⟩
    by_cases hm : x ∈ o
    · have h1 := hmem.2 hm
      simp only [trav, if_pos hm, if_pos h1]
      exact ⟨trivial, ho⟩
    · have h1 := fun h => hm (hmem.1 h)
      simp only [trav, if_neg hm, if_neg h1]
      have key : ∀ (l : List Nat) (o : List Nat), (∀ a ∈ l, a ∈ post ss) → (∀ y ∈ o, y ∈ post ss) →
          (l.map ((post ss).idxOf ·)).foldl (fun o a => trav (kidsOf (orderedM ss)) f a o) (o.map ((post ss).idxOf ·)) = (l.foldl (fun o a => trav (kidsOf ss) f a o) o).map ((post ss).idxOf ·) ∧ ∀ y ∈ l.foldl (fun o a => trav (kidsOf ss) f a o) o, y ∈ post ss := by
        intro l
        induction l with
        | nil => intro o _ h; exact ⟨rfl, h⟩
        | cons a l ih =>
          intro o hl h
          obtain ⟨i1, i2⟩ := trav_ordered hok f a o (hl a (by simp)) h
          obtain ⟨j1, j2⟩ := ih _ (fun b hb => hl b (by simp [hb])) i2
          simp only [List.map_cons, List.foldl_cons, i1]
          exact ⟨j1, j2⟩
      obtain ⟨k1, k2⟩ := key (kidsOf ss x) o (post_closed hok hx) ho
      rw [kids_ordered hok hx, k1]
      refine ⟨by simp, fun y hy => ?_⟩
      rcases List.mem_append.1 hy with h | h
      · exact k2 y h
      · simp only [List.mem_singleton] at h
        rw [h]; exact hx

theorem post_ordered {ss : List Stp} (hok : Okay ss) : post (orderedM ss) = List.range (post ss).length := by
  obtain ⟨p, hp⟩ := post_last hok
  have h0 := hok.1
  have h3 : (post ss).length = p.length + 1 := by rw [hp]; simp
  have hn := shut_nodup hok.shut
  have hle := post_length_le hok
  have hlast : (post ss).idxOf (ss.length - 1) = (post ss).length - 1 := by
    have h := List.Nodup.idxOf_getElem hn ((post ss).length - 1) (by omega)
    have hg : (post ss)[(post ss).length - 1]? = some (ss.length - 1) := by rw [h3, hp]; simp
    rw [List.getElem?_eq_getElem (by omega)] at hg
    rw [Option.some.inj hg] at h
    exact h
  have hmem : ss.length - 1 ∈ post ss := by rw [hp]; simp
  obtain ⟨h1, _⟩ := trav_ordered hok ss.length (ss.length - 1) [] hmem (fun y h => by cases h)
  have h2 : post (orderedM ss) = trav (kidsOf (orderedM ss)) ss.length ((post ss).idxOf (ss.length - 1)) [] := by
    unfold post
    rw [← show post ss = trav (kidsOf ss) ss.length (ss.length - 1) [] from rfl, hlast, orderedM_length]
    exact trav_any (orderedM_ok hok).kids _ _ _ _ (by omega) (by omega)
  rw [h2]
  simp only [List.map_nil] at h1
  rw [h1]
  show (post ss).map ((post ss).idxOf ·) = _
  refine List.ext_getElem (by simp) fun k hk1 hk2 => ?_
  simp only [List.getElem_map, List.getElem_range]
  exact List.Nodup.idxOf_getElem hn k (by simpa using hk1)

theorem idxOf_range {n a : Nat} (h : a < n) : (List.range n).idxOf a = a := by
  have := List.Nodup.idxOf_getElem (List.nodup_range (n := n)) a (by simpa using h)
  simpa using this

theorem orderedM_twice {ss : List Stp} (hok : Okay ss) : orderedM (orderedM ss) = orderedM ss := by
  have hpo := post_ordered hok
  rw [orderedM, hpo]
  refine List.ext_getElem (by simp [orderedM_length]) fun k hk1 hk2 => ?_
  simp only [List.getElem_map, List.getElem_range]
  rw [ordStep_lt hk2]
  refine Stp.ext' rfl ?_
  show (orderedM ss)[k].args.map _ = _
  conv => rhs; rw [← List.map_id (orderedM ss)[k].args]
  refine List.map_congr_left fun a ha => ?_
  have := orderedM_back hok k hk2 a ha
  rw [idxOf_range (by rw [← orderedM_length]; omega)]
  simp only [id]
  omega

end Go.Proofs.YtcbmljfgmeeadaaDoor
