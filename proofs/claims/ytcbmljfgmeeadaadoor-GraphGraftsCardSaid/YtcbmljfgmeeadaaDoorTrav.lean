/-
  THE WALK OF A GRAPH IN POSTORDER, in plain Lean.
-/
import Derived.Test.YtcbmljfgmeeadaaDoorMath
namespace Go.Proofs.YtcbmljfgmeeadaaDoor

/-- The kids of x, then x, unless x is there already. -/
def trav {α : Type} [DecidableEq α] (kids : α → List α) : Nat → α → List α → List α
  | 0, _, o => o
  | f + 1, x, o => if x ∈ o then o else (kids x).foldl (fun o a => trav kids f a o) o ++ [x]

section
variable {α : Type} [DecidableEq α] (kids : α → List α)

theorem trav_prefix : ∀ (f : Nat) (x : α) (o : List α), o <+: trav kids f x o
  | 0, _, o => List.prefix_refl o
  | f + 1, x, o => by
    simp only [trav]
    split
    · exact List.prefix_refl o
    · rename_i hx
      clear hx
      refine List.IsPrefix.trans ?_ (List.prefix_append _ _)
      generalize kids x = l
      induction l generalizing o with
      | nil => exact List.prefix_refl o
      | cons a l ih =>
        simp only [List.foldl_cons]
        exact (trav_prefix f a o).trans (ih _)

theorem fold_prefix (f : Nat) (l : List α) (o : List α) : o <+: l.foldl (fun o a => trav kids f a o) o := by
  induction l generalizing o with
  | nil => exact List.prefix_refl o
  | cons a l ih => exact (trav_prefix kids f a o).trans (ih _)

theorem fold_take_prefix (f : Nat) (l : List α) (k : Nat) (o : List α) : (l.take k).foldl (fun o a => trav kids f a o) o <+: l.foldl (fun o a => trav kids f a o) o := by
  conv => rhs; rw [← List.take_append_drop k l]
  rw [List.foldl_append]
  exact fold_prefix kids f _ _

theorem fold_take_succ (f : Nat) (l : List α) (k : Nat) (h : k < l.length) (o : List α) :
    (l.take (k + 1)).foldl (fun o a => trav kids f a o) o = trav kids f l[k] ((l.take k).foldl (fun o a => trav kids f a o) o) := by
  rw [List.take_succ_eq_append_getElem h, List.foldl_append]
  rfl

theorem trav_mem (f : Nat) (x : α) (o : List α) : x ∈ trav kids (f + 1) x o := by
  simp only [trav]
  split
  · assumption
  · simp

variable (r : α → Nat) (hr : ∀ x, ∀ a ∈ kids x, r a < r x)
include hr

/-- Everything that comes new is of no greater rank than x. -/
theorem trav_rank : ∀ (f : Nat) (x : α) (o : List α) (y : α), y ∈ trav kids f x o → y ∈ o ∨ r y ≤ r x
  | 0, _, _, _, h => Or.inl h
  | f + 1, x, o, y, h => by
    simp only [trav] at h
    split at h
    · exact Or.inl h
    · have key : ∀ (l : List α) (o : List α), (∀ a ∈ l, r a < r x) → y ∈ l.foldl (fun o a => trav kids f a o) o → y ∈ o ∨ r y ≤ r x := by
        intro l
        induction l with
        | nil => intro o _ h; exact Or.inl h
        | cons a l ih =>
          intro o hl h
          rcases ih _ (fun b hb => hl b (List.mem_cons_of_mem _ hb)) h with h | h
          · rcases trav_rank f a o y h with h | h
            · exact Or.inl h
            · exact Or.inr (by have := hl a (List.mem_cons_self ..); omega)
          · exact Or.inr h
      rcases List.mem_append.1 h with h | h
      · exact key _ _ (fun a ha => hr x a ha) h
      · exact Or.inr (by simp at h; subst h; omega)

end

/-- Each element comes once, behind its kids. -/
def Shut {α : Type} (kids : α → List α) (o : List α) : Prop := ∀ p x, (p ++ [x]) <+: o → x ∉ p ∧ ∀ a ∈ kids x, a ∈ p

theorem Shut.snoc {α : Type} {kids : α → List α} {o : List α} {x : α} (h : Shut kids o) (hx : x ∉ o) (hk : ∀ a ∈ kids x, a ∈ o) : Shut kids (o ++ [x]) := by
  intro p y hp
  rcases List.prefix_concat_iff.1 hp with h1 | h1
  · obtain ⟨rfl, h2⟩ := List.append_inj' h1 rfl
    simp at h2; subst h2
    exact ⟨hx, hk⟩
  · exact h p y h1

section
variable {α : Type} [DecidableEq α] (kids : α → List α) (r : α → Nat) (hr : ∀ x, ∀ a ∈ kids x, r a < r x)

include hr
theorem trav_shut : ∀ (f : Nat) (x : α) (o : List α), r x < f → Shut kids o → Shut kids (trav kids f x o)
  | 0, _, _, h, _ => by omega
  | f + 1, x, o, hf, ho => by
    simp only [trav]
    split
    · exact ho
    · rename_i hx
      have key : ∀ (l : List α) (o : List α), (∀ a ∈ l, r a < r x) → Shut kids o → x ∉ o → Shut kids (l.foldl (fun o a => trav kids f a o) o) ∧ x ∉ l.foldl (fun o a => trav kids f a o) o ∧ ∀ a ∈ l, a ∈ l.foldl (fun o a => trav kids f a o) o := by
        intro l
        induction l with
        | nil => intro o _ h1 h2; exact ⟨h1, h2, fun a ha => by cases ha⟩
        | cons a l ih =>
          intro o hl h1 h2
          have ha := hl a (List.mem_cons_self ..)
          have h3 := trav_shut f a o (by omega) h1
          have h4 : x ∉ trav kids f a o := fun h => by
            rcases trav_rank kids r hr f a o x h with h | h
            · exact h2 h
            · omega
          obtain ⟨i1, i2, i3⟩ := ih _ (fun b hb => hl b (List.mem_cons_of_mem _ hb)) h3 h4
          refine ⟨i1, i2, fun b hb => ?_⟩
          rcases List.mem_cons.1 hb with rfl | hb
          · obtain ⟨f', rfl⟩ : ∃ f', f = f' + 1 := ⟨f - 1, by omega⟩
            exact (fold_prefix kids (f' + 1) l _).subset (trav_mem kids f' b o)
          · exact i3 b hb
      obtain ⟨i1, i2, i3⟩ := key (kids x) o (fun a ha => hr x a ha) ho hx
      exact i1.snoc i2 i3
end

/-- The kids of step i. -/
def kidsOf (ss : List Stp) (i : Nat) : List Nat := ((ss[i]?.map Stp.args).getD []).map Int.toNat
theorem kidsOf_lt {ss : List Stp} {i : Nat} (h : i < ss.length) : kidsOf ss i = ss[i].args.map Int.toNat := by
  simp [kidsOf, List.getElem?_eq_getElem h]

/-- The form is right. -/
def Okay (ss : List Stp) : Prop := 1 ≤ ss.length ∧ ss.length ≤ 2000 ∧ ∀ i (h : i < ss.length), ss[i].args.length ≤ 40 ∧ ∀ a ∈ ss[i].args, 0 ≤ a ∧ a < i

/-- The needed steps, in postorder. -/
def post (ss : List Stp) : List Nat := trav (kidsOf ss) ss.length (ss.length - 1) []

theorem formGo_zero : ∀ (l : List Stp) (i : Nat), formGo i l = 0 ↔ ∀ j (h : j < l.length), l[j].args.length ≤ 40 ∧ ∀ a ∈ l[j].args, 0 ≤ a ∧ a < ((i + j : Nat) : Int)
  | [], i => by simp [formGo]
  | s :: r, i => by
    have ih := formGo_zero r (i + 1)
    simp only [formGo]
    constructor
    · intro h
      split at h
      · simp at h
      split at h
      · simp at h
      rename_i h1 h2
      intro j hj
      cases j with
      | zero =>
        refine ⟨by simp; omega, fun a ha => ?_⟩
        have := h2
        simp only [List.any_eq_true, not_exists, not_and, Bool.not_eq_true] at this
        have h3 := this a (by simpa using ha)
        simp [badArg] at h3
        simp; omega
      | succ j =>
        have h3 := ih.1 h j (by simp at hj; omega)
        refine ⟨by simpa using h3.1, fun a ha => ?_⟩
        have := h3.2 a (by simpa using ha)
        omega
    · intro h
      have h0 := h 0 (by simp)
      simp only [List.getElem_cons_zero] at h0
      rw [if_neg (by omega), if_neg, ih]
      · intro j hj
        have h1 := h (j + 1) (by simp; omega)
        simp only [List.getElem_cons_succ] at h1
        refine ⟨h1.1, fun a ha => ?_⟩
        have := h1.2 a ha
        omega
      · simp only [List.any_eq_true, not_exists, not_and, Bool.not_eq_true]
        intro a ha
        have := h0.2 a ha
        simp [badArg]; omega

theorem formM_zero (ss : List Stp) : formM ss = 0 ↔ Okay ss := by
  unfold formM Okay
  split
  · simp; omega
  · rw [formGo_zero]
    simp only [Nat.zero_add]
    constructor
    · intro h; exact ⟨by omega, by omega, h⟩
    · intro h; exact h.2.2

theorem shut_nil {α : Type} (kids : α → List α) : Shut kids [] := fun p x h => by
  have := h.length_le
  simp at this

theorem Okay.kid {ss : List Stp} (h : Okay ss) {i a : Nat} (ha : a ∈ kidsOf ss i) : a < i := by
  by_cases hi : i < ss.length
  · rw [kidsOf_lt hi] at ha
    obtain ⟨b, hb, rfl⟩ := List.mem_map.1 ha
    have := (h.2.2 i hi).2 b hb
    omega
  · simp [kidsOf, List.getElem?_eq_none (Nat.le_of_not_lt hi)] at ha

theorem Okay.shut {ss : List Stp} (h : Okay ss) : Shut (kidsOf ss) (post ss) :=
  trav_shut (kidsOf ss) id (fun x a ha => h.kid ha) _ _ _ (by have := h.1; simp only [id]; omega) (shut_nil _)
theorem Okay.post_lt {ss : List Stp} (h : Okay ss) {x : Nat} (hx : x ∈ post ss) : x < ss.length := by
  rcases trav_rank (kidsOf ss) id (fun x a ha => h.kid ha) _ _ _ x hx with h1 | h1
  · simp at h1
  · have := h.1; simp only [id] at h1; omega
theorem Okay.round {ss : List Stp} (h : Okay ss) {pre : List Nat} {x : Nat} (hp : (pre ++ [x]) <+: post ss) :
    x < ss.length ∧ x ∉ pre ∧ ∀ a ∈ kidsOf ss x, a ∈ pre :=
  ⟨h.post_lt (hp.subset (by simp)), h.shut pre x hp⟩

/-- Step x as its numbers in the order o make it. -/
def ordStep (ss : List Stp) (o : List Nat) (x : Nat) : Stp := ⟨(ss[x]?.map Stp.label).getD ByteArray.empty, ((ss[x]?.map Stp.args).getD []).map fun a => ((o.idxOf a.toNat : Nat) : Int)⟩
/-- What Ordered returns. -/
def orderedM (ss : List Stp) : List Stp := (post ss).map (ordStep ss (post ss))

theorem ordStep_lt {ss : List Stp} {o : List Nat} {x : Nat} (h : x < ss.length) : ordStep ss o x = ⟨ss[x].label, ss[x].args.map fun a => ((o.idxOf a.toNat : Nat) : Int)⟩ := by
  simp [ordStep, List.getElem?_eq_getElem h]

theorem idxOf_prefix {o pre : List Nat} {x : Nat} (h : (pre ++ [x]) <+: o) (hx : x ∉ pre) : o.idxOf x = pre.length := by
  obtain ⟨t, rfl⟩ := h
  rw [List.append_assoc, List.idxOf_append, if_neg hx]
  simp

theorem nodup_bound : ∀ (n : Nat) (l : List Nat), l.Nodup → (∀ x ∈ l, x < n) → l.length ≤ n
  | 0, l, _, h => by
    cases l with
    | nil => simp
    | cons a l => have := h a (by simp); omega
  | n + 1, l, hn, h => by
    by_cases hm : n ∈ l
    · have ih := nodup_bound n (l.erase n) (hn.erase n) (fun x hx => by
        have h1 := (List.Nodup.mem_erase_iff hn).1 hx
        have h2 := h x h1.2
        omega)
      rw [List.length_erase_of_mem hm] at ih
      omega
    · have := nodup_bound n l hn (fun x hx => by
        have h2 := h x hx
        have h3 : x ≠ n := fun e => hm (e ▸ hx)
        omega)
      omega

theorem shut_nodup {α : Type} {kids : α → List α} {o : List α} (hs : Shut kids o) : o.Nodup := by
  have key : ∀ k, (o.take k).Nodup := by
    intro k
    induction k with
    | zero => simp
    | succ k ih =>
      rcases Nat.lt_or_ge k o.length with h | h
      · rw [List.take_succ_eq_append_getElem h, List.nodup_append]
        refine ⟨ih, by simp, ?_⟩
        intro a ha b hb e
        simp at hb
        subst hb
        exact (hs (o.take k) o[k] (by rw [← List.take_succ_eq_append_getElem h]; exact List.take_prefix _ _)).1 (e ▸ ha)
      · rw [List.take_of_length_le (by omega)]
        rwa [List.take_of_length_le h] at ih
  have := key o.length
  rwa [List.take_length] at this

theorem post_length_le {ss : List Stp} (h : Okay ss) : (post ss).length ≤ ss.length :=
  nodup_bound _ _ (shut_nodup h.shut) fun _ hx => h.post_lt hx

end Go.Proofs.YtcbmljfgmeeadaaDoor
