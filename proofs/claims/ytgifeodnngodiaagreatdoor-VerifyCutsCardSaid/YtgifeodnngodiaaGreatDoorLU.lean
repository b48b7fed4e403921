/-
  PLAIN LAW: the program's check of a database is the reference's.
  CONTRACTS of the program: the check of a database.
-/
import Derived.Test.YtgifeodnngodiaaGreatDoorLT
namespace Go.Proofs.YtgifeodnngodiaaGreatDoor

section
variable {d : Db} {k : Nat} {fs : List ByteArray} {hm : List (ByteArray × Hy)} {tm : List (ByteArray × ByteArray)} {bf : List Hy}
theorem KInv.fr' (h : KInv d k fs hm tm bf) (hk : k < d.frames.length) (s : ByteArray) : s ∈ Xt fs (ge d.frames k).label ↔ frL d (k + 1) s = true := by
  rw [ZeH, frL, Ze9 hk, Bool.or_eq_true, h.fr s, frL, decide_eq_true_eq]
  exact or_congr Iff.rfl eq_comm
theorem Zii (h : KInv d k fs hm tm bf) (hk : k < d.frames.length) {y : Hy} {bs : List Hy} {ts : List (ByteArray × ByteArray)} {dm : Bool} (ht : TyI bs ts) :
    ZeK d.consts d.vars (Xt fs (ge d.frames k).label) hm tm (lsK bs) ts y dm = ZnL d k y bs dm := by
  unfold ZeK ZnL
  by_cases h1 : QO y dm = true
  · rw [if_pos h1, if_pos h1]
  rw [if_neg h1, if_neg h1]
  have h1' : QO y dm = false := by simpa using h1
  have q1 : (((decide (y.label ∈ d.consts) || decide (y.label ∈ d.vars)) || decide (y.label ∈ Xt fs (ge d.frames k).label)) || decide (y.label ∈ lsK bs)) = ((frL d (k + 1) y.label || Zep d y.label) || bs.any (Zpv y)) := by
    rw [show decide (y.label ∈ Xt fs (ge d.frames k).label) = frL d (k + 1) y.label by rw [Bool.eq_iff_iff, decide_eq_true_eq]; exact h.fr' hk _,
      show decide (y.label ∈ lsK bs) = bs.any (Zpv y) by rw [Bool.eq_iff_iff, decide_eq_true_eq, ZqQ, List.any_eq_true]; simp [Zpv], ← Zep, Bool.or_comm (Zep d y.label)]
  rw [q1]
  by_cases h2 : (frL d (k + 1) y.label || Zep d y.label) = true
  · rw [if_pos (by rw [h2]; rfl), if_pos h2]
  rw [if_neg h2, show (frL d (k + 1) y.label || Zep d y.label) = false by simpa using h2, Bool.false_or]
  by_cases h3 : bs.any (Zpv y) = true
  · rw [if_pos h3, if_pos h3]
  rw [if_neg h3, if_neg h3]
  change (if Zf8 d y then 12 else _) = _
  by_cases h4 : Zf8 d y = true
  · rw [if_pos h4, if_pos h4]
  rw [if_neg h4, if_neg h4, h.hy.bad]
  cases hf : y.floating with
  | true =>
    have hl := Ys h1' hf
    simp only [Bool.not_true, Bool.false_and, Bool.false_eq_true, if_false, Bool.true_and]
    rw [h.ty.bad y hl, ht.bad y hl, ht.have y hl, List.any_append]
  | false =>
    simp only [Bool.not_false, Bool.false_and, Bool.false_eq_true, if_false, Bool.true_and]
    have hl : (decide (((y.text.length : Nat) : Int) = 0) || decide (200 < ((y.text.length : Nat) : Int))) = false := by
      have := h1'
      simp only [QO, hf, Bool.not_false, Bool.true_and, Bool.or_eq_false_iff] at this
      simpa using this.2
    rw [Zfk, hl]
    simp
theorem Zdd {d : Db} {k : Nat} {y : Hy} {bs : List Hy} {dm : Bool} (h : ZnL d k y bs dm = 0) :
    bs.any (Zpv y) = false ∧ (y.floating = true → (oth d k ++ bs).any (Zq2 y) = false ∧ bs.any (hOf y) = false) ∧ (oth d k).any (Zq3 y) = false := by
  unfold ZnL at h
  by_cases h1 : QO y dm = true
  · rw [if_pos h1] at h; exact absurd h (by decide)
  rw [if_neg h1] at h
  by_cases h2 : (frL d (k + 1) y.label || Zep d y.label) = true
  · rw [if_pos h2] at h; exact absurd h (by decide)
  rw [if_neg h2] at h
  by_cases h3 : bs.any (Zpv y) = true
  · rw [if_pos h3] at h; exact absurd h (by decide)
  rw [if_neg h3] at h
  by_cases h4 : Zf8 d y = true
  · rw [if_pos h4] at h; exact absurd h (by decide)
  rw [if_neg h4] at h
  by_cases h5 : (!y.floating && !decide (Zbl d y.text = 0)) = true
  · rw [if_pos h5] at h; simp [h] at h5
  rw [if_neg h5] at h
  by_cases h6 : (y.floating && (oth d k ++ bs).any (Zq2 y)) = true
  · rw [if_pos h6] at h; exact absurd h (by decide)
  rw [if_neg h6] at h
  by_cases h7 : (y.floating && bs.any (hOf y)) = true
  · rw [if_pos h7] at h; exact absurd h (by decide)
  rw [if_neg h7] at h
  by_cases h8 : (oth d k).any (Zq3 y) = true
  · rw [if_pos h8] at h; exact absurd h (by decide)
  exact ⟨(Bool.not_eq_true _).mp h3, fun hf => ⟨by rw [hf, Bool.true_and] at h6; exact (Bool.not_eq_true _).mp h6, by rw [hf, Bool.true_and] at h7; exact (Bool.not_eq_true _).mp h7⟩, (Bool.not_eq_true _).mp h8⟩
theorem Zk9 (h : ∀ j, j < (alH (ge d.frames k)).length → Zpp d k j = 0) : ∀ i, i ≤ (alH (ge d.frames k)).length → TyI ((alH (ge d.frames k)).take i) (tsK ((alH (ge d.frames k)).take i)) := by
  intro i
  induction i with
  | zero => intro _; exact ⟨fun x hx => by simp at hx, fun v t ht => by simp [tsK, Qd] at ht⟩
  | succ i ih =>
    intro hi
    have h0 := h i (by omega)
    rw [ZU (by omega), Zbv]
    exact ZhG (ih (by omega)) (fun hf => Ys (ZaK h0) hf) fun hf => ((Zdd h0).2.1 hf).2
theorem Zny (h : KInv d k fs hm tm bf) (hk : k < d.frames.length) : Xi (alH (ge d.frames k)).length (hyK d.consts d.vars fs hm tm (ge d.frames k)) = Zpq d k := by
  have key : ∀ i, i < (alH (ge d.frames k)).length → (∀ j, j < i → Zpp d k j = 0) → hyK d.consts d.vars fs hm tm (ge d.frames k) i = Zpp d k i ∧ TyI ((alH (ge d.frames k)).take i) (tsK ((alH (ge d.frames k)).take i)) := by
    intro i
    induction i with
    | zero =>
      intro _ _
      have ht : TyI ((alH (ge d.frames k)).take 0) (tsK ((alH (ge d.frames k)).take 0)) := ⟨fun x hx => by simp at hx, fun v t ht => by simp [tsK, Qd] at ht⟩
      exact ⟨Zii h hk ht, ht⟩
    | succ i ih =>
      intro hi hj
      have h0 := hj i (by omega)
      have ht : TyI ((alH (ge d.frames k)).take (i + 1)) (tsK ((alH (ge d.frames k)).take (i + 1))) := by
        rw [ZU (by omega), Zbv]
        exact ZhG (ih (by omega) fun j hj' => hj j (by omega)).2 (fun hf => Ys (ZaK h0) hf) fun hf => ((Zdd h0).2.1 hf).2
      exact ⟨Zii h hk ht, ht⟩
  exact (Zgd fun i hi hj => (key i hi hj).1.symm).symm
theorem ZiT : ∀ {l : List Hy}, (∀ i, i < l.length → (ge l i).floating = true → (ge l i).text.length = 2 ∧ (l.take i).any (hOf (ge l i)) = false) → (Zfj l).Nodup := by
  intro l h
  have key : ∀ i, i ≤ l.length → (Zfj (l.take i)).Nodup := by
    intro i
    induction i with
    | zero => intro _; simp [Zfj]
    | succ i ih =>
      intro hi
      rw [Zfj, YW (by omega), List.map_append]
      by_cases hf : (ge l i).floating = true
      · simp only [hf, if_true, List.map_cons, List.map_nil]
        rw [List.nodup_append]
        refine ⟨ih (by omega), by simp, fun x hx z hz e => ?_⟩
        rw [List.mem_singleton.1 hz] at e
        obtain ⟨w, hw, rfl⟩ := List.mem_map.1 hx
        rw [List.mem_filter] at hw
        have h1 := h i (by omega) hf
        have h2 := List.any_eq_false.1 h1.2 w hw.1
        refine h2 ?_
        rw [hOf, ZaO h1.1]
        obtain ⟨q, hq, rfl⟩ := XC hw.1
        have hq' : q < i := by simp at hq; omega
        have e2 : ge (l.take i) q = ge l q := by simp [ge, List.getD_eq_getElem?_getD, hq']
        rw [e2] at hw e ⊢
        exact ofB_one.2 ⟨by simpa using hw.2, (h q (by omega) (by simpa using hw.2)).1, e⟩
      · simp only [hf, Bool.false_eq_true, if_false, List.map_nil, List.append_nil]
        exact ih (by omega)
  have := key l.length (Nat.le_refl _)
  rwa [ZL (Nat.le_refl _)] at this
theorem Zq4 {α : Type} [Inhabited α] {xs ys : List α} {i : Nat} (h : i < xs.length) : ge (xs ++ ys) i = ge xs i := by
  simp [ge, List.getD_eq_getElem?_getD, List.getElem?_append_left h]
theorem Zp8 (h : ∀ j, j < (alH (ge d.frames k)).length → Zpp d k j = 0) : Zo3 d.vars (ge d.frames k) = ZrU d (ge d.frames k) := by
  have hf0 : ∀ i, i < (ge d.frames k).hyps.length → (ge (ge d.frames k).hyps i).floating = true → (ge (ge d.frames k).hyps i).text.length = 2 ∧ ((ge d.frames k).hyps.take i).any (hOf (ge (ge d.frames k).hyps i)) = false := fun i hi hf => by
    have h0 := h i (by simp [alH]; omega)
    rw [Zpp] at h0
    rw [Zq4 hi] at h0
    rw [List.take_append_of_le_length (by omega)] at h0
    exact ⟨Ys (ZaK h0) hf, ((Zdd h0).2.1 hf).2⟩
  have hnd := ZiT hf0
  have hm0 : Zic d.vars (ge d.frames k) = Zb9 d (ge d.frames k) := rfl
  have hmn : (Zb9 d (ge d.frames k)).Nodup := (Zk1 _ _).1
  unfold Zo3 ZrU
  rw [Zmf rfl, hm0]
  have e1 : (ge d.frames k).hyps.all (Zjm (Zb9 d (ge d.frames k))) = (ge d.frames k).hyps.all (hIn (Zb9 d (ge d.frames k))) := by
    rw [Bool.eq_iff_iff, List.all_eq_true, List.all_eq_true]
    refine forall_congr' fun x => ⟨fun hx hm => ?_, fun hx hm => ?_⟩ <;> have := hx hm
    · obtain ⟨i, hi, rfl⟩ := XC hm
      cases hf : (ge (ge d.frames k).hyps i).floating with
      | false => simp [hIn, hf]
      | true =>
        simp only [Zjm, hf, Bool.not_true, Bool.false_or, decide_eq_true_eq] at this
        simp [hIn, ofB, hf, (hf0 i hi hf).1, this]
    · obtain ⟨i, hi, rfl⟩ := XC hm
      cases hf : (ge (ge d.frames k).hyps i).floating with
      | false => simp [Zjm, hf]
      | true =>
        simp only [hIn, ofB, hf, Bool.not_true, Bool.false_or, Bool.true_and, Bool.and_eq_true, decide_eq_true_eq] at this
        simp [Zjm, hf, this.2]
  rw [e1]
  by_cases ha : (ge d.frames k).hyps.all (hIn (Zb9 d (ge d.frames k))) = true
  · have hsub : ∀ s ∈ Zfj (ge d.frames k).hyps, s ∈ Zb9 d (ge d.frames k) := fun s hs => by
      obtain ⟨x, hx, rfl⟩ := List.mem_map.1 hs
      rw [List.mem_filter] at hx
      have := List.all_eq_true.1 (e1.trans ha) x hx.1
      simpa [Zjm, hx.2] using this
    have e2 : decide ((Zfj (ge d.frames k).hyps).length = (Zb9 d (ge d.frames k)).length) = (Zb9 d (ge d.frames k)).all fun s => decide (s ∈ Zfj (ge d.frames k).hyps) := by
      rw [Bool.eq_iff_iff, decide_eq_true_eq, List.all_eq_true]
      constructor
      · intro e s hs
        rw [decide_eq_true_eq]
        refine Classical.byContradiction fun hn => ?_
        have := ZbJ (ys := (Zb9 d (ge d.frames k)).erase s) hnd fun z hz => (List.mem_erase_of_ne (fun e' : z = s => hn (by rw [← e']; exact hz))).2 (hsub z hz)
        rw [List.length_erase_of_mem hs] at this
        have := List.length_pos_of_mem hs
        omega
      · intro e
        have h1 := ZbJ hnd hsub
        have h2 := ZbJ hmn fun s hs => by simpa using e s hs
        omega
    rw [e2, ha]
    simp only [Bool.true_and, Bool.and_assoc]
  · rw [show (ge d.frames k).hyps.all (hIn (Zb9 d (ge d.frames k))) = false by simpa using ha]
    rfl
theorem Zce (h : KInv d k fs hm tm bf) (hk : k < d.frames.length) : Zde d.consts d.vars fs hm tm (ge d.frames k) bf = frE d k := by
  unfold Zde frE ZrZ
  by_cases h1 : (!Zcc (ge d.frames k).label) = true
  · rw [if_pos h1, if_pos h1]
  rw [if_neg h1, if_neg h1, h.hy.some, ← Zls]
  have q : ((hyL d k (ge d.frames k).label || (decide ((ge d.frames k).label ∈ d.consts) || decide ((ge d.frames k).label ∈ d.vars))) || decide ((ge d.frames k).label ∈ fs)) = ((frL d k (ge d.frames k).label || hyL d k (ge d.frames k).label) || Zep d (ge d.frames k).label) := by
    rw [show decide ((ge d.frames k).label ∈ fs) = frL d k (ge d.frames k).label by rw [Bool.eq_iff_iff, decide_eq_true_eq]; exact h.fr _, ← Zep]
    cases hyL d k (ge d.frames k).label <;> cases frL d k (ge d.frames k).label <;> cases Zep d (ge d.frames k).label <;> rfl
  rw [q]
  by_cases h2 : ((frL d k (ge d.frames k).label || hyL d k (ge d.frames k).label) || Zep d (ge d.frames k).label) = true
  · rw [if_pos h2, if_pos h2]
  rw [if_neg h2, if_neg h2]
  by_cases h3 : (decide ((40 : Int) < (((ge d.frames k).hyps.length : Nat) : Int)) || decide ((40 : Int) < (((ge d.frames k).dummies.length : Nat) : Int))) = true
  · rw [if_pos h3, if_pos h3]
  rw [if_neg h3, if_neg h3, Zny h hk]
  by_cases h4 : (!decide (Zpq d k = 0)) = true
  · rw [if_pos h4, if_pos h4]
  rw [if_neg h4, if_neg h4, Zfk]
  have h4' : ∀ j, j < (alH (ge d.frames k)).length → Zpp d k j = 0 := Ql (n := (alH (ge d.frames k)).length) (show Zpq d k = 0 by simpa using h4)
  by_cases h5 : (decide ((((ge d.frames k).text.length : Nat) : Int) = 0) || decide (200 < (((ge d.frames k).text.length : Nat) : Int))) = true
  · rw [if_pos h5, if_pos h5, if_pos (by decide)]
  rw [if_neg h5, if_neg h5]
  by_cases h6 : (!decide (Zbl d (ge d.frames k).text = 0)) = true
  · rw [if_pos h6, if_pos h6]
  rw [if_neg h6, if_neg h6, ZdJ, Zp8 h4']
  by_cases h7 : ZrU d (ge d.frames k) = true
  · rw [if_pos h7, if_neg (show ¬ (!decide ((0 : Int) = 0)) = true by decide), if_neg (show ¬ (!ZrU d (ge d.frames k)) = true by simp [h7])]
    have e8 : ZrX (ge d.frames k) = (((decide (0 < (((ge d.frames k).proof.length : Nat) : Int)) && !(ge d.frames k).thm) || decide (8000 < (((ge d.frames k).proof.length : Nat) : Int))) || !(ge d.frames k).proof.all XL) := by
      rw [show (!(ge d.frames k).proof.all XL) = (ge d.frames k).proof.any fun s => !XL s from List.not_all_eq_any_not ..]
      unfold ZrX
      by_cases h0 : (ge d.frames k).proof = []
      · simp [h0]
      · have : 0 < (ge d.frames k).proof.length := List.length_pos_iff.2 h0
        simp [this]
    have e9 : (((X8 (ge d.frames k).hyps).drop (ZeS (bf.map Hy.label) ((X8 (ge d.frames k).hyps).map Hy.label))).any fun y => (Zz hm y.label).isSome) = ordB d k (ge d.frames k) := by
      rw [ordB, h.bf, ← List.map_drop, List.any_map]
      congr 1
      funext y
      rw [h.hy.some, ← Zls]; rfl
    rw [e8, e9]
    by_cases h8 : ((decide (0 < (((ge d.frames k).proof.length : Nat) : Int)) && !(ge d.frames k).thm) || decide (8000 < (((ge d.frames k).proof.length : Nat) : Int))) = true
    · rw [if_pos (by rw [h8]; rfl), if_pos h8]
    · rw [if_neg h8, show ((decide (0 < (((ge d.frames k).proof.length : Nat) : Int)) && !(ge d.frames k).thm) || decide (8000 < (((ge d.frames k).proof.length : Nat) : Int))) = false by simpa using h8, Bool.false_or]
  · rw [if_neg h7, if_pos (show (!decide ((70 : Int) = 0)) = true by decide), if_pos (show (!ZrU d (ge d.frames k)) = true by simpa using h7)]
theorem ZnO (h : frE d k = 0) : ∀ j, j < (alH (ge d.frames k)).length → Zpp d k j = 0 := by
  refine Ql (n := (alH (ge d.frames k)).length) ?_
  change Zpq d k = 0
  unfold frE ZrZ at h
  refine Classical.byContradiction fun hn => ?_
  by_cases h1 : (!Zcc (ge d.frames k).label) = true
  · rw [if_pos h1] at h; exact absurd h (by decide)
  rw [if_neg h1] at h
  by_cases h2 : ((frL d k (ge d.frames k).label || hyL d k (ge d.frames k).label) || Zep d (ge d.frames k).label) = true
  · rw [if_pos h2] at h; exact absurd h (by decide)
  rw [if_neg h2] at h
  by_cases h3 : (decide ((40 : Int) < (((ge d.frames k).hyps.length : Nat) : Int)) || decide ((40 : Int) < (((ge d.frames k).dummies.length : Nat) : Int))) = true
  · rw [if_pos h3] at h; exact absurd h (by decide)
  rw [if_neg h3, if_pos (by simpa using hn)] at h
  exact hn h
theorem Zli (h : KInv d k fs hm tm bf) (hk : k < d.frames.length) (h0 : frE d k = 0) {tn : List (ByteArray × ByteArray)}
    (ht : ∀ v, Zz tn v = if (Zz (tsK (alH (ge d.frames k))) v).isSome then Zz (tsK (alH (ge d.frames k))) v else Zz tm v) :
    KInv d (k + 1) (Xt fs (ge d.frames k).label) (hmK hm (alH (ge d.frames k))) tn (X8 (ge d.frames k).hyps) := by
  have hl := ZnO h0
  have hT := Zk9 hl (alH (ge d.frames k)).length (Nat.le_refl _)
  rw [ZL (Nat.le_refl _)] at hT
  have hat : ∀ y ∈ alH (ge d.frames k), (y.floating = true → (oth d k).any (Zq2 y) = false) ∧ (oth d k).any (Zq3 y) = false := fun y hy => by
    obtain ⟨j, hj, rfl⟩ := XC hy
    have := Zdd (hl j hj)
    refine ⟨fun hf => ?_, this.2.2⟩
    have := (this.2.1 hf).1
    rw [List.any_append, Bool.or_eq_false_iff] at this
    exact this.1
  have hdist : ∀ x ∈ alH (ge d.frames k), ∀ y ∈ alH (ge d.frames k), y.label = x.label → y = x := fun x hx y hy e => by
    obtain ⟨i, hi, rfl⟩ := XC hx
    obtain ⟨j, hj, rfl⟩ := XC hy
    have key : ∀ p q, p < q → q < (alH (ge d.frames k)).length → (ge (alH (ge d.frames k)) p).label ≠ (ge (alH (ge d.frames k)) q).label := fun p q hpq hq e => by
      have := (Zdd (hl q hq)).1
      rw [List.any_eq_false] at this
      refine this (ge (alH (ge d.frames k)) p) ?_ (by simpa [Zpv] using e)
      have e2 : ge ((alH (ge d.frames k)).take q) p = ge (alH (ge d.frames k)) p := by simp [ge, List.getD_eq_getElem?_getD, hpq]
      rw [← e2]
      exact Zc (show p < ((alH (ge d.frames k)).take q).length by rw [List.length_take]; omega)
    rcases Nat.lt_trichotomy i j with h1 | h1 | h1
    · exact absurd e.symm (key i j h1 hj)
    · rw [h1]
    · exact absurd e (key j i h1 hi)
  have hsam : ∀ x ∈ oth d k, ∀ y ∈ alH (ge d.frames k), y.label = x.label → y = x := fun x hx y hy e => by
    have := List.any_eq_false.1 (hat y hy).2 x hx
    simp only [Zq3, Bool.and_eq_true, Bool.not_eq_true', decide_eq_true_eq, not_and, Bool.not_eq_false] at this
    exact (hyEq_iff.1 (this e.symm)).symm
  refine ⟨h.fr' hk, ⟨fun x hx => ?_, fun s x hx => ?_⟩, ⟨fun x hx v hv => ?_, fun v t hv => ?_⟩, ?_⟩
  · rw [ZcF hk] at hx
    rcases List.mem_append.1 hx with hx | hx
    · exact Zhc _ _ _ (hsam x hx) (.inr (h.hy.hit x hx))
    · exact Zhc _ _ _ (hdist x hx) (.inl hx)
  · rw [ZcF hk]
    rcases Zlt _ _ _ _ hx with ⟨h1, h2⟩ | h1
    · exact ⟨List.mem_append_right _ h1, h2⟩
    · have := h.hy.got _ _ h1
      exact ⟨List.mem_append_left _ this.1, this.2⟩
  · rw [ZcF hk] at hx
    rw [ht]
    rcases List.mem_append.1 hx with hx | hx
    · cases hs : Zz (tsK (alH (ge d.frames k))) v with
      | none => simpa using h.ty.hit x hx v hv
      | some t =>
        obtain ⟨y, hy, h1, h2⟩ := hT.got v t hs
        have hy1 := ofB_one.1 h1
        have := List.any_eq_false.1 ((hat y hy).1 hy1.1) x hx
        simp only [Zq2, ZaO hy1.2.1, hy1.2.2, hv, Bool.true_and, Bool.not_eq_true', decide_eq_false_iff_not, Classical.not_not] at this
        simp [this, h2]
    · rw [hT.hit x hx v hv]; rfl
  · rw [ZcF hk]
    rw [ht] at hv
    split at hv
    · obtain ⟨y, hy, h1⟩ := hT.got v t hv
      exact ⟨y, List.mem_append_right _ hy, h1⟩
    · obtain ⟨y, hy, h1⟩ := h.ty.got v t hv
      exact ⟨y, List.mem_append_left _ hy, h1⟩
  · rw [befL, if_neg (by omega), Nat.add_sub_cancel]
end
end Go.Proofs.YtgifeodnngodiaaGreatDoor
set_option maxHeartbeats 8000000
set_option maxRecDepth 100000
namespace Go.Proofs.YtgifeodnngodiaaGreatDoor
open Go.RowKit

theorem ZqG {J : World → Prop} (hJ : Stab J) (d : Db) (hw : ∀ f ∈ d.frames, f.wide.length * 32 ≤ 140737488351232) (hG : QL J) : Fn Tryz.prog J 46 [.agg (dbC d)] (.int (ZdP d)) := by
 refine Zx (N := 55) Tryz.func46 rfl rfl (lb rfl) fun S w0 hS hJ0 => ?_
 refine tw Yn ?_
 refine ZO tb hJ [1000] [.ptr (dbC d),_] [0] [_] rfl ⟨fun _ _ hk hx hl _ => YU rfl (hl.env 0 0 _ rfl rfl) (Zr hS _ hk hx _ (Nat.le_refl _)) (jo hJ hx), trivial⟩ ?_
 refine Zn (ZO tb hJ [0,1001,1015] [_,_,.int (d.frames.length : Nat),_,_,_,_,.int (d.consts.length : Nat),_,_,_,_,_,.int (d.vars.length : Nat),_,_] [2,7,13] [_,_,_] rfl ⟨Yz QT, Yz Zw, Yz Zw, trivial⟩ ?_)
 refine ln 1 fun hl1 => ?_
 refine cj 2 (fun hb1 => ?_) fun hb1 => ?_
 ·
  have e9 : ZdP d = 8 := by rw [ZdP, if_pos hb1]
  refine qso tb hJ [1000] [_] [_] ?_
  exact Zi (Qg (m := 0) rfl rfl (eI (e9.symm)))
 ·
  replace hb1 := (Bool.not_eq_true _).mpr hb1
  refine Zf (nx (tsq ?_))
  refine Zaz keyS hJ rfl rfl rfl (lb rfl) fun m1 => ?_
  refine Zaz keyS hJ rfl rfl rfl (lb rfl) fun m2 => ?_
  refine Zaz keyS hJ rfl rfl rfl (lb rfl) fun m3 => ?_
  refine Zfn keyS (fun z' : Hy => AV.agg (hyC z')) hJ rfl rfl rfl (lb rfl) fun m4 => ?_
  refine Zfn keyS (fun z' : ByteArray => AV.str z') hJ rfl rfl rfl (lb rfl) fun m5 => ?_
  refine sq (.agg [.lit (.map (some m1)), .lit (.map (some m2)), .lit (.map (some m3)), .lit (.map (some m4)), .lit (.map (some m5))]) rfl rfl (lb rfl) (fun a _ h => XX (us := [a.eval (Go.Operand.tmp 25), a.eval (Go.Operand.tmp 26), a.eval (Go.Operand.tmp 27), a.eval (Go.Operand.tmp 28), a.eval (Go.Operand.tmp 29)]) Zhu rfl (by simp) (Zj (h.get 4 rfl) (Zj (h.get 3 rfl) (Zj (h.get 2 rfl) (Zj (h.get 1 rfl) (Zj (h.get 0 rfl) ZI))))) rfl h.x) ?_
  refine sq (.ptr (mpC [m1, m2, m3, m4, m5])) rfl rfl (lb rfl) (fun _ _ h => YU rfl (h.get 0 rfl) (Zr hS _ h.keep h.x _ (Nat.le_refl _)) (jo hJ h.x)) ?_
  refine snK 1 tb rfl ?_
  refine seK [0,8] [_,_] rfl ?_
  refine nx (Zn (tsq ?_))
  refine snK 2 tb rfl ?_
  refine kw pm2 ?_
  refine kw pm2 ?_
  refine kw pm2 ?_
  refine kw pm3 ?_
  refine kw pm4 ?_
  refine XH (O := [OB.set keyS m1 ([] : List ByteArray), OB.set keyS m2 ([] : List ByteArray)]) (R := [OB.mT m5 ([] : List (ByteArray × ByteArray)), OB.mH m4 ([] : List (ByteArray × Hy)), OB.set keyS m3 ([] : List ByteArray)]) (ZkK hJ (M1 := m1) (M2 := m2) (M3 := m3) (M4 := m4) (M5 := m5) (d := d) ) Zrx rfl rfl rfl (lb rfl) hS hJ0 Zt (fun a w h => (Za (h.get 1 rfl) (Za (h.get 0 rfl) Zd))) fun z6 => ?_
  refine snK 1 tb rfl ?_
  refine seK [0,4,5] [_,_,_] rfl ?_
  refine nx (qso tb hJ [0,1,2,1001] [_,_] [_,_,_,_] ?_)
  refine cj 3 (fun hb2 => ?_) fun hb2 => ?_
  ·
   have e9 : ZdP d = ZdG d := by rw [ZdP, if_neg hb1, if_pos hb2]
   refine qso tb hJ [1001] [_,_] [_] ?_
   exact Zi (Qg (m := 0) rfl rfl (eI (e9.symm)))
  ·
   have e2 : ZdG d = 0 := ZqN hb2
   have z2 := z6.2 e2
   replace hb2 := (Bool.not_eq_true _).mpr hb2
   refine tw (ob0 (congrArg (fun z' => OB.set keyS m1 (z')) (show z6.1.1 = d.consts from by rw [z2]))) ?_
   refine tw (ob1 (congrArg (fun z' => OB.set keyS m2 (z')) (show z6.1.2 = d.vars from by rw [z2]))) ?_
   refine Zf (nx (qso tb hJ [1,2,1000] [_] [_,_,_] ?_))
   refine Zn (ZO tb hJ [0,2,1001,1002,1003] [_,_,.int (d.frames.length : Nat),_] [2] [_,_,_,_,_] rfl ⟨Yz QT, trivial⟩ ?_)
   refine Zh (tw (fun h => Zer h (m := 1) (s := 5) rfl) ?_)
   refine lpo (ι := Nat × (List Hy) × (List ByteArray) × (List (ByteArray × Hy)) × (List (ByteArray × ByteArray))) (fun (k, bf, fs, hm, tm) => (k ≤ d.frames.length) ∧ (KInv d k fs hm tm bf) ∧ (∀ j, j < k → frE d j = 0)) (fun (_, _, fs, hm, tm) => [OB.set keyS m1 d.consts, OB.set keyS m2 d.vars, OB.mT m5 tm, OB.mH m4 hm, OB.set keyS m3 fs]) (fun (k, bf, _, _, _) => [(41, .int (k : Nat)), (5, .rd (Xr bf))]) (fun (k, _, _, _, _) => d.frames.length - k) [1,2,3,4,0] [_,_,_] (0, [], ([] : List ByteArray), ([] : List (ByteArray × Hy)), ([] : List (ByteArray × ByteArray))) ⟨Nat.zero_le _, Zlh d, fun j hj => by omega⟩ ?_
   rintro ⟨k, bf, fs, hm, tm⟩ ⟨f1_1, f1_2, f1_3⟩
   refine qso tb hJ [0,1,2,3,4,1000] [_] [_,_,_,_,_,_] ?_
   refine ln 4 fun hl2 => ?_
   refine cjS 5 (fun hb3 => ?_) fun hb3 => ?_
   ·
    try simp at hb3
    refine Zf (nx (Zn (Zh (tsq ?_))))
    refine sq (.ptr (frC (ge d.frames k))) rfl rfl (lb rfl) (fun _ _ h => Yg (i := (k : Int)) YI rfl (h.get 1 rfl) (h.get 3 rfl) (Int.natCast_nonneg _) (Yt (xs := d.frames) (k := k) (by first | omega | (simp; omega) | grind [Zc])) rfl h.x) ?_
    refine snK 1 tb rfl ?_
    refine Qa (cs := frC (ge d.frames k)) ZmA rfl rfl rfl (lb rfl) rfl rfl rfl (by decide) (m := 0) rfl rfl (fun a w h => Zr hS _ h.keep h.x _ (Nat.le_refl _)) (fun a w h w' hk' => Yp hJ _ _ hk' h.x) ?_
    refine seK [0,3,4,5,6,7] [_,_,_,_,_,_] rfl ?_
    refine nx (Zn (tsq ?_))
    refine snK 3 tb rfl ?_
    refine kw pm2 ?_
    refine kw pm3 ?_
    refine kw pm4 ?_
    refine kw pm4 ?_
    refine kw pm4 ?_
    refine XH (O := [OB.set keyS m1 d.consts, OB.set keyS m2 d.vars, OB.set keyS m3 fs, OB.mH m4 hm, OB.mT m5 tm]) (R := []) (Zqz hJ (M1 := m1) (M2 := m2) (M3 := m3) (M4 := m4) (M5 := m5) (cs := d.consts) (vs := d.vars) (fs := fs) (hm := hm) (tm := tm) (f := (ge d.frames k)) (bf := bf) (hw _ (Zc (by omega))) (hG)) Zrw rfl rfl rfl (lb rfl) hS hJ0 Zt (fun a w h => (Za (h.get 2 rfl) (Za (h.get 1 rfl) (Za (h.get 0 rfl) Zd)))) fun z7 => ?_
    refine snK 1 tb rfl ?_
    refine seK [0,5,6,7,8,9] [_,_,_,_,_,_] rfl ?_
    refine nx (qso tb hJ [0,1,2,3,4,5,1001] [_,_] [_,_,_,_,_,_,_] ?_)
    refine cj 6 (fun hb4 => ?_) fun hb4 => ?_
    ·
     have e4 : frE d k ≠ 0 := by rw [← Zce f1_2 (by omega)]; exact ZqM hb4
     have e9 : ZdP d = Zde d.consts d.vars fs hm tm (ge d.frames k) bf := by rw [ZdP, if_neg hb1, if_neg hb2, Qm (by omega) f1_3 e4, Zce f1_2 (by omega)]
     refine qso tb hJ [1001] [_,_] [_] ?_
     exact Zi (Qg (m := 0) rfl rfl (eI (e9.symm)))
    ·
     have e4 : frE d k = 0 := by rw [← Zce f1_2 (by omega)]; exact ZqN hb4
     have z4 := z7.2 (ZqN hb4)
     refine Zf (nx (Y6 tb hJ [2,3,4,5,1001,1002] [_,.rd (Xr (X8 (ge d.frames k).hyps)),_] [1] [_,_,_,_,_,_] rfl ⟨iFo hS hJ (Zck hJ (f := (ge d.frames k)) (by have := (Zin e4).1; omega)) Zl5, trivial⟩ ?_))
     refine nx (ln 4 fun hl3 => ?_)
     refine Y6 tb hJ [0,1,2,5,1001] [.int (k + 1 : Nat),_] [0] [_,_,_,_,_] rfl ⟨YK, trivial⟩ ?_
     refine kw pm2 ?_
     refine kw pm3 ?_
     refine kw pm4 ?_
     refine kw pm4 ?_
     refine kw pm4 ?_
     exact XR (k + 1, (X8 (ge d.frames k).hyps), z7.1.1, z7.1.2.1, z7.1.2.2) [0,1,2,4,3] ⟨by omega, by rw [z4.1, z4.2.1]; exact Zli f1_2 (by omega) e4 z4.2.2, Z4 f1_3 e4⟩
   ·
    try simp at hb3
    have e9 : ZdP d = 0 := by rw [ZdP, if_neg hb1, if_neg hb2]; exact Q4 fun j hj => f1_3 j (by omega)
    refine ZC (nx (qso tb hJ [1000] [_] [_] ?_))
    exact Zi (Qg (m := 0) rfl rfl (eI (e9.symm)))

end Go.Proofs.YtgifeodnngodiaaGreatDoor
