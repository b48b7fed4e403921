/-
  A PROOF AS AN ARGUMENT: what its reading says of memory; what a law that keeps all leaves.
-/
import Derived.Test.YtcbmljfgmeeadaaDoorJA
import Derived.Test.YtcbmljfgmeeadaaDoorTie
import Derived.WalkKit
import Derived.ProofKit
import Derived.OpenShut
import Derived.Deep.SlicePairs
import Derived.Deep.DeepHandedRow
import Derived.Lib.LaidTab
import Derived.Carry
namespace Go.Proofs.YtcbmljfgmeeadaaDoor
open Go.ChangeShapes Go.WideShapes Go.ChangeAt Go.RowKit Go.Deep

theorem cells_proof : Tryd.prog.cellsOf 24 = 1 := by kernel_rfl
theorem cells_step : Tryd.prog.cellsOf 45 = 2 := by kernel_rfl
theorem cells_steps : Tryd.prog.cellsOf 22 = 1 := by kernel_rfl
theorem cells_string : Tryd.prog.cellsOf 9 = 1 := by kernel_rfl
theorem cells_ints : Tryd.prog.cellsOf 43 = 1 := by kernel_rfl
theorem cells_int : Tryd.prog.cellsOf 3 = 1 := by kernel_rfl
theorem bytes_step : Tryd.prog.bytesOf 45 = 40 := by kernel_rfl
theorem bytes_int : Tryd.prog.bytesOf 3 = 8 := by kernel_rfl

/-- All that is read is within the form's reach. -/
def Within {H : Type} (t : TypeId) (d : DataW H) : Prop := ∀ x ∈ d.weights Tryd.prog t, x ≤ reachBytes

theorem mem_weightsAll {H : Type} {e : TypeId} {d : DataW H} {x : Nat} (hx : x ∈ d.weights Tryd.prog e) : ∀ {l : List (DataW H)}, d ∈ l → x ∈ DataW.weightsAll Tryd.prog e l
  | c :: l, h => by
    simp only [DataW.weightsAll, List.mem_append]
    rcases List.mem_cons.1 h with rfl | h
    · exact Or.inl hx
    · exact Or.inr (mem_weightsAll hx h)

theorem Within.slice {H : Type} {t e : TypeId} {l r : List (DataW H)} (ht : Tryd.prog.underlying t = some (.slice e)) (h : Within t (.slice l r)) : (l.length + r.length) * Tryd.prog.bytesOf e ≤ reachBytes ∧ ∀ d ∈ l, Within e d := by
  unfold Within at h
  simp only [DataW.weights, ht, List.mem_cons, List.mem_append] at h
  exact ⟨h _ (Or.inl rfl), fun d hd x hx => h x (Or.inr (Or.inl (mem_weightsAll hx hd)))⟩

section
variable {H : Type} {enc : TypeId × Value → H} {W : World}

/-- A slice of integers that is read. -/
theorem open_args {n : Nat} {v : Value} {x : DataW H × List MemPlace} (h : DataW.trod enc Tryd.prog W 0 (fun _ => true) true n 43 [v] = some x) (hw : Within 43 x.1) : ∃ xs, IsInts All W v xs := by
  rcases open_ints Tryd.underlying43 Tryd.underlying3 cells_int h with ⟨hv, rfl⟩ | ⟨a, len, cap, zs, hv, _, hlc, hcm, hzl, rfl, hc, hwf⟩
  · cases hv
    exact ⟨[], none, 0, rfl, by simp, by simp, Or.inl ⟨rfl, trivial⟩⟩
  · cases hv
    simp only [if_true] at hzl
    obtain ⟨hr, _⟩ := hw.slice Tryd.underlying43
    rw [bytes_int] at hr
    simp only [lits, List.length_map, List.length_take, List.length_drop, reachBytes] at hr
    have hlen : (zs.take len).length = len := by rw [List.length_take]; omega
    refine ⟨zs.take len, some a, cap, by rw [hlen], by rw [hlen]; omega, ?_, ?_⟩
    · intro y hy
      have := hwf y (List.mem_of_mem_take hy)
      have e1 : IntKind.i64.min = -9223372036854775808 := by decide
      have e2 : IntKind.i64.max = 9223372036854775807 := by decide
      simp only [Lit.wf, Bool.and_eq_true, decide_eq_true_eq, e1, e2] at this
      omega
    · by_cases h0 : len = 0
      · subst h0
        exact Or.inl ⟨by simp, trivial⟩
      · obtain ⟨b, off, rfl, hc2⟩ := ints_at hc (by omega)
        have hb : b < W.heap.size := by
          have := hc2 0 (by omega)
          unfold World.cell? at this
          cases hg : W.heap[b]? with
          | none => simp [hg] at this
          | some o => exact (Array.getElem?_eq_some_iff.1 hg).1
        refine Or.inr ⟨b, off, rfl, hb, trivial, fun i hi => ?_⟩
        rw [hlen] at hi
        rw [hc2 i (by omega), List.getElem_take, List.getD_eq_getElem?_getD, List.getElem?_eq_getElem (by omega)]
        rfl

/-- A slice has no more elements than room. -/
def Cap (v : Value) : Prop := ∃ a n c, v = .slice a n c ∧ n ≤ c ∧ c ≤ maxLen

/-- A slice of steps that is read. -/
theorem open_steps {n : Nat} {v : Value} {x : DataW H × List MemPlace} (h : DataW.trod enc Tryd.prog W 0 (fun _ => true) true n 22 [v] = some x) (hw : Within 22 x.1) : ∃ ss, IsSteps All W v ss ∧ Cap v := by
  rcases open_slice_pairs Tryd.underlying22 Tryd.underlying45 cells_step rfl rfl cells_string cells_ints h with ⟨hv, rfl⟩ | ⟨a, len, cap, m, n', V0, V1, D0, D1, P0, P1, hv, _, hlc, hcm, hm, rfl, hc⟩
  · cases hv
    exact ⟨[], ⟨none, 0, rfl, by simp, Or.inl ⟨rfl, trivial⟩⟩, none, 0, 0, rfl, by omega, by simp [maxLen]⟩
  · cases hv
    simp only [if_true] at hm
    obtain ⟨hr, hel⟩ := hw.slice Tryd.underlying22
    rw [bytes_step] at hr
    simp only [List.length_map, List.length_range, reachBytes] at hr
    have each : ∀ i, i < len → ∃ s : Stp, W.cell? (a.add (i * 2)) = some (.string s.label) ∧ ∃ va, W.cell? (a.add (i * 2 + 1)) = some va ∧ IsInts All W va s.args := by
      intro i hi
      obtain ⟨c0, c1, t0, t1⟩ := hc i (by omega)
      obtain ⟨s, hs, _, _⟩ := DataW.trod_string Tryd.underlying9 t0
      have hs' : V0 i = .string s := by simpa using hs
      have hwi : Within 43 (D1 i) := by
        have h1 := hel (.agg [D0 i, D1 i]) (List.mem_map.2 ⟨i, by simpa using hi, rfl⟩)
        intro y hy
        refine h1 y ?_
        simp only [DataW.weights, Tryd.underlying45, List.map_cons, List.map_nil, DataW.weightsEach, List.mem_append]
        exact Or.inr (Or.inl hy)
      obtain ⟨xs, hxs⟩ := open_args t1 hwi
      exact ⟨⟨s, xs⟩, by rw [c0, hs'], V1 i, c1, hxs⟩
    have : Inhabited Stp := ⟨⟨ByteArray.empty, []⟩⟩
    obtain ⟨f, hf⟩ := choose_lt each
    have hlen : ((List.range len).map f).length = len := by simp
    refine ⟨(List.range len).map f, ⟨some a, cap, by rw [hlen], by rw [hlen]; omega, ?_⟩, _, _, _, rfl, hlc, hcm⟩
    by_cases h0 : len = 0
    · subst h0
      exact Or.inl ⟨by simp, trivial⟩
    · obtain ⟨b, off, spot⟩ := a
      have hspot : spot = none := by simpa [Addr.add] using World.cell?_spot (hf 0 (by omega)).1
      subst hspot
      have hb : b < W.heap.size := by
        have := (hf 0 (by omega)).1
        rw [Nat.zero_mul] at this
        unfold World.cell? Addr.add at this
        cases hg : W.heap[b]? with
        | none => simp [hg] at this
        | some o => exact (Array.getElem?_eq_some_iff.1 hg).1
      refine Or.inr ⟨b, off, rfl, hb, trivial, fun i hi => ?_⟩
      rw [hlen] at hi
      obtain ⟨g0, va, g1, g2⟩ := hf i hi
      rw [Go.WideShapes.add_plain] at g0 g1
      simp only [List.getElem_map, List.getElem_range]
      exact ⟨g0, va, by rw [show off + i * 2 + 1 = off + (i * 2 + 1) by omega]; exact g1, g2⟩

set_option maxRecDepth 100000 in
/-- A proof that is handed in. -/
theorem open_proof2 {r : Reach} {b0 : Nat} {v : Value} {d : DataW H} {ps : List MemPlace} (hval : Value.okWide Tryd.prog W r b0 24 v) (h : DataW.Trod enc Tryd.prog W 0 (fun _ => true) true 24 v d ps) (hw : Within 24 d) : ∃ u ss, v = .agg #[u] ∧ IsSteps All W u ss ∧ Cap u := by
  simp only [Value.okWide, Tryd.underlying24] at hval
  obtain ⟨cs, rfl, hsz, _⟩ := hval
  rw [cells_proof] at hsz
  obtain ⟨u, rfl⟩ : ∃ u, cs = #[u] := Array.size_eq_one_iff.1 hsz
  obtain ⟨n, hn⟩ := h
  obtain ⟨y0, n', hx, _, ht⟩ := trod_struct1 Tryd.underlying24 hn
  simp only [Prod.mk.injEq] at hx
  obtain ⟨rfl, rfl⟩ := hx
  simp only [cells_steps, Value.cells, List.drop_zero, List.take_succ_cons, List.take_zero] at ht
  have hwy : Within 22 y0.1 := by
    intro y hy
    refine hw y ?_
    simp only [DataW.weights, Tryd.underlying24, List.map_cons, List.map_nil, DataW.weightsEach, List.mem_append]
    exact Or.inl hy
  obtain ⟨ss, hs, hc⟩ := open_steps ht hwy
  exact ⟨u, ss, rfl, hs, hc⟩

set_option maxRecDepth 100000 in
theorem open_proof {r : Reach} {b0 : Nat} {v : Value} {d : DataW H} {ps : List MemPlace} (hval : Value.okWide Tryd.prog W r b0 24 v) (h : DataW.Trod enc Tryd.prog W 0 (fun _ => true) true 24 v d ps) (hw : Within 24 d) : ∃ ss, IsProof All W v ss := by
  obtain ⟨u, ss, rfl, hs, _⟩ := open_proof2 hval h hw
  exact ⟨ss, u, rfl, hs⟩

theorem laid_out : laidOutB Tryd.prog = true := by kernel_rfl

/-- All arguments read as they did. -/
theorem trodAll_stays {W' : World} {sp : Nat → Bool} (hsame : ∀ p : MemPlace, p.block < W.heap.size → W.sameAt W' p) : ∀ {ts : List TypeId} {vs : List Value} {ds : List (DataW H)} {ps : List MemPlace}, (∀ t ∈ ts, Tryd.prog.readableRec t = true ∧ t < Tryd.prog.types.size) →
    DataW.TrodAll enc Tryd.prog W 0 (fun _ => true) true ts vs ds ps → (∀ p ∈ ps, p.block < W.heap.size) → (∀ p ∈ ps, sp p.block = true) → DataW.TrodAll enc Tryd.prog W' 0 sp true ts vs ds ps
  | [], vs, ds, ps, _, h, _, _ => by
    obtain ⟨rfl, rfl, rfl⟩ := trodAll_nil h
    exact trodAll_mk0
  | t :: ts, vs, ds, ps, ht, h, hlt, hsp => by
    obtain ⟨v, vs', d, ds', p, q, rfl, rfl, rfl, h1, h2⟩ := trodAll_cons h
    have ht1 := ht t (by simp)
    exact trodAll_cons_mk (WideElems.Trod_stays laid_out ht1.1 ht1.2 h1 (fun x hx => hsame x (hlt x (by simp [hx]))) fun x hx => hsp x (by simp [hx]))
      (trodAll_stays hsame (fun t h => ht t (by simp [h])) h2 (fun x hx => hlt x (by simp [hx])) fun x hx => hsp x (by simp [hx]))

set_option maxRecDepth 100000 in
/-- A LAW THAT RETURNS TRUE AND KEEPS ALL. -/
theorem law_post {f : Func} {s : ChangeSpec} {apart fresh handsOn again : Bool} {W' : World} {args : Array Value} {ds gs : List (DataW H)} {before : List MemPlace}
    (hW : DataW.Whole enc Tryd.prog f.params.toList s.vars apart W args.toList ds gs before) (hsv : s.vars = []) (hr : f.resultTypes = #[4]) (hfn : s.fn H ds = { results := [.lit (.bool true)], args := ds })
    (hts : ∀ t ∈ f.params.toList, Tryd.prog.readableRec t = true ∧ t < Tryd.prog.types.size) (hk : Keeps All W W') : s.post enc Tryd.prog f apart fresh handsOn again W args (.bool true) W' := by
  have hb : Below W.heap.size W W' := hk.below (Nat.le_refl _) fun _ _ => trivial
  have hW0 := hW
  obtain ⟨p, q, hA, hV, rfl, hz, hn⟩ := hW
  rw [hsv] at hV
  obtain ⟨rfl, rfl⟩ := trodVars_none hV
  have hlt : ∀ x ∈ p, x.block < W.heap.size := fun x hx => hW0.lt x (by simpa using hx)
  have hfn' : s.fn H (ds ++ []) = { results := [.lit (.bool true)], args := ds } := by rw [List.append_nil]; exact hfn
  have hres : ∀ (b : Nat) (sp : Nat → Bool) (hd : Bool), DataW.TrodAll enc Tryd.prog W' b sp hd f.resultTypes.toList ((Value.bool true).resultList f.resultTypes.size) (s.fn H (ds ++ [])).results [] := fun b sp hd => by
    rw [hr, hfn']
    exact trodAll_cons_mk (shut_bool Tryd.underlying4 true) trodAll_mk0
  have hargs : ∀ sp : Nat → Bool, (∀ x ∈ p, sp x.block = true) → DataW.TrodAll enc Tryd.prog W' 0 sp true f.params.toList args.toList (s.fn H (ds ++ [])).args p := fun sp hsp => by
    rw [hfn']
    exact trodAll_stays (fun x hx => hb.same hx) hts hA hlt hsp
  have hvars : ∀ sp : Nat → Bool, DataW.TrodVars enc Tryd.prog W' sp s.vars (s.fn H (ds ++ [])).vars [] := fun sp => by
    rw [hfn', hsv]
    rfl
  refine ⟨ds, [], p ++ [], [], p, [], hW0, hres _ _ _, hargs _ (fun x hx => by simpa using hlt x hx), hvars _, hb.frame _, fun _ => ?_⟩
  refine ⟨ok_one hr rfl (okWide_bool_mk Tryd.underlying4 _), _, _, ([] ++ p) ++ [], ⟨[] ++ p, [], trodAll_append (hargs _ (fun _ _ => rfl)) (hres _ _ _), hvars _, rfl, ?_, ?_⟩, ?_⟩
  · intro b off hp
    have hp' : MemPlace.cell b off ∈ p := by simpa using hp
    have h1 := hz b off (by simpa using hp')
    rw [hb.frozen (p := ⟨b, off, none⟩) (hlt _ hp')]
    exact h1
  · intro ha
    simpa using hn ha
  · intro x hx _
    simpa using hx

end
end Go.Proofs.YtcbmljfgmeeadaaDoor
