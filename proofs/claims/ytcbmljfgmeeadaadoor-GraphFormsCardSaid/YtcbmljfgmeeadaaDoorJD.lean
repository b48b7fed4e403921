/-
  TEXTS IN A SLICE; slices.Values at texts: it hands them in order.
  CONTRACTS: slices.AppendSeq, Collect at texts.
-/
import Derived.Test.YtcbmljfgmeeadaaDoorJP
import Derived.Test.YtcbmljfgmeeadaaDoorSeq
import Derived.Laws.EntriesVeiled
import Derived.Test.YtcbmljfgmeeadaaDoorOwnIn
import Derived.Test.YtcbmljfgmeeadaaDoorReg
namespace Go.Proofs.YtcbmljfgmeeadaaDoor
open Go.RowKit Go.Shelf

attribute [local go_sem] Oper.semAt_some

/-- A slice value whose cells, in blocks that S names, hold the texts xs. -/
def IsStrs (S : Nat → Prop) (w : World) (v : Value) (xs : List ByteArray) : Prop :=
  ∃ a cap, v = .slice a xs.length cap ∧ xs.length ≤ 140737488351232 ∧
    ((xs = [] ∧ True) ∨ ∃ b off, a = some ⟨b, off, none⟩ ∧ b < w.heap.size ∧ S b ∧ ∀ i (h : i < xs.length), w.cell? ⟨b, off + i, none⟩ = some (.string xs[i]))

theorem IsStrs.keep {S T : Nat → Prop} {w w' : World} {v : Value} {xs : List ByteArray} (h : IsStrs S w v xs) (hk : Keeps T w w') (hs : ∀ k, k < w.heap.size → S k → T k) : IsStrs S w' v xs := by
  obtain ⟨a, cap, hv, hl, h⟩ := h
  refine ⟨a, cap, hv, hl, ?_⟩
  rcases h with h | ⟨b, off, ha, hB, hS, hc⟩
  · exact Or.inl h
  · exact Or.inr ⟨b, off, ha, by have := hk.size; omega, hS, fun i hi => hk.cell (hs _ hB hS) (hc i hi)⟩

theorem IsStrs.sub {S T : Nat → Prop} {w : World} {v : Value} {xs : List ByteArray} (h : IsStrs S w v xs) (hs : ∀ k, k < w.heap.size → S k → T k) : IsStrs T w v xs := by
  obtain ⟨a, cap, hv, hl, h⟩ := h
  refine ⟨a, cap, hv, hl, ?_⟩
  rcases h with h | ⟨b, off, ha, hB, hS, hc⟩
  · exact Or.inl h
  · exact Or.inr ⟨b, off, ha, hB, hs _ hB hS, hc⟩

theorem IsStrs.form {S : Nat → Prop} {w : World} {v : Value} {xs : List ByteArray} (h : IsStrs S w v xs) : ∃ a c, v = .slice a xs.length c := by
  obtain ⟨a, c, hv, _⟩ := h
  exact ⟨a, c, hv⟩
theorem IsStrs.at {S : Nat → Prop} {w : World} {a : Option Addr} {n c : Nat} {xs : List ByteArray} (h : IsStrs S w (.slice a n c) xs) {k : Nat} (hk : k < xs.length) : ∃ b off, a = some ⟨b, off, none⟩ ∧ w.cell? ⟨b, off + k, none⟩ = some (.string xs[k]) := by
  obtain ⟨_, _, he, _, h⟩ := h
  cases he
  rcases h with ⟨h, _⟩ | ⟨b, off, rfl, _, _, hc⟩
  · rw [h] at hk; simp at hk
  · exact ⟨b, off, rfl, hc k hk⟩

theorem Values_c (a : Option Addr) (n c : Nat) (w : World) :
    Calls Tryd.prog 60 #[.slice a n c] w fun e w' => e = .returned (.func (.func 67) #[] #[.pointer (some ⟨w.heap.size, 0, none⟩)]) ∧ w.alloc (.cells #[.slice a n c] 36) = w' := by
  go_enter Tryd.func60, Tryd.ntmps60
  go_wp2
  go_ret
  exact ⟨rfl, rfl⟩

theorem eg_Values1 : ∀ args w, (callFunc 67 args).run Tryd.prog w = .ok (.enter 67 args) w := enters_of Tryd.func67 (by kernel_rfl) rfl

set_option maxHeartbeats 1000000 in
theorem Values1_seq (xs : List ByteArray) (pb : Nat) (Prot : Nat → Prop) (w : World)
    (hd : ∃ u, w.cell? ⟨pb, 0, none⟩ = some u ∧ IsStrs Prot w u xs) :
    SeqAll Tryd.prog 67 #[.pointer (some ⟨pb, 0, none⟩)] (fun x : ByteArray => .string x) Prot 0 xs w := by
  intro n l J W hW hJ hY h0
  have hsz := hW.size
  obtain ⟨u, c1, hu⟩ := hd
  have c1' : W.cell? ⟨pb, 0, none⟩ = some u := hW.cell (p := ⟨pb, 0, none⟩) trivial c1
  have hu' : IsStrs Prot W u xs := hu.keep hW fun _ _ _ => trivial
  obtain ⟨a, cap, rfl, hl, hx⟩ := hu
  clear hx c1 hJ
  have HY := hid hY
  have HJ0 := hid h0
  clear hY h0
  refine callsIn_of_wp Tryd.func67 rfl trivial ?_ rfl
  simp only [Tryd.ntmps67, List.size_toArray, List.length_cons, List.length_nil, Nat.reduceAdd, Nat.reduceSub, Array.replicate_succ, Array.replicate_zero, List.push_toArray, List.append_toArray, List.nil_append, List.cons_append]
  gi_wp2
  gi_loopw [4, 7] (fun i4 iv wr => ∃ k : Nat, k ≤ xs.length ∧ iv = .int .i64 k ∧ J (xs.take k) wr ∧ Keeps Prot W wr) (fun _ iv _ => xs.length - (intOf iv).toNat)
  case atStart => exact ⟨0, Nat.zero_le _, rfl, by simpa using HJ0.out, Keeps.refl _ _⟩
  case round =>
    obtain ⟨k, hk, rfl, hj, hkw⟩ := hrel
    by_cases hlt : k < xs.length
    · obtain ⟨b, off, rfl, d1⟩ := (hu'.keep hkw fun _ _ h => h).at hlt
      have hy := HY.out (n - 1) (xs.take k) xs[k] wr hj (by rw [← List.take_succ_eq_append_getElem hlt]; exact List.take_prefix _ _) (by have := hkw.size; omega)
      have hnext := hid (List.take_succ_eq_append_getElem hlt)
      obtain ⟨fn, tmps, assign, body, hy, hR⟩ := hy
      generalize xs[k] = x at *
      gi_wp2
      refine ⟨fun h => by simp [Fence.wide] at h, ?_⟩
      refine hR.mono ?_
      clear hR
      rintro e w2 ⟨rfl, hj2, hk2⟩
      gi_wp2
      go_roundw
      case rel => exact ⟨k + 1, by omega, by go_num, by rw [hnext.out]; exact hj2, hkw.trans (hk2.sub fun _ _ h => Or.inl h)⟩
      case measure => simp [intOf]; omega
    · obtain rfl : k = xs.length := by omega
      rw [List.take_length] at hj
      gi_wp2
      go_end0
      exact ⟨⟨_, rfl⟩, hj⟩

end Go.Proofs.YtcbmljfgmeeadaaDoor

namespace Go.Proofs.YtcbmljfgmeeadaaDoor
open Go.RowKit Go.Shelf

attribute [local go_sem] Oper.semAt_some

theorem info_string : (Tryd.prog.info? 9).map (fun i => (i.zero, i.size, i.bytes)) = some (some (.string ⟨#[]⟩), 1, 16) := by kernel_rfl

def strs (xs : List ByteArray) : List Value := xs.map Value.string

/-- What AppendSeq keeps from round to round. -/
structure PInv (w : World) (pre : List ByteArray) (W : World) : Prop where
  keep : Keeps All w W
  size : w.heap.size + 1 ≤ W.heap.size
  out : ∃ v, IsRow W w.heap.size 36 [v] ∧ W.ownsRow (w.heap.size + 3) 9 1 v pre.length (strs pre)

set_option maxHeartbeats 1000000 in
theorem AppendSeq_c (xs : List ByteArray) (pb : Nat) (w : World) (hd : ∃ u, w.cell? ⟨pb, 0, none⟩ = some u ∧ IsStrs (fun k => k < w.heap.size) w u xs) (hlen : xs.length ≤ 2000) :
    Calls Tryd.prog 71 #[.slice none 0 0, .func (.func 67) #[] #[.pointer (some ⟨pb, 0, none⟩)]] w fun e w' => ∃ v, e = .returned v ∧ w'.ownsRow (w.heap.size + 3) 9 1 v xs.length (strs xs) ∧ Keeps All w w' := by
  have hk0 : Keeps All w (w.alloc (.cells #[.slice none 0 0] 36)) := (Keeps.refl _ _).alloc _
  have hseq := Values1_seq xs pb (fun k => k < w.heap.size) (w.alloc (.cells #[.slice none 0 0] 36)) (by
    obtain ⟨u, h1, h2⟩ := hd
    exact ⟨u, hk0.cell (p := ⟨pb, 0, none⟩) trivial h1, h2.keep hk0 fun _ _ _ => trivial⟩)
  have Hseq := hid hseq
  clear hd hseq
  refine (callsIn_wide (n := 5)).1 ?_
  refine callsIn_of_wp_marks Tryd.func71 rfl trivial ?_ rfl
  simp only [Tryd.ntmps71, List.size_toArray, List.length_cons, List.length_nil, Nat.reduceAdd, Nat.reduceSub, Array.replicate_succ, Array.replicate_zero, List.push_toArray, List.append_toArray, List.nil_append, List.cons_append]
  gi_wp2
  refine wpIn_rangeFunc_f (fun T v => (T.setIfInBounds 7 v).setIfInBounds 5 v) (gf := 67) (lb := #[.pointer (some ⟨pb, 0, none⟩)]) rfl eg_Values1 Hseq.out rfl (PInv w) ?hI ?h0 ?assign ?body ?hProt ?done
  case hProt => intro k hk; simp; omega
  case hI =>
    intro pre A B h hA hk
    obtain ⟨v, h1, h2⟩ := h.out
    have := h.size
    simp at hA hk
    exact ⟨h.keep.upto hk fun k hlt => by omega, by have := hk.size; omega, v, h1.keep hk (by omega), owns_keep h2 hk fun q e => by have := (h2.lt q e).1; omega⟩
  case h0 => exact ⟨hk0, by simp, .slice none 0 0, IsRow.new _ _ _, World.ownsRow_nil _ _ _ _⟩
  case assign =>
    intro m l x W K hK
    gi_wp2
    exact hK
  case body =>
    intro m l pre x W hI hpre hsz
    have hpl : pre.length < 2000 := by
      have h1 := hpre.length_le
      simp at h1
      omega
    obtain ⟨v, hb, hr⟩ := hI.out
    obtain ⟨a3, c3, rfl⟩ := owns_form hr
    obtain ⟨d0, d1⟩ := hb.one
    have Hr := hid hr
    obtain ⟨i0, hi0, hz0, hz1, hz2⟩ := info_parts info_string
    have hsz2 : w.heap.size + 3 ≤ W.heap.size := by simp at hsz; omega
    clear hr
    simp only [List.setIfInBounds_toArray, List.set_cons_succ, List.set_cons_zero]
    gi_wp2_with (gi_at_builtin; refine Hid.out ?_)
    refine hid ?_
    have hk1 : Keeps All W (W.alloc (.cells #[.string x] 9)) := (Keeps.refl _ _).alloc _
    have rt : IsRow (W.alloc (.cells #[.string x] 9)) W.heap.size 9 [.string x] := IsRow.new _ _ _
    obtain ⟨t0, _⟩ := rt.one
    have hr1 := owns_keep Hr.out hk1 fun _ _ => trivial
    have hlt1 := hid (fun q (e : (Value.slice a3 pre.length c3).ownBlock = some q) => Hr.out.lt q e)
    refine wpListIn_append_where _ rfl (.tmp 8) (.tmp 10) 36 rfl (w.heap.size + 3) 9 i0 _ 1 16 Tryd.underlying36 hi0 hz0 hz1 hz2 rfl (by decide) _ _ _ rfl hr1 ⟨W.heap.size, 0, none⟩ 1 1 [.string x] rfl rfl ?c1 ?c2 ?c3 ?c4 ?c5 ?_
    case c1 =>
      intro j u hu
      have hadd : (⟨W.heap.size, 0, none⟩ : Addr).add j = ⟨W.heap.size, j, none⟩ := by unfold Addr.add; split <;> simp_all
      rw [hadd]
      rcases j with _ | j
      · simp at hu; subst hu; exact t0
      · simp at hu
    case c2 => intro u hu; simp at hu; subst hu; rfl
    case c3 => unfold maxLen; omega
    case c4 => omega
    case c5 => simp; omega
    intro v' w3 hown3 hg3 hw3
    obtain ⟨g', cap', rfl⟩ := ownsRow_succ hown3
    have hkw : Keeps (fun q => (Value.slice a3 pre.length c3).ownBlock ≠ some q) (W.alloc (.cells #[.string x] 9)) w3 := ⟨hg3.os, hg3.tape, hg3.output, hg3.size, fun q hlt hs => hg3.block q hlt (fun e => hs e.symm)⟩
    have hlow : ∀ q, q < w.heap.size + 3 → (Value.slice a3 pre.length c3).ownBlock ≠ some q := fun q hq e => by have := (hlt1.out q e).1; omega
    have rb3 := (hb.keep hk1 trivial).keep hkw (hlow _ (by omega))
    obtain ⟨g1, g2⟩ := rb3.one
    have Hown := hid hown3
    have hkb : Keeps (fun q => q ≠ w.heap.size) w3 (w3.setCell ⟨w.heap.size, 0, none⟩ (.slice (some ⟨g', 0, none⟩) (pre.length + 1) cap')) := (Keeps.refl _ _).setCell (fun _ hn => hn rfl) _
    have hs3 := hkw.size
    simp at hs3
    clear hown3
    simp only [Act.put, List.setIfInBounds_toArray, List.set_cons_succ, List.set_cons_zero]
    gi_wp2
    refine ⟨⟨((hI.keep.trans hk1).upto hkw fun q hq => hlow q (by omega)).upto hkb fun q hq => by omega, by have := hkb.size; omega, _, rb3.set 0 _, ?_⟩, ?_⟩
    · have h := owns_keep Hown.out hkb fun q e => by have := (Hown.out.lt q e).1; omega
      rw [List.length_append]
      simpa [strs] using h
    · refine ((hk1.sub fun _ _ _ => trivial).trans (hkw.sub fun q _ hq => ?_)).trans (hkb.sub fun q _ hq => ?_)
      · simp at hq; exact hlow q (by omega)
      · simp at hq; omega
  case done =>
    intro D W hD hI hdef
    obtain ⟨v, hb, hr⟩ := hI.out
    obtain ⟨a3, c3, rfl⟩ := owns_form hr
    obtain ⟨d0, d1⟩ := hb.one
    have Hr := hid hr
    clear hr
    gi_wp2
    have hkp : Keeps (fun k => k ≠ D) W (W.putObj D (.deferred none)) := keeps_put (Keeps.refl _ _) (fun hn => hn rfl) _
    refine ⟨by simp, .inl ⟨_, _, rfl, run_takeDeferred hdef, ?_⟩⟩
    refine ⟨.slice a3 xs.length c3, by simp [results, Tryd.results71], _, rfl, ?_, ?_⟩
    · exact owns_keep Hr.out hkp fun q e => by have := (Hr.out.lt q e).1; simp at hD; omega
    · exact hI.keep.upto hkp fun k hk => by simp at hD; omega

theorem Collect_c (xs : List ByteArray) (pb : Nat) (w : World) (hd : ∃ u, w.cell? ⟨pb, 0, none⟩ = some u ∧ IsStrs (fun k => k < w.heap.size) w u xs) (hlen : xs.length ≤ 2000) :
    Calls Tryd.prog 65 #[.func (.func 67) #[] #[.pointer (some ⟨pb, 0, none⟩)]] w fun e w' => ∃ v, e = .returned v ∧ w'.ownsRow (w.heap.size + 3) 9 1 v xs.length (strs xs) ∧ Keeps All w w' := by
  have hcall := AppendSeq_c xs pb w hd hlen
  clear hd
  go_enter Tryd.func65, Tryd.ntmps65
  go_wp2_with (go_at_call 71; refine Hid.out ?_)
  refine hid ?_
  refine hcall.mono ?_
  clear hcall
  rintro e w1 ⟨v, rfl, hown, hk⟩
  obtain ⟨a, c, rfl⟩ := owns_form hown
  have Hown := hid hown
  clear hown
  go_wp2
  go_ret
  exact ⟨_, rfl, Hown.out, hk⟩

end Go.Proofs.YtcbmljfgmeeadaaDoor
