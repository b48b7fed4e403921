/-
  CONTRACT: keyOf: a step's key: its label, and its Args' numerals.
-/
import Derived.Test.YtcbmljfgmeeadaaDoorBld
import Derived.Test.YtcbmljfgmeeadaaDoorJP
import Derived.Test.YtcbmljfgmeeadaaDoorReg
import Derived.Test.YtcbmljfgmeeadaaDoorOwn
import Derived.Test.YtcbmljfgmeeadaaDoorShelf
import Derived.Lib.ItoaLen
import Derived.LoopNIn
import Derived.LoopIn
namespace Go.Proofs.YtcbmljfgmeeadaaDoor
open Go.RowKit Go.Shelf

/-- The library's table of powers of ten lies as its text says. -/
def Tab (w : World) : Prop := Lib.TabIs Tryd.prog w "internal/strconv.uint64pow10" .u64 Lib.pow10Tab

theorem Holds.keep {lo b : Nat} {l : List UInt8} {w w' : World} (h : Holds lo b l w) (hk : Keeps All w w') : Holds lo b l w' := by
  have hg : w.grownBy w' none := ⟨hk.os, hk.tape, hk.output, hk.size, fun k hlt _ => hk.block k hlt trivial⟩
  have key : ∀ p, Lib.BuilderAtF 96 5 lo b p (Lib.byteCells l) w → Lib.BuilderAtF 96 5 lo b p (Lib.byteCells l) w' := by
    rintro p ⟨hB, v, hb, hown, hne⟩
    exact ⟨hB, v, (hk.block b (Array.getElem?_eq_some_iff.1 hb).1 trivial).trans hb, hown.kept hg (by cases hv : v.ownBlock <;> simp), hne⟩
  exact h.imp (key _) (key _)

theorem Tab.keep {w w' : World} (h : Tab w) (hk : Keeps All w w') : Tab w' := by
  unfold Tab Lib.TabIs World.var? at h ⊢
  cases hg : Tryd.prog.globalNamed "internal/strconv.uint64pow10" with
  | none => rw [hg] at h; simp at h
  | some g =>
    rw [hg] at h
    simp only [Option.bind_some] at h ⊢
    have hlt : g < w.heap.size := by
      rcases Nat.lt_or_ge g w.heap.size with h' | h'
      · exact h'
      · simp [Array.getElem?_eq_none h'] at h
    rw [hk.block g hlt trivial]; exact h

theorem Itoa_c (n : Int) (h0 : -9223372036854775808 ≤ n) (h1 : n ≤ 9223372036854775807) (w : World) (h : Tab w) :
    Calls Tryd.prog 69 #[.int .i64 n] w fun e w' => e = .returned (.string ⟨(Lib.itoa n).toArray⟩) ∧ Keeps All w w' := by
  refine (Tryd.strconv_Itoa n h0 h1 w h).mono ?_
  rintro e w' ⟨rfl, k, os, rfl⟩
  refine ⟨rfl, ⟨rfl, rfl, rfl, by simp [Go.Sort.grow, World.drewN], fun i hi _ => ?_⟩⟩
  show (w.heap ++ os)[i]? = w.heap[i]?
  rw [Array.getElem?_append_left hi]

/-- The Args as one text: each numeral and a blank. -/
def keyStr (args : List Int) : List UInt8 := args.flatMap fun a => Lib.itoa a ++ [32]

theorem keyStr_snoc (l : List Int) (a : Int) : keyStr (l ++ [a]) = keyStr l ++ (Lib.itoa a ++ [32]) := by simp [keyStr]
theorem keyStr_length : ∀ (l : List Int), (∀ a ∈ l, -9223372036854775808 ≤ a ∧ a ≤ 9223372036854775807) → (keyStr l).length ≤ 22 * l.length
  | [], _ => by simp [keyStr]
  | a :: l, h => by
    have ih := keyStr_length l (fun b hb => h b (List.mem_cons_of_mem _ hb))
    have h1 := Lib.itoa_length_le a (h a (List.mem_cons_self ..)).1 (h a (List.mem_cons_self ..)).2
    simp only [keyStr, List.flatMap_cons, List.length_append, List.length_cons, List.length_nil] at ih ⊢
    omega

/-- The return statement's region. -/
def KeyReg (n0 : Nat) (lab : ByteArray) (ks : List UInt8) (T : Array Value) (W0 : World) (c : Nat → Bool) (a' : Act) (w' : World) : Prop :=
  a' = Act.mk (sIs T [(c 0, 18, .pointer (some ⟨n0, 0, none⟩)), (c 1, 19, .string lab), (c 2, 20, .string ⟨ks.toArray⟩), (c 3, 21, .agg #[.string lab, .string ⟨ks.toArray⟩])]) [] ∧
    Keeps (fun b => b < n0 + 1) W0 w' ∧ (c 2 = false → Holds (n0 + 2) (n0 + 2) ks w') ∧ (∃ x y, IsRow w' (n0 + 1) 88 [.string x, .string y]) ∧ (c 4 = true → IsRow w' (n0 + 1) 88 [.string lab, .string ⟨ks.toArray⟩]) ∧ (c 4 = true → c 2 = true)

set_option maxHeartbeats 1000000 in
theorem keyOf_c (s : Stp) (v : Value) (w : World) (hv : IsStep All w v s) (hlen : s.args.length ≤ 40) (htab : Tab w) :
    Calls Tryd.prog 64 #[v] w fun e w' => e = .returned (.agg #[.string s.label, .string ⟨(keyStr s.args).toArray⟩]) ∧ Keeps All w w' := by
  obtain ⟨va, rfl, hva⟩ := hv
  have hva' := hva
  obtain ⟨a, cap, rfl, hl, hx, h⟩ := hva
  clear h
  have Hx := hid hx
  have Ht := hid htab
  clear hx htab
  refine (callsIn_wide (n := 5)).1 ?_
  refine callsIn_of_wp Tryd.func64 rfl trivial ?_ rfl
  simp only [Tryd.ntmps64, List.size_toArray, List.length_cons, List.length_nil, Nat.reduceAdd, Nat.reduceSub, Array.replicate_succ, Array.replicate_zero, List.push_toArray, List.append_toArray, List.nil_append, List.cons_append]
  gi_wp2
  gi_loopw [5, 9] (fun _ iv wr => ∃ k : Nat, k ≤ s.args.length ∧ iv = .int .i64 k ∧ Keeps All w wr ∧ IsRow wr w.heap.size 45 [.string s.label, .slice a s.args.length cap] ∧ IsRow wr (w.heap.size + 1) 88 [.string ⟨#[]⟩, .string ⟨#[]⟩] ∧
    Holds (w.heap.size + 2) (w.heap.size + 2) (keyStr (s.args.take k)) wr) (fun _ iv _ => s.args.length - (intOf iv).toNat)
  case atStart =>
    refine ⟨0, Nat.zero_le _, rfl, by repeat (first | exact Keeps.refl _ _ | refine Keeps.alloc ?_ _), ?_, ?_, ?_⟩
    · repeat (first | (refine IsRow.newAt ?_; (simp; done)) | refine IsRow.alloc ?_ _)
    · repeat (first | (refine IsRow.newAt ?_; (simp; done)) | refine IsRow.alloc ?_ _)
    · refine Or.inl ⟨Nat.le_refl _, .slice none 0 0, ?_, ⟨by rfl, Or.inl ⟨rfl, rfl⟩⟩, by simp [Value.ownBlock]⟩
      exact (show IsRow _ (w.heap.size + 2) 96 [.pointer none, .slice none 0 0] from IsRow.newAt (by simp))
  case round =>
    obtain ⟨k, hk, rfl, hkw, hr0, hr1, hb⟩ := hrel
    by_cases hlt : k < s.args.length
    · have hxk := Hx.out _ (List.getElem_mem hlt)
      have hcell : ∃ b off, a = some ⟨b, off, none⟩ ∧ wr.cell? ⟨b, off + k, none⟩ = some (.int .i64 s.args[k]) := by
        obtain ⟨_, _, he, _, _, h⟩ := hva'
        cases he
        rcases h with ⟨h, _⟩ | ⟨b, off, rfl, hB, _, hc⟩
        · rw [h] at hlt; simp at hlt
        · exact ⟨b, off, rfl, hkw.cell (p := ⟨b, off + k, none⟩) trivial (hc k hlt)⟩
      have hnext : Hid (keyStr (s.args.take (k + 1)) = keyStr (s.args.take k) ++ (Lib.itoa s.args[k] ++ [32])) := by
        show _ = _
        rw [List.take_succ_eq_append_getElem hlt, keyStr_snoc]
      have hkl : (keyStr (s.args.take k)).length ≤ 1000 := by
        have h1 := keyStr_length (s.args.take k) (fun b hb => Hx.out b (List.mem_of_mem_take hb))
        have h2 : (s.args.take k).length ≤ 40 := by rw [List.length_take]; omega
        omega
      have hil := Lib.itoa_length_le s.args[k] hxk.1 hxk.2
      have hit := Itoa_c s.args[k] hxk.1 hxk.2 wr (Ht.out.keep hkw)
      have HB := hid hb
      clear hb
      obtain ⟨b, off, rfl, c1⟩ := hcell
      have l1 := hr0.lt
      have l2 := hr1.lt
      gi_wp2
      refine ⟨trivial, ?_⟩
      refine (callsIn_wide.2 hit).mono ?_
      clear hit
      rintro e w1 ⟨rfl, hk1⟩
      gi_wp2
      refine ⟨trivial, ?_⟩
      have hcat : ((⟨(Lib.itoa s.args[k]).toArray⟩ : ByteArray) ++ ⟨#[32]⟩).data.toList = Lib.itoa s.args[k] ++ [32] := by simp
      have hsz : ((⟨(Lib.itoa s.args[k]).toArray⟩ : ByteArray) ++ ⟨#[32]⟩).size = (Lib.itoa s.args[k]).length + 1 := by
        rw [← ByteArray.size_data, ← Array.length_toList, hcat]; simp
      have hws := WriteString_c (w.heap.size + 2) (w.heap.size + 2) (keyStr (s.args.take k)) (⟨(Lib.itoa s.args[k]).toArray⟩ ++ ⟨#[32]⟩) w1 (HB.out.keep hk1) (by omega) (by have := hkw.size; have := hk1.size; omega)
      rw [hcat] at hws
      have hsz' := hid hsz
      clear hsz hcat
      refine (callsIn_wide.2 hws).mono ?_
      clear hws
      rintro e w2 ⟨rfl, hb2, hbl⟩
      gi_wp2
      go_roundw
      case rel =>
        have hk2 : Keeps (· < w.heap.size + 2) w1 w2 := Keeps.of_below hbl
        exact ⟨k + 1, by omega, by go_num, (hkw.trans hk1).upto hk2 (fun k hk => by omega), (hr0.keep hk1 trivial).keep hk2 (by omega), (hr1.keep hk1 trivial).keep hk2 (by omega), by rw [hnext.out]; exact hb2⟩
      case measure => simp [intOf]; omega
    · obtain rfl : k = s.args.length := by omega
      rw [List.take_length] at hb
      obtain ⟨c0, c0', _, _⟩ := hr0.two
      obtain ⟨c1, c1', c2, c2'⟩ := hr1.two
      have hst := fun (W : World) (h : Holds (w.heap.size + 2) (w.heap.size + 2) (keyStr s.args) W) (hs : w.heap.size + 2 ≤ W.heap.size) => Tryd.Builder_String_any_f (w.heap.size + 2) (w.heap.size + 2) (keyStr s.args) W h hs
      have hsz : w.heap.size + 2 ≤ wr.heap.size := hr1.lt
      gi_wp2
      refine wpIn_region_inv (KeyReg w.heap.size s.label (keyStr s.args)) mixed (by kernel_rfl) ?start ⟨?o0, ?o1, ?o2, ?o3, ?o4, trivial⟩ ?fin
      case start => exact ⟨by simp only [sIs_nil, sIs_cons, sI_false], (Keeps.refl _ _).drew, fun _ => hb, ⟨_, _, hr1⟩, fun h => (by cases h), fun h => (by cases h)⟩
      case o0 =>
        rintro b' a' w' hb hd ⟨rfl, hk, hh, hx, h4, h42⟩
        simp only [sIs_nil, sIs_cons, sI_lit, lset_zero, lset_succ]
        gi_wp2
        exact ⟨by simp [sIs_nil, sIs_cons, sI_lit, lset_zero, lset_succ, mark], hk, fun h => hh (mark_false h), hx, fun h => h4 (mark_of (by decide) h), fun h => mark_mono _ (h42 (mark_of (by decide) h))⟩
      case o1 =>
        rintro b' a' w' hb hd ⟨rfl, hk, hh, hx, h4, h42⟩
        simp [Region.binds] at hd
        have f1 : w'.cell? ⟨w.heap.size, 0, none⟩ = some (.string s.label) := hk.cell (p := ⟨w.heap.size, 0, none⟩) (by show w.heap.size < _; omega) c0
        simp only [sIs_nil, sIs_cons, sI_lit, lset_zero, lset_succ]
        gi_wp2
        exact ⟨by simp [sIs_nil, sIs_cons, sI_lit, lset_zero, lset_succ, mark, hd], hk, fun h => hh (mark_false h), hx, fun h => h4 (mark_of (by decide) h), fun h => mark_mono _ (h42 (mark_of (by decide) h))⟩
      case o2 =>
        rintro b' a' w' hb hd ⟨rfl, hk, hh, ⟨x, y, hx⟩, h4, h42⟩
        have hcall := hst w' (hh hb) (by have := hk.size; omega)
        simp only [sIs_nil, sIs_cons, sI_lit, lset_zero, lset_succ]
        gi_wp2
        refine ⟨trivial, ?_⟩
        refine (callsIn_wide.2 hcall).mono ?_
        clear hcall
        rintro e w3 ⟨rfl, hb3, hbl3⟩
        gi_wp2
        have hk3 : Keeps (· < w.heap.size + 2) w' w3 := Keeps.of_below hbl3
        have h4f : b' 4 = false := by
          cases h : b' 4 with
          | false => rfl
          | true => rw [h42 h] at hb; cases hb
        exact ⟨by simp [sIs_nil, sIs_cons, sI_lit, lset_zero, lset_succ, mark], hk.trans (hk3.sub fun k _ h => by omega), fun h => by simp [mark] at h, ⟨x, y, hx.keep hk3 (by omega)⟩, fun h => by simp [mark, h4f] at h, fun _ => by simp [mark]⟩
      case o3 =>
        rintro b' a' w' hb hd ⟨rfl, hk, hh, hx, h4, h42⟩
        simp [Region.binds] at hd
        simp only [sIs_nil, sIs_cons, sI_lit, lset_zero, lset_succ]
        gi_wp2
        exact ⟨by simp [sIs_nil, sIs_cons, sI_lit, lset_zero, lset_succ, mark, hd], hk, fun h => hh (mark_false h), hx, fun h => h4 (mark_of (by decide) h), fun h => mark_mono _ (h42 (mark_of (by decide) h))⟩
      case o4 =>
        rintro b' a' w' hb hd ⟨rfl, hk, hh, ⟨x, y, hx⟩, h4, h42⟩
        simp [Region.binds] at hd
        obtain ⟨f1, f2, f3, f4⟩ := hx.two
        simp only [sIs_nil, sIs_cons, sI_lit, lset_zero, lset_succ]
        gi_wp2
        exact ⟨by simp [sIs_nil, sIs_cons, sI_lit, lset_zero, lset_succ, mark, hd], (hk.setCell (fun _ (h : w.heap.size + 1 < w.heap.size + 1) => absurd h (by omega)) _).setCell (fun _ (h : w.heap.size + 1 < w.heap.size + 1) => absurd h (by omega)) _, fun h => by simp [mark, hd] at h,
          ⟨_, _, (hx.set 0 (.string s.label)).set 1 (.string ⟨(keyStr s.args).toArray⟩)⟩, fun _ => (hx.set 0 (.string s.label)).set 1 (.string ⟨(keyStr s.args).toArray⟩), fun _ => mark_mono _ (by simp [hd])⟩
      case fin =>
        rintro b' a' w' hb ⟨rfl, hk, hh, hx, h4, h42⟩
        have e0 := hb 0 (by decide)
        have e1 := hb 1 (by decide)
        have e2 := hb 2 (by decide)
        have e3 := hb 3 (by decide)
        have k2 := (h4 (hb 4 (by decide))).two
        clear hb
        simp only [sIs_nil, sIs_cons, sI_lit, lset_zero, lset_succ, e0, e1, e2, e3, cond_true]
        gi_wp2
        refine bodyPost_ret (v := .agg #[.string s.label, .string ⟨(keyStr s.args).toArray⟩]) (by simp [results, Tryd.results64, go_sem, k2]) rfl ⟨rfl, ?_⟩
        exact hkw.upto hk fun k hk => by omega

end Go.Proofs.YtcbmljfgmeeadaaDoor
