/-
  DERIVED: THE SHELF's CONTRACTS AT THIS DUMP, IN PLAIN WORDS (tools/lay-plain.mjs out of 'TryzShelf.lean', which tools/lay-shelf.mjs wrote): THE SAME DECLARATIONS UNDER THE SAME NAMES: 'import', 'namespace', 'open', 'def', 'theorem' AND NOTHING ELSE: no command of the shelf's: FOR A HAND-IN. Each laying: the table of numbers ('.._ren') and one theorem, a field a fact of the dump's own or the kernel's comparison; each contract: ONE APPLICATION.
  A PROOF THAT IS RIGHT STAYS SO, IF MORE MAY BE DISJOINT (plain).
  THE VERDICT OF A THEOREM THAT MAY USE MORE DISJOINTNESS (plain).
-/
import Derived.Shelf.Sort.Plain
import Derived.Ground.Names2Prog
import Derived.Shelf.Slices.Clone
import Derived.Shelf.Slices.In.SortNone
import Derived.Ground.SlgnProg
import Derived.Shelf.SlicesE.Clone
import Derived.Test.YtgifeodnngodiaaGreatDoorPAD
namespace Go.Proofs
open Go.Shelf
def Tryz.lays190_ren : Go.Shelf.Ren := ⟨fun | 190 => 24 | 125 => 43 | 258 => 42 | 128 => 66 | 129 => 67 | 302 => 57 | 303 => 58 | 304 => 59 | 305 => 60 | 306 => 61 | 307 => 62 | 308 => 63 | 309 => 64 | 310 => 65 | 333 => 87 | 329 => 88 | 330 => 89 | 334 => 90 | 335 => 91 | 336 => 92 | 344 => 117 | n => n, fun | 31 => 22 | 9 => 9 | 3 => 3 | 46 => 81 | 0 => 0 | 51 => 103 | 53 => 105 | 4 => 4 | 183 => 95 | 182 => 94 | 131 => 100 | 5 => 5 | 218 => 129 | 222 => 133 | 228 => 160 | 229 => 161 | n => n, fun | n => n⟩
theorem Tryz.lays190 : Go.Proofs.Lays.n190 Tryz.prog Tryz.lays190_ren := {
 mixed := by kernel_rfl
 f125 := Tryz.func43.trans (congrArg some (by kernel_rfl))
 f128 := Tryz.func66.trans (congrArg some (by kernel_rfl))
 f129 := Tryz.func67.trans (congrArg some (by kernel_rfl))
 f190 := Tryz.func24.trans (congrArg some (by kernel_rfl))
 f258 := Tryz.func42.trans (congrArg some (by kernel_rfl))
 f302 := Tryz.func57.trans (congrArg some (by kernel_rfl))
 f303 := Tryz.func58.trans (congrArg some (by kernel_rfl))
 f304 := Tryz.func59.trans (congrArg some (by kernel_rfl))
 f305 := Tryz.func60.trans (congrArg some (by kernel_rfl))
 f306 := Tryz.func61.trans (congrArg some (by kernel_rfl))
 f307 := Tryz.func62.trans (congrArg some (by kernel_rfl))
 f308 := Tryz.func63.trans (congrArg some (by kernel_rfl))
 f309 := Tryz.func64.trans (congrArg some (by kernel_rfl))
 f310 := Tryz.func65.trans (congrArg some (by kernel_rfl))
 f329 := Tryz.func88.trans (congrArg some (by kernel_rfl))
 f330 := Tryz.func89.trans (congrArg some (by kernel_rfl))
 f333 := Tryz.func87.trans (congrArg some (by kernel_rfl))
 f334 := Tryz.func90.trans (congrArg some (by kernel_rfl))
 f335 := Tryz.func91.trans (congrArg some (by kernel_rfl))
 f336 := Tryz.func92.trans (congrArg some (by kernel_rfl))
 f344 := Tryz.func117.trans (congrArg some (by kernel_rfl))
 t0 := Tryz.underlying0
 a0 := Tryz.isAgg0
 z0 := Tryz.sizeOf0
 v0 := Tryz.zeroValue0
 t3 := Tryz.underlying3
 a3 := Tryz.isAgg3
 z3 := Tryz.sizeOf3
 v3 := Tryz.zeroValue3
 t4 := Tryz.underlying4
 a4 := Tryz.isAgg4
 z4 := Tryz.sizeOf4
 v4 := Tryz.zeroValue4
 t5 := Tryz.underlying5
 a5 := Tryz.isAgg5
 z5 := Tryz.sizeOf5
 v5 := Tryz.zeroValue5
 t9 := Tryz.underlying9
 a9 := Tryz.isAgg9
 z9 := Tryz.sizeOf9
 v9 := Tryz.zeroValue9
 t31 := Tryz.underlying22
 a31 := Tryz.isAgg22
 z31 := Tryz.sizeOf22
 v31 := Tryz.zeroValue22
 t46 := Tryz.underlying81
 a46 := Tryz.isAgg81
 z46 := Tryz.sizeOf81
 v46 := Tryz.zeroValue81
 t51 := Tryz.underlying103
 a51 := Tryz.isAgg103
 z51 := Tryz.sizeOf103
 v51 := Tryz.zeroValue103
 t53 := Tryz.underlying105
 a53 := Tryz.isAgg105
 z53 := Tryz.sizeOf105
 v53 := Tryz.zeroValue105
 t131 := Tryz.underlying100
 a131 := Tryz.isAgg100
 z131 := Tryz.sizeOf100
 v131 := Tryz.zeroValue100
 t182 := Tryz.underlying94
 a182 := Tryz.isAgg94
 z182 := Tryz.sizeOf94
 v182 := Tryz.zeroValue94
 t183 := Tryz.underlying95
 a183 := Tryz.isAgg95
 z183 := Tryz.sizeOf95
 v183 := Tryz.zeroValue95
 t218 := Tryz.underlying129
 a218 := Tryz.isAgg129
 z218 := Tryz.sizeOf129
 v218 := Tryz.zeroValue129
 t222 := Tryz.underlying133
 a222 := Tryz.isAgg133
 z222 := Tryz.sizeOf133
 v222 := Tryz.zeroValue133
 t228 := Tryz.underlying160
 a228 := Tryz.isAgg160
 z228 := Tryz.sizeOf160
 v228 := Tryz.zeroValue160
 t229 := Tryz.underlying161
 a229 := Tryz.isAgg161
 z229 := Tryz.sizeOf161
 v229 := Tryz.zeroValue161 }
open Go.Sort Go.RowKit in
theorem Tryz.slices_Sort_string (blk off cap : Nat) (ss : List (List UInt8)) (w : World) (hH : Holds encStr w blk off ss.toArray) (hblk : blk < w.heap.size) (hsz : ss.length < 4611686018427387904) :
 Calls Tryz.prog 24 #[.slice (some ⟨blk, off, none⟩) ss.length cap] w fun e w' =>
  e = .returned (.tuple #[]) ∧ ∃ n os, w' = grow (putRow encStr (Sort.ahead w n) blk off (ss.mergeSort fun x y => decide (x ≤ y)).toArray) os := Any.slices_Sort_string Tryz.lays190 blk off cap ss w hH hblk hsz
open Go.RowKit Go.Sort in
theorem Tryz.slices_Sort_string_none (p : Option Addr) (cap : Nat) (w : World) :
 Calls Tryz.prog 24 #[.slice p 0 cap] w fun e w' => e = .returned (.tuple #[]) ∧ w' = w := Any.slices_Sort_string_none Tryz.lays190 p cap w
end Go.Proofs
namespace Go.Proofs.YtgifeodnngodiaaGreatDoor
def wdF (f : Fr) (wd ap : List Pr) : Fr := ⟨f.label, f.thm, f.hyps, ap, f.text, f.dummies, wd, f.proof⟩
def Zcs (vars V t : List ByteArray) : Prop := ∀ s ∈ t.drop 1, s ∈ vars → s ∈ V
def okV (vars : List ByteArray) (g : Fr) : Prop := (∀ s ∈ g.text, s ∈ vars → s ∈ QA g.hyps) ∧ ∀ p ∈ g.apart, p.a ∈ QA g.hyps ∧ p.b ∈ QA g.hyps
def Zqa (V : List ByteArray) (wd : List Pr) : Prop := ∀ x ∈ V, ∀ y ∈ V, ¬ x = y → Q9 ⟨x, y⟩ ∈ wd.map Q9
section
variable {fs : List Fr} {vars V : List ByteArray} {f g : Fr} {xs : List Itm} {wd ap w1 w2 : List Pr} {sk : List (List ByteArray)} {b : Nat} {t : List ByteArray} {M : List (ByteArray × Int)}
theorem Zgz {α : Type} [Inhabited α] {l : List α} {k : Nat} (h : ¬ k < l.length) : ge l k = default := by
 simp only [ge, List.getD_eq_getElem?_getD, List.getElem?_eq_none (Nat.le_of_not_lt h)]
 rfl
theorem mem_typF {hs : List Hy} {u : ByteArray} : u ∈ QA hs ↔ ∃ h ∈ hs, h.floating = true ∧ ge h.text 1 = u := by
 unfold QA
 simp only [List.mem_map, List.mem_filter]
 constructor
 · rintro ⟨h, ⟨h1, h2⟩, h3⟩; exact ⟨h, h1, h2, h3⟩
 · rintro ⟨h, h1, h2, h3⟩; exact ⟨h, ⟨h1, h2⟩, h3⟩
theorem ZmN {x : Bd} (h : x ∈ Xi g.hyps sk b g.hyps.length) : x.var ∈ QA g.hyps ∧ ∃ j, x.text = (ge sk (b + j)).drop 1 := by
 obtain ⟨j, hj, he⟩ := List.mem_filterMap.1 h
 have hj : j < g.hyps.length := by simpa using hj
 unfold Zm1 at he
 split at he
 · rename_i hf
   injection he with he
   subst he
   exact ⟨mem_typF.2 ⟨_, Zc hj, hf, rfl⟩, j, rfl⟩
 · cases he
theorem Zsy {u : ByteArray} (h : u ∈ QA g.hyps) : ∃ x ∈ Xi g.hyps sk b g.hyps.length, x.var = u := by
 obtain ⟨y, hy, hf, hu⟩ := mem_typF.1 h
 obtain ⟨j, hj, rfl⟩ := Y2 hy
 exact ⟨⟨ge (ge g.hyps j).text 1, (ge sk (b + j)).drop 1⟩, List.mem_filterMap.2 ⟨j, by simpa using hj, by simp [Zm1, hf]⟩, hu⟩
theorem ZlZ {u s : ByteArray} (hk : ∀ t ∈ sk, Zcs vars V t) (hu : u ∈ QA g.hyps) (hs : s ∈ Xd (Yg (Xi g.hyps sk b g.hyps.length)) u) (hv : s ∈ vars) : s ∈ V := by
 unfold Xd at hs
 rw [ZbQ] at hs
 cases hf : (Xi g.hyps sk b g.hyps.length).find? fun x => decide (x.var = u) with
 | none =>
  obtain ⟨x, hx, he⟩ := Zsy (sk := sk) (b := b) hu
  have := List.find?_eq_none.1 hf x hx
  simp [he] at this
 | some x =>
  rw [hf] at hs
  obtain ⟨_, j, hj⟩ := ZmN (List.mem_of_find?_eq_some hf)
  change s ∈ x.text at hs
  rw [hj] at hs
  by_cases hl : b + j < sk.length
  · exact hk _ (Zc hl) s hs hv
  · have : ge sk (b + j) = [] := Zgz hl
    rw [this] at hs
    simp at hs
theorem use_in {wide : List Pr} (hg : okV vars g) (hk : ∀ t ∈ sk, Zcs vars V t) (h : Zh0 vars wide g sk b = .ok t) : ∀ s ∈ t, s ∈ vars → s ∈ V := by
 unfold Zh0 at h
 split at h
 · cases h
 split at h
 · cases h
 split at h
 · cases h
 split at h
 · cases h
 injection h with h
 subst h
 intro s hs hv
 obtain ⟨u, hu, hs⟩ := List.mem_flatMap.1 hs
 by_cases ht : u ∈ QA g.hyps
 · exact ZlZ hk ht hs hv
 · exfalso
   unfold Xd at hs
   rw [ZbQ] at hs
   cases hf : (Xi g.hyps sk b g.hyps.length).find? fun x => decide (x.var = u) with
   | none =>
    rw [hf] at hs
    have e : s = u := by simpa using hs
    exact ht (hg.1 u hu (e ▸ hv))
   | some x =>
    have h1 := (ZmN (List.mem_of_find?_eq_some hf)).1
    have h2 : x.var = u := by simpa using List.find?_some hf
    exact ht (h2 ▸ h1)
theorem Zre {x : ByteArray} : Q9 ⟨x, x⟩ = ⟨x, x⟩ := by unfold Q9; split <;> rfl
theorem Zrd {x y : ByteArray} (h : ¬ (Q9 ⟨x, y⟩).a = (Q9 ⟨x, y⟩).b) : ¬ x = y := fun e => by subst e; rw [Zre] at h; exact h rfl
theorem Zpm {g : Fr} (hg : okV vars g) (hk : ∀ t ∈ sk, Zcs vars V t) (hw : Zqa V w2) (h : ZfE (Xi g.hyps sk b g.hyps.length) g.apart vars w1 = false) : ZfE (Xi g.hyps sk b g.hyps.length) g.apart vars w2 = false := by
 unfold ZfE Zj7 at h ⊢
 have h1 : (ZmW (Xi g.hyps sk b g.hyps.length) g.apart vars).find? (ZfF w1) = none := by simpa using h
 rw [List.find?_eq_none] at h1
 rw [List.find?_eq_none.2]
 · rfl
 intro p hp
 have h2 := h1 p hp
 simp only [ZfF, Bool.not_eq_true, Bool.or_eq_false_iff, Bool.not_eq_false', decide_eq_true_eq, decide_eq_false_iff_not] at h2 ⊢
 obtain ⟨q, hq, hp⟩ := List.mem_flatMap.1 hp
 obtain ⟨x, hx, hp⟩ := List.mem_flatMap.1 hp
 obtain ⟨y, hy, rfl⟩ := List.mem_map.1 hp
 obtain ⟨hx1, hx2⟩ := mem_occL.1 hx
 obtain ⟨hy1, hy2⟩ := mem_occL.1 hy
 have ha := hg.2 q hq
 exact ⟨hw x (ZlZ hk ha.1 hx1 (mem_lstL.1 hx2)) y (ZlZ hk ha.2 hy1 (mem_lstL.1 hy2)) (Zrd h2.2), h2.2⟩
theorem Znc (hg : okV vars g) (hk : ∀ t ∈ sk, Zcs vars V t) (hw : Zqa V w2) (h : Zh0 vars w1 g sk b = .ok t) : Zh0 vars w2 g sk b = .ok t := by
 unfold Zh0 at h ⊢
 split at h
 · cases h
 rename_i c1
 split at h
 · cases h
 rename_i c2
 split at h
 · cases h
 rename_i c3
 split at h
 · cases h
 rename_i c4
 rw [if_neg c1, if_neg c2, if_neg c3, if_neg (by rw [Zpm hg hk hw (by simpa using c4)]; simp)]
 exact h
theorem ZrP {k : Nat} (hk : ∀ t ∈ sk, Zcs vars V t) : ∀ t ∈ sk.take k, Zcs vars V t := fun t ht => hk t (List.mem_of_mem_take ht)
theorem Zrs {tg : List (List ByteArray)} {x : Itm} {s : List (List ByteArray)} (hfs : ∀ g ∈ fs, okV vars g) (hx : x.kind = 1 → Zcs vars V x.text) (hn : x.kind = 2 → 0 ≤ x.number ∧ x.number < (fs.length : Int)) (hk : ∀ t ∈ sk, Zcs vars V t) (ht : ∀ t ∈ tg, Zcs vars V t)
 (h : YJ fs vars f sk tg x = .ok s) : ∀ t ∈ s, Zcs vars V t := by
 unfold YJ at h
 split at h
 · rename_i h1
   injection h with h
   subst h
   intro t ht
   rcases List.mem_append.1 ht with ht | ht
   · exact hk t ht
   · rw [List.mem_singleton.1 ht]; exact hx h1
 split at h
 · rename_i h2
   unfold Zb6 at h
   split at h
   · cases h
   split at h
   · cases h
   · rename_i u hu
     injection h with h
     subst h
     intro t ht
     rcases List.mem_append.1 ht with ht | ht
     · exact ZrP hk t ht
     · rw [List.mem_singleton.1 ht]
       have := hn h2
       exact fun s hs => use_in (hfs _ (Zc (by omega))) hk hu s (List.mem_of_mem_drop hs)
 split at h
 · injection h with h
   subst h
   intro t' ht'
   rcases List.mem_append.1 ht' with ht' | ht'
   · exact hk t' ht'
   · rw [List.mem_singleton.1 ht']
     by_cases hl : x.number.toNat < tg.length
     · exact ht _ (Zc hl)
     · have : ge tg x.number.toNat = [] := Zgz hl
       rw [this]
       intro s hs
       simp at hs
 · split at h <;> cases h
theorem ZlS {tg : List (List ByteArray)} {x : Itm} {s : List (List ByteArray)} (hfs : ∀ g ∈ fs, okV vars g) (hn : x.kind = 2 → 0 ≤ x.number ∧ x.number < (fs.length : Int)) (hk : ∀ t ∈ sk, Zcs vars V t) (hw : Zqa V wd)
 (h : YJ fs vars f sk tg x = .ok s) : YJ fs vars (wdF f wd ap) sk tg x = .ok s := by
 unfold YJ at h ⊢
 split at h
 · rename_i h1; rw [if_pos h1]; exact h
 rename_i h1
 rw [if_neg h1]
 split at h
 · rename_i h2
   rw [if_pos h2]
   unfold Zb6 at h ⊢
   split at h
   · cases h
   rename_i h3
   rw [if_neg h3]
   split at h
   · cases h
   · rename_i u hu
     have h4 := hn h2
     have := Znc (w2 := wd) (hfs _ (Zc (show x.number.toNat < fs.length by omega))) hk hw hu
     have e : (wdF f wd ap).wide = wd := rfl
     rw [e, this]
     exact h
 rename_i h2
 rw [if_neg h2]
 exact h
theorem ZrO {l : Nat} {m : Ms} : (Zas f l m).sk = m.sk := by unfold Zas; split <;> rfl
theorem ZrN {l : Nat} {m : Ms} : (Zas f l m).tg = m.tg := by unfold Zas; split <;> rfl
theorem ZeT (hfs : ∀ g ∈ fs, okV vars g) (hx : ∀ k, (ge xs k).kind = 1 → Zcs vars V (ge xs k).text) (hn : ∀ k, (ge xs k).kind = 2 → 0 ≤ (ge xs k).number ∧ (ge xs k).number < (fs.length : Int)) (hw : Zqa V wd) :
 ∀ (j : Nat) (m : Ms), (∀ t ∈ m.sk, Zcs vars V t) → (∀ t ∈ m.tg, Zcs vars V t) → (Zd1 fs vars f xs j m).v.1 = 0 → Zd1 fs vars (wdF f wd ap) xs j m = Zd1 fs vars f xs j m
 | 0, _, _, _, _ => rfl
 | j + 1, ⟨sk, tg, n, kn, v, b⟩, h1, h2, h3 => by
  show Zd1 fs vars (wdF f wd ap) xs j (ZS fs vars (wdF f wd ap) xs _) = Zd1 fs vars f xs j (ZS fs vars f xs _)
  have h3 : (Zd1 fs vars f xs j (ZS fs vars f xs ⟨sk, tg, n, kn, v, b⟩)).v.1 = 0 := h3
  cases hk : kn with
  | true =>
   subst hk
   rw [ZaZ rfl] at h3 ⊢
   rw [ZaZ rfl]
   exact ZeT hfs hx hn hw j _ h1 h2 h3
  | false =>
   subst hk
   cases hd : YJ fs vars f sk tg (ge xs n) with
   | error c =>
    rw [ZbI rfl hd, Zia _ _ rfl] at h3
    exact absurd h3 (ZiB hd)
   | ok s =>
    have hs := Zrs hfs (hx n) (hn n) h1 h2 hd
    have ht : ∀ t ∈ (if (ge xs n).tagged = true then tg ++ [ge s ((s.length : Int) - 1).toNat] else tg), Zcs vars V t := by
     intro t ht
     split at ht
     · rcases List.mem_append.1 ht with ht | ht
       · exact h2 t ht
       · rw [List.mem_singleton.1 ht]
         have := Zdt hd
         exact hs _ (Zc (by omega))
     · exact h2 t ht
    rw [ZaY rfl hd] at h3 ⊢
    rw [ZaY rfl (ZlS (ap := ap) hfs (hn n) h1 hw hd)]
    have e : Zas (wdF f wd ap) xs.length ⟨s, if (ge xs n).tagged = true then tg ++ [ge s ((s.length : Int) - 1).toNat] else tg, n + 1, false, v, true⟩ = Zas f xs.length ⟨s, if (ge xs n).tagged = true then tg ++ [ge s ((s.length : Int) - 1).toNat] else tg, n + 1, false, v, true⟩ := rfl
    rw [e]
    generalize hm : Zas f xs.length ⟨s, if (ge xs n).tagged = true then tg ++ [ge s ((s.length : Int) - 1).toNat] else tg, n + 1, false, v, true⟩ = m' at h3 ⊢
    refine ZeT hfs hx hn hw j m' ?_ ?_ h3
    · rw [← hm, ZrO]; exact hs
    · rw [← hm, ZrN]; exact ht
theorem ZiD {L : List ByteArray} : ∀ (l : List Lt) (k : Nat), Yn (wdF f wd ap) M L l k = Yn f M L l k
 | [], _ => rfl
 | x :: r, k => by
  unfold Yn
  rw [show QP (wdF f wd ap) M L k x = QP f M L k x from rfl]
  cases QP f M L k x with
  | none => rfl
  | some y => simp only [ZiD r]
theorem ZqH (t : List ByteArray) : Yy (wdF f wd ap) M t = Yy f M t := by
 unfold Yy
 rw [show ZY (wdF f wd ap) M = ZY f M from rfl]
 split
 · rfl
 cases Qh t with
 | none => rfl
 | some q => simp only [ZiD]; rfl
theorem Zix (hf : ∀ h ∈ f.hyps ++ f.dummies, Zcs vars V h.text) (s : ByteArray) (h : (ZY f M s).kind = 1) : Zcs vars V (ZY f M s).text := by
 unfold ZY at h ⊢
 split at h
 · cases h
 rename_i h1
 rw [if_neg h1]
 cases hd : Zct f s with
 | some y => exact hf y (List.mem_of_find?_eq_some hd)
 | none =>
  rw [hd] at h
  simp only at h
  split at h <;> cases h
theorem Zrv {L : List ByteArray} {k : Nat} {l : Lt} {x : Itm} (hf : ∀ h ∈ f.hyps ++ f.dummies, Zcs vars V h.text) (h : QP f M L k l = some x) (h1 : x.kind = 1) : Zcs vars V x.text := by
 unfold QP at h
 split at h
 · injection h with h; subst h; cases h1
 split at h
 · rename_i h2 h3
   injection h with h
   subst h
   by_cases hl : (l.number - 1).toNat < f.hyps.length
   · exact hf _ (List.mem_append_left _ (Zc hl))
   · have : ge f.hyps (l.number - 1).toNat = default := Zgz hl
     show Zcs vars V (ge f.hyps (l.number - 1).toNat).text
     rw [this]
     intro s hs
     cases hs
 split at h
 · injection h with h
   subst h
   exact Zix hf _ h1
 split at h
 · injection h with h; subst h; cases h1
 · cases h
theorem ZiF {L : List ByteArray} (hf : ∀ h ∈ f.hyps ++ f.dummies, Zcs vars V h.text) : ∀ (l : List Lt) (k : Nat) (xs : List Itm), Yn f M L l k = some xs → ∀ x ∈ xs, x.kind = 1 → Zcs vars V x.text
 | [], _, xs, h => by
  injection h with h
  subst h
  intro x hx
  cases hx
 | y :: r, k, xs, h => by
  unfold Yn at h
  split at h
  · cases h
  rename_i z hz
  split at h
  · cases h
  rename_i zs hzs
  injection h with h
  subst h
  intro x hx h1
  rcases List.mem_cons.1 hx with rfl | hx
  · exact Zrv hf hz h1
  · exact ZiF hf r _ zs hzs x hx h1
theorem ZqJ (hf : ∀ h ∈ f.hyps ++ f.dummies, Zcs vars V h.text) {t : List ByteArray} (h : Yy f M t = .ok xs) : ∀ k, (ge xs k).kind = 1 → Zcs vars V (ge xs k).text := by
 have key : ∀ x ∈ xs, x.kind = 1 → Zcs vars V x.text := by
  unfold Yy at h
  split at h
  · split at h
    · cases h
    injection h with h
    subst h
    intro x hx h1
    obtain ⟨s, _, rfl⟩ := List.mem_map.1 hx
    exact Zix hf s h1
  split at h
  · cases h
  split at h
  · cases h
  split at h
  · cases h
  rename_i ys hys
  split at h
  · cases h
  split at h
  · cases h
  injection h with h
  subst h
  exact ZiF hf _ _ _ hys
 intro k h1
 by_cases hl : k < xs.length
 · exact key _ (Zc hl) h1
 · rw [Zgz hl] at h1
   cases h1
end
def Zch {α : Type} [Inhabited α] [DecidableEq α] (ps : List α) : Nat → List α
 | 0 => []
 | m + 1 => if m = 0 ∨ ¬ ge ps m = ge ps (m - 1) then Zch ps m ++ [ge ps m] else Zch ps m
section
variable {α : Type} [Inhabited α] [DecidableEq α] {ps : List α} {k m : Nat}
theorem Zfi (h : m = 0 ∨ ¬ ge ps m = ge ps (m - 1)) : Zch ps (m + 1) = Zch ps m ++ [ge ps m] := by rw [Zch, if_pos h]
theorem ZdM (h0 : 0 < m) (h : ge ps m = ge ps (m - 1)) : Zch ps (m + 1) = Zch ps m := by rw [Zch, if_neg (by rintro (e | e); omega; exact e h)]
theorem ZiV (ps : List α) : ∀ m, (Zch ps m).length ≤ m
 | 0 => by simp [Zch]
 | m + 1 => by
  have := ZiV ps m
  rw [Zch]
  split
  · simp only [List.length_append, List.length_singleton]; omega
  · omega
theorem ZiU : ∀ m, m ≤ ps.length → ∀ x, x ∈ Zch ps m ↔ x ∈ ps.take m
 | 0, _, x => by simp [Zch]
 | m + 1, hm, x => by
  have h2 := ZiU m (by omega)
  by_cases hc : m = 0 ∨ ¬ ge ps m = ge ps (m - 1)
  · rw [Zfi hc, ZQ (by omega)]
    simp only [List.mem_append, h2]
  · have hm0 : 0 < m := by omega
    have he : ge ps m = ge ps (m - 1) := by simpa [show ¬ m = 0 by omega] using hc
    rw [ZdM hm0 he, h2, ZQ (by omega), List.mem_append]
    constructor
    · exact .inl
    · rintro (h3 | h3)
      · exact h3
      · rw [List.mem_singleton.1 h3, he]
        refine List.mem_of_getElem? (i := m - 1) ?_
        rw [List.getElem?_take, if_pos (by omega), List.getElem?_eq_getElem (by omega), YN (by omega)]
theorem ZrU (h : 1 ≤ ps.length) : Zch ps 1 = ps.take 1 := by
 cases ps with
 | nil => simp at h
 | cons y r => rfl
theorem ZdN (h : ps.length < 2) : ps = Zch ps ps.length := by
 match ps, h with
 | [], _ => rfl
 | [y], _ => rfl
theorem ZhH (h : ¬ k < ps.length) (hk : k ≤ ps.length) (h2 : Zch ps k = ps.take k) : ps = Zch ps ps.length := by
 have : k = ps.length := by omega
 subst this
 rw [h2, List.take_length]
theorem Zou (hk : k < ps.length) (h2 : Zch ps k = ps.take k) (h3 : ¬ ge ps k = ge ps (k - 1)) : Zch ps (k + 1) = ps.take (k + 1) := by
 rw [Zfi (.inr h3), h2, ZQ hk]
end
theorem ZrC {α : Type} [Inhabited α] {rs : List α} {i j : Nat} {x : α} (h : ¬ i = j) : ge (rs.set j x) i = ge rs i := by
 simp only [ge, List.getD_eq_getElem?_getD]
 rw [List.getElem?_set_ne (fun e => h e.symm)]
theorem Zkw {α : Type} [Inhabited α] {rs : List α} {j : Nat} {x : α} (hj : j < rs.length) : (rs.set j x).take (j + 1) = rs.take j ++ [x] := by
 have h1 : j < (rs.set j x).length := by rw [List.length_set]; exact hj
 rw [ZQ h1, List.take_set_of_le (Nat.le_refl _)]
 congr 2
 rw [YN h1, List.getElem_set_self]
section
variable {d : Db} {k n : Nat} {wd ap : List Pr}
theorem Zl8 (h : frE d k = 0) : Znk d (ge d.frames k) = true ∧ Zn8 d k = 0 := by
 unfold frE ZsJ at h
 split at h
 · cases h
 split at h
 · cases h
 split at h
 · cases h
 split at h
 · rename_i h2; rw [h] at h2; simp at h2
 rename_i h3
 split at h
 · cases h
 split at h
 · rename_i h2; rw [h] at h2; simp at h2
 split at h
 · cases h
 rename_i h4
 exact ⟨by simpa using h4, by simpa using h3⟩
theorem ZkB {f : Fr} (h : Znk d f = true) : okV d.vars f ∧ ∀ s, s ∈ Zbr d f → s ∈ QA f.hyps := by
 simp only [Znk, Bool.and_eq_true, decide_eq_true_eq, List.all_eq_true] at h
 obtain ⟨⟨⟨_, h1⟩, _⟩, _, h2⟩ := h
 have hm : ∀ s, s ∈ Zbr d f → s ∈ QA f.hyps := fun s hs => by simpa using h1 s hs
 refine ⟨⟨fun s hs hv => hm s (((Zdi _ _).2 s).2 ⟨by simp [hs], hv⟩), fun p hp => ?_⟩, hm⟩
 rw [h2] at hp
 have := (List.mem_filter.1 hp).2
 simp only [inV, Bool.and_eq_true, decide_eq_true_eq] at this
 exact ⟨hm _ this.1, hm _ this.2⟩
theorem ZrZ (hc : ZcD d = 0) : ∀ g ∈ d.frames, okV d.vars g := fun g hg => by
 obtain ⟨k, hk, rfl⟩ := Y2 hg
 exact (ZkB (Zl8 (ZgN hc k hk)).1).1
theorem Znd {a b : List Hy} {s : ByteArray} (h : s ∈ QA a) : s ∈ QA (a ++ b) := by
 obtain ⟨y, h1, h2, h3⟩ := mem_typF.1 h
 exact mem_typF.2 ⟨y, List.mem_append_left _ h1, h2, h3⟩
theorem Zr1 (hc : ZcD d = 0) (hk : k < d.frames.length) : ∀ h ∈ (ge d.frames k).hyps ++ (ge d.frames k).dummies, Zcs d.vars (QA ((ge d.frames k).hyps ++ (ge d.frames k).dummies)) h.text := fun y hy s hs hv => by
 obtain ⟨h1, h2⟩ := Zl8 (ZgN hc k hk)
 have h3 := (ZkB h1).2
 cases hf : y.floating with
 | true =>
  have h4 := ZiA h2 y hy hf
  refine mem_typF.2 ⟨y, hy, hf, ?_⟩
  match ht : y.text with
  | [a, b] =>
   rw [ht] at hs
   have : s = b := by simpa using hs
   rw [this]
   rfl
  | [] => rw [ht] at h4; cases h4
  | [_] => rw [ht] at h4; cases h4
  | _ :: _ :: _ :: _ => rw [ht] at h4; simp at h4
 | false =>
  obtain ⟨j, hj, e⟩ := Y2 hy
  have h5 := QZ (X6 h2 j hj)
  by_cases hl : j < (ge d.frames k).hyps.length
  · have hm : y ∈ (ge d.frames k).hyps := by
     rw [← e]
     have : ge ((ge d.frames k).hyps ++ (ge d.frames k).dummies) j = ge (ge d.frames k).hyps j := by
      rw [YN hj, YN hl, List.getElem_append_left hl]
     rw [this]
     exact Zc hl
    refine Znd (h3 s (((Zdi _ _).2 s).2 ⟨?_, hv⟩))
    rw [List.flatten_cons]
    refine List.mem_append_right _ (List.mem_flatten.2 ⟨y.text, List.mem_map.2 ⟨y, List.mem_filter.2 ⟨hm, by simp [hf]⟩, rfl⟩, List.mem_of_mem_drop hs⟩)
  · exfalso
    rw [e] at h5
    have hd : decide ((((ge d.frames k).hyps.length : Nat) : Int) ≤ ((j : Nat) : Int)) = true := decide_eq_true (by omega)
    rw [hd] at h5
    simp [QQ, hf] at h5
def wdD (d : Db) (n : Nat) (wd ap : List Pr) : Db := ⟨d.consts, d.vars, d.frames.take n ++ [wdF (ge d.frames n) wd ap]⟩
theorem thm_wd (ha : Qz d ((n : Nat) : Int) = 0) (ht : (ge d.frames n).thm = true) (hv : (XY d ((n : Nat) : Int)).1.1 = 0) (hw : Zqa (QA ((ge d.frames n).hyps ++ (ge d.frames n).dummies)) wd) (hg : (XY (wdD d n wd ap) ((n : Nat) : Int)).2 = 0) :
 (XY (wdD d n wd ap) ((n : Nat) : Int)).1 = (XY d ((n : Nat) : Int)).1 := by
 obtain ⟨hck, h0, h1⟩ := Zfy ha
 have hn : n < d.frames.length := by omega
 have ha' : Qz (wdD d n wd ap) ((n : Nat) : Int) = 0 := by rw [← Zkv]; exact hg
 have hl : (d.frames.take n).length = n := by rw [List.length_take]; omega
 have e1 : ge (wdD d n wd ap).frames n = wdF (ge d.frames n) wd ap := by
  show ge (d.frames.take n ++ [wdF (ge d.frames n) wd ap]) n = _
  simp only [ge, List.getD_eq_getElem?_getD, List.getElem?_append_right (Nat.le_of_eq hl), hl, Nat.sub_self]
  rfl
 have e2 : (wdD d n wd ap).frames.take n = d.frames.take n := by
  show (d.frames.take n ++ [wdF (ge d.frames n) wd ap]).take n = _
  rw [List.take_append_of_le_length (Nat.le_of_eq hl.symm), List.take_take, Nat.min_self]
 unfold XY at hv ⊢
 rw [if_pos ha] at hv
 rw [if_pos ha', if_pos ha]
 simp only [Int.toNat_natCast] at hv ⊢
 unfold ZfC at hv ⊢
 rw [e1, e2, if_pos (show (wdF (ge d.frames n) wd ap).thm = true from ht), if_pos ht]
 rw [if_pos ht] at hv
 have hgd := (ZcP hck _ (Zc hn)).2.2
 have hM := Zdl (fs := d.frames) n (by omega)
 show ZcX (wdD d n wd ap).frames d.vars (wdF (ge d.frames n) wd ap) (ZaK (d.frames.take n)) (ge d.frames n).proof = _
 rw [← Zkh (fs := d.frames) (gs := (wdD d n wd ap).frames) (f := wdF (ge d.frames n) wd ap) (N := n) (fun i hi => ?_) hM hgd (by omega) _]
 · unfold ZcX at hv ⊢
   rw [ZqH]
   cases hr : Yy (ge d.frames n) (ZaK (d.frames.take n)) (ge d.frames n).proof with
   | error c =>
    rw [hr] at hv
    have h3 : ∀ f : Fr, (Zd1 d.frames d.vars f (Y8 f (.error c : Except Int (List Itm))).1 ((Y8 f (.error c : Except Int (List Itm))).1.length + 1) (Y8 f (.error c : Except Int (List Itm))).2).v = (c, 0) := fun f => Zia _ _ rfl
    rw [h3, h3]
   | ok xs =>
    rw [hr] at hv
    have hok := Zhi (Zey hM (show n ≤ d.frames.length by omega)) hgd hr
    have hin := ZqJ (vars := d.vars) (V := QA ((ge d.frames n).hyps ++ (ge d.frames n).dummies)) (Zr1 hck hn) hr
    have hnum : ∀ k, (ge xs k).kind = 2 → 0 ≤ (ge xs k).number ∧ (ge xs k).number < (d.frames.length : Int) := fun k h2 => by
     by_cases hlt : k < xs.length
     · exact (hok.2 k hlt).1.2.2.1 h2
     · rw [Zgz hlt] at h2
       cases h2
    have hs : Y8 (wdF (ge d.frames n) wd ap) (.ok xs) = Y8 (ge d.frames n) (.ok xs) := rfl
    rw [hs]
    refine congrArg Ms.v (ZeT (ap := ap) (ZrZ hck) hin hnum hw _ _ ?_ ?_ hv)
    · show ∀ t ∈ (Zas (ge d.frames n) xs.length ⟨[], [], 0, false, (0, 0), true⟩).sk, _
      unfold Zas
      split <;> (intro t ht; cases ht)
    · show ∀ t ∈ (Zas (ge d.frames n) xs.length ⟨[], [], 0, false, (0, 0), true⟩).tg, _
      unfold Zas
      split <;> (intro t ht; cases ht)
 · show ge d.frames i = ge (d.frames.take n ++ [wdF (ge d.frames n) wd ap]) i
   simp only [ge, List.getD_eq_getElem?_getD]
   rw [List.getElem?_append_left (by omega), List.getElem?_take, if_pos hi]
end
end Go.Proofs.YtgifeodnngodiaaGreatDoor
