/-
  THE ENGINE: a queue of the call's own: what is taken off its head, what is put behind it.
-/
import Derived.Test.YtnpgmdffjemnbaaGreatDoorJP
import Derived.ArgAppend
namespace Go.Proofs.YtnpgmdffjemnbaaGreatDoor
open Go.RowKit

def OB.q (v : Value) (rows : List (List CD)) : OB where
  blk := fun k => v.ownBlock = some k
  inv := fun lo S w => ∃ (us : List Value) (g off cap : Nat), v = .slice (some ⟨g, off, none⟩) rows.length cap ∧ lo ≤ g ∧ g < w.heap.size ∧ rows.length ≤ cap ∧ cap ≤ maxLen ∧ RdL S w rows.flatten us ∧ (∀ r ∈ rows, r.length = 1) ∧
    (∀ j, j < cap → (w.cell? ⟨g, off + j, none⟩).isSome = true ∧ w.frozen? ⟨g, off + j, none⟩ = false) ∧ ∀ (j : Nat) (u : Value), us[j]? = some u → w.cell? ⟨g, off + j, none⟩ = some u
  mv := fun {_ _ _ _ w w'} ⟨us, g, off, cap, hv, hlo, hg, hlc, hcm, hr, h1, hc, hu⟩ hk hb hs => by
    have hblk : w'.heap[g]? = w.heap[g]? := hk.block g hg (hb g (by rw [hv]; rfl))
    have e1 : ∀ j, w'.cell? ⟨g, off + j, none⟩ = w.cell? ⟨g, off + j, none⟩ := fun j => World.cell?_of_block hblk
    have e2 : ∀ j, w'.frozen? ⟨g, off + j, none⟩ = w.frozen? ⟨g, off + j, none⟩ := fun j => World.frozen?_of_block hblk
    exact ⟨us, g, off, cap, hv, hlo, by have := hk.size; omega, hlc, hcm, hr.move hk hs, h1, fun j hj => by rw [e1, e2]; exact hc j hj, fun j u hj => by rw [e1]; exact hu j u hj⟩
  lt := fun {_ _ _} ⟨us, g, off, cap, hv, hlo, hg, _⟩ k hk => by
    rw [hv] at hk
    obtain rfl : g = k := by simpa [Value.ownBlock] using hk
    exact ⟨hlo, hg⟩
section
variable {n N : Nat} {P : Program} {J X : World → Prop} {S S' : Nat → Prop} {O : List OB} {w0 : World} {env : List (Nat × AV)} {a : Act} {w : World} {o : Oper} {x y : Operand} {t e : TypeId} {v : Value} {rows : List (List CD)} {lo : Nat} {Q : Exit → Act → World → Prop}
theorem q_rd (hS : ∀ b, lo ≤ b → S b) (h : (OB.q v rows).inv lo S' w) (hs : ∀ b, S' b → S b) : Rd S w (.sl rows) v := by
  obtain ⟨us, g, off, cap, rfl, hlo, hg, hlc, hcm, hr, h1, hc, hu⟩ := h
  exact Rd.of_cells (n := 1) hlc hcm hg (hS g hlo) h1 (hr.sub fun k _ => hs k) hu
theorem ZmQ (hS : ∀ b, lo ≤ b → S b) (h : XO J S lo O w) (ho : OB.q v rows ∈ O) {u : Value} (hu : Rel S' w (.lit v) u) : Rel S w (.rd (.sl rows)) u := by
  rw [hu.lit]
  simp only [Rel]
  exact q_rd hS (h.2.1 _ ho) fun _ hb => hb.1
theorem q_lit (h : (OB.q v rows).inv lo S w) : okLit v := by
  obtain ⟨us, g, off, cap, rfl, _⟩ := h
  exact True.intro
theorem so_q (v : Value) (e : TypeId) (rows : List (List CD)) : SO S (OB.q v rows :: O) = SO S (OB.row v e 1 rows :: O) := by
  funext b
  simp [SO, OB.q, OB.row]
theorem Ze8 {g j : Nat} {cur : Array Value} (hg : w.heap[g]? = some (.cells cur e (0, 0))) : w.frozen? ⟨g, j, none⟩ = false := by
  simp [World.frozen?, hg]
theorem Zd3 {g j : Nat} {cur : Array Value} (hg : w.heap[g]? = some (.cells cur e (0, 0))) : w.cell? ⟨g, j, none⟩ = cur[j]? := by
  simp [World.cell?, hg]
theorem ZkO (h : (OB.row v e 1 rows).inv lo S w) (hpos : 0 < rows.length) : (OB.q v rows).inv lo S w := by
  obtain ⟨us, h1, h2, h3⟩ := h
  rcases h1.2 with ⟨_, h0⟩ | ⟨g, cap, cur, rfl, hb, hg, hnc, hcm, hcs, htk⟩
  · omega
  · refine ⟨us, g, 0, cap, rfl, hb, (Array.getElem?_eq_some_iff.1 hg).1, hnc, hcm, h2, h3, fun j hj => ⟨?_, Ze8 hg⟩, fun j u hj => ?_⟩
    · rw [Zd3 hg, Nat.zero_add, Array.getElem?_eq_getElem (by omega)]; rfl
    · rw [Zd3 hg, Nat.zero_add, ← Array.getElem?_toList]
      rw [← htk, List.getElem?_take] at hj
      split at hj
      · exact hj
      · cases hj
theorem Zix (hpos : 0 < rows.length) (h : St All (SO S (OB.row v e 1 rows :: O)) w0 N env (XO J S w0.heap.size (OB.row v e 1 rows :: O)) a w) : St All (SO S (OB.q v rows :: O)) w0 N env (XO J S w0.heap.size (OB.q v rows :: O)) a w := by
  refine ⟨h.defs, h.size, h.keep, ⟨h.x.1, fun p hp => ?_, ?_⟩, by rw [so_q v e rows]; exact h.env⟩
  · rw [so_q v e rows]
    rcases List.mem_cons.1 hp with rfl | hp
    · exact ZkO (h.x.2.1 (OB.row v e 1 rows) (by simp)) hpos
    · exact h.x.2.1 p (List.mem_cons_of_mem _ hp)
  · have := List.pairwise_cons.1 h.x.2.2
    exact .cons this.1 this.2
theorem ZnN : ∀ {l : List (List CD)}, (∀ r ∈ l, r.length = 1) → l.flatten.length = l.length
  | [], _ => rfl
  | a :: l, h => by rw [List.flatten_cons, List.length_append, h a (by simp), ZnN fun r hr => h r (List.mem_cons_of_mem _ hr), List.length_cons]; omega
theorem ZnX {r : List CD} {rest : List (List CD)} (h1 : Yr P t e 1) (hop : o.op = .slice t x (some y) none none) (hk : Keeps All w0 w) (hx : XO J S w0.heap.size (OB.q v (r :: rest) :: O) w) (hv : a.eval x = v) (hy : a.eval y = .int .i64 1) :
    Yk n P o a w fun u w' => ∃ v', Zbf J S w0 (OB.q v (r :: rest) :: O) w (OB.q v' rest :: O) w' ∧ Rel (SO S (OB.q v' rest :: O)) w' (.lit v') u := by
  obtain ⟨us, g, off, cap, hve, hlo, hg, hlc, hcm, hr, hn, hc, hu⟩ := hx.2.1 (OB.q v (r :: rest)) (by simp)
  rw [List.length_cons] at hlc hve
  have hr1 := hn r (by simp)
  match r, hr1 with
  | [c], _ =>
  simp only [List.flatten_cons, List.cons_append, List.nil_append] at hr
  match us, hr with
  | u0 :: us', hr =>
  have hb : ∀ off' m k rows', SO S (OB.q (.slice (some ⟨g, off', none⟩) m k) rows' :: O) = SO S (OB.q v ([c] :: rest) :: O) := fun off' m k rows' => by
    funext b
    simp [SO, OB.q, hve, Value.ownBlock]
  have hlen : us'.length = rest.length := by
    rw [hr.2.length]
    exact ZnN fun r hr => hn r (List.mem_cons_of_mem _ hr)
  have key : ∀ off', (cap = 1 → off' = off) → (cap ≠ 1 → off' = off + 1) → Zbf J S w0 (OB.q v ([c] :: rest) :: O) w (OB.q (.slice (some ⟨g, off', none⟩) rest.length (cap - 1)) rest :: O) w := fun off' e1 e2 => by
    have hso := hb off' rest.length (cap - 1) rest
    refine ⟨hk, ⟨hx.1, fun p hp => ?_, ?_⟩, fun av u hr => by rw [hso]; exact hr⟩
    · rw [hso]
      rcases List.mem_cons.1 hp with rfl | hp
      · refine ⟨us', g, off', cap - 1, rfl, hlo, hg, by omega, by omega, hr.2, fun r hr => hn r (List.mem_cons_of_mem _ hr), fun j hj => ?_, fun j u hj => ?_⟩
        · rw [e2 (by omega), show off + 1 + j = off + (j + 1) by omega]; exact hc (j + 1) (by omega)
        · have hj' := (List.getElem?_eq_some_iff.1 hj).1
          rw [e2 (by omega), show off + 1 + j = off + (j + 1) by omega]; exact hu (j + 1) u (by simpa using hj)
      · exact hx.2.1 p (List.mem_cons_of_mem _ hp)
    · have := List.pairwise_cons.1 hx.2.2
      refine .cons (fun p hp k hk2 => this.1 p hp k ?_) this.2
      rw [hve]; exact hk2
  have hrun : (execOp a.eval o).run P w = .ok (.value (.slice (if cap = 1 then some ⟨g, off, none⟩ else (some ⟨g, off, none⟩ : Option Addr).map (·.add (1 * 1))) (rest.length + 1 - 1) (cap - 1))) w := by
    rw [execOp, hop]
    have hlt : ¬ ((rest.length : Int) + 1 < 1) := by omega
    simp [hv, hve, hy, Instr.sliceAt, Instr.slice, Instr.sliceBounds, Instr.sliceBound, asIntOf, Sem.run_bind, run_underlying h1.1, h1.2 w, hlt]
  refine ZQ hrun ?_
  by_cases e1 : cap = 1
  · rw [if_pos e1]
    exact ⟨_, key off (fun _ => rfl) (fun h => absurd e1 h), Rel.of_lit _⟩
  · rw [if_neg e1]
    exact ⟨_, key (off + 1) (fun h => absurd h e1) (fun _ => rfl), Rel.of_lit _⟩
theorem Zkx {ops : Array Oper} {rest' : List Oper} {d s m : Nat} {r : List CD} {rest : List (List CD)} (h1 : Yr P t e 1) (hg : o.guard = none) (hop : o.op = .slice t x (some y) none none) (hd : o.dst = some d) (hN : d < N) (hx : x = .tmp s) (he : env[m]? = some (s, .lit v)) (hy : ∀ a : Act, a.eval y = .int .i64 1)
    (next : ∀ v' a w, St All (SO S (OB.q v' rest :: O)) w0 N ((d, .lit v') :: YB d env) (XO J S w0.heap.size (OB.q v' rest :: O)) a w → wpListIn Fence.wide n P ops Q rest' a w) :
    ∀ a w, St All (SO S (OB.q v (r :: rest) :: O)) w0 N env (XO J S w0.heap.size (OB.q v (r :: rest) :: O)) a w → wpListIn Fence.wide n P ops Q (o :: rest') a w :=
  ZaB (O2 := fun v' => OB.q v' rest :: O) (av := fun v' => .lit v') hg hd hN (fun a w h => ZnX h1 hop h.keep h.x (by rw [hx]; exact (h.get m he).lit) (hy a)) next
theorem Zdo {g k : Nat} {u : Value} : Keeps (fun b => b ≠ g) w (w.setCell ⟨g, k, none⟩ u) := by
  refine ⟨rfl, rfl, rfl, by simp [World.setCell], fun b _ hb => ?_⟩
  have : ¬ g = b := fun e => hb e.symm
  simp [World.setCell, Array.getElem?_modify, this]
theorem ZjK {r1 : List CD} {bytes : Nat} (ht : Zfp P t e 1 bytes) (hJ : Stab J) (hJ0 : J w0) (hop : o.op = .call { callee := .builtin .append, args := #[x, y], argTypes := #[t, t] }) (hk : Keeps All w0 w) (hx : XO J S w0.heap.size (OB.q v rows :: O) w) (hv : a.eval x = v)
    (hy : Rel (SO S (OB.q v rows :: O)) w (.rd (.sl [r1])) (a.eval y)) (h1 : r1.length = 1) (hb : (rows.length + 1) * bytes ≤ 140737488355328) (h63 : rows.length + 1 ≤ maxLen) :
    Yk n P o a w fun v' w' => Zbf J S w0 (OB.q v rows :: O) w (OB.q v' (rows ++ [r1]) :: O) w' := by
  obtain ⟨ht1, ⟨i, z, hi, hz, his, hib, hzs⟩, _, _⟩ := ht
  obtain ⟨us, g, off, cap, hve, hlo, hg, hlc, hcm, hr, hn, hc, hu⟩ := hx.2.1 (OB.q v rows) (by simp)
  simp only [Rel] at hy
  obtain ⟨ad, cap2, hyv, _, _⟩ := hy.form
  rw [hyv] at hy
  obtain ⟨b', off', rfl, _, _, us1, hr1, hc1⟩ := hy.at (i := 0) rfl
  match r1, h1 with
  | [c1], _ =>
  match us1, hr1 with
  | [u1], hr1 =>
  have hone : ∀ u ∈ [u1], u.oneCell' = true := fun u hu' => by rw [List.mem_singleton.1 hu']; exact hr1.1.one
  have hnews : ∀ (j : Nat) u, [u1][j]? = some u → w.cell? ((⟨b', off', none⟩ : Addr).add j) = some u := fun j u hj => by
    have := hc1 j u hj
    rw [Go.WideShapes.add_plain]
    simpa using this
  have hul : us.length = rows.length := by rw [hr.length]; exact ZnN hn
  have hrun0 : ∀ v' w', (Builtin.append_ #[t, t] o.type #[v, .slice (some ⟨b', off', none⟩) 1 cap2]).run P w = .ok v' w' → (execOp a.eval o).run P w = .ok (.value v') w' := fun v' w' h => by
    simp only [List.length_singleton] at hyv
    simp [execOp, hop, resolve, invoke, builtin, hv, hyv, h, Result.andThen]
  have hhold : ∀ (j : Nat) u, us[j]? = some u → w.cell? ((⟨g, off, none⟩ : Addr).add j) = some u := fun j u hj => by rw [Go.WideShapes.add_plain]; exact hu j u hj
  have hn2 : ∀ r ∈ rows ++ [[c1]], r.length = 1 := fun r hr' => by
    rcases List.mem_append.1 hr' with h | h
    · exact hn r h
    · rw [List.mem_singleton.1 h]; rfl
  have hso : ∀ off' m k rows', SO S (OB.q (.slice (some ⟨g, off', none⟩) m k) rows' :: O) = SO S (OB.q v rows :: O) := fun off' m k rows' => by
    funext b
    simp [SO, OB.q, hve, Value.ownBlock]
  have hr2 : RdL (SO S (OB.q v rows :: O)) w (rows ++ [[c1]]).flatten (us ++ [u1]) := by
    rw [List.flatten_append]; exact hr.append ⟨hr1.1, trivial⟩
  by_cases hroom : rows.length + 1 ≤ cap
  · have hrun := run_append_room_cells (P := P) w t o.type e i ht1 hi g off rows.length cap ⟨b', off', none⟩ 1 cap2 [u1] (by simp [his]) hnews hone hroom
      (fun j hj => by have hj0 : j = 0 := by simpa using hj
                      subst hj0; rw [his, Nat.mul_one, Nat.add_zero]; exact (hc rows.length (by omega)).1)
      (fun j hj => by have hj0 : j = 0 := by simpa using hj
                      subst hj0; rw [his, Nat.mul_one, Nat.add_zero]; exact (hc rows.length (by omega)).2)
    rw [← hve, his, Nat.mul_one] at hrun
    have hk2 : Keeps (fun b => ¬ (OB.q v rows).blk b) w (w.setCells g (off + rows.length) [u1]) := by
      have h0 : Keeps (fun b => b ≠ g) w (w.setCells g (off + rows.length) [u1]) := Zdo
      refine h0.sub fun b _ hb => ?_
      rintro rfl
      exact hb (by rw [hve]; rfl)
    refine ZQ (hrun0 _ _ hrun) (XS (o' := OB.q (.slice (some ⟨g, off, none⟩) (rows.length + 1) cap) (rows ++ [[c1]])) hJ hJ0 hk hx hk2 (fun k hb => .inl (by rw [hve]; exact hb)) ?_)
    rw [hso]
    refine ⟨us ++ [u1], g, off, cap, by simp, hlo, by have := hk2.size; omega, by simpa using hroom, hcm, hr2.move hk2 fun k _ hs => ⟨hs.2 (OB.q v rows) (by simp), hs⟩, hn2, fun j hj => ?_, fun j u hj => ?_⟩
    · rw [World.frozen?_setCells]
      refine ⟨?_, (hc j hj).2⟩
      by_cases e : j = rows.length
      · subst e
        have := World.cell?_setCells_in g [u1] (off + rows.length) w (fun j hj => by have hj0 : j = 0 := by simpa using hj
                                                                                     subst hj0; exact (hc rows.length (by omega)).1) 0 (by simp)
        rw [Nat.add_zero] at this
        rw [this]; rfl
      · rw [World.cell?_setCells_out g [u1] (off + rows.length) w _ (fun _ _ => by simp only [List.length_singleton]; omega)]
        exact (hc j hj).1
    · by_cases e : j < us.length
      · rw [List.getElem?_append_left e] at hj
        rw [World.cell?_setCells_out g [u1] (off + rows.length) w _ (fun _ _ => by simp only [List.length_singleton]; omega)]
        exact hu j u hj
      · rw [List.getElem?_append_right (by omega)] at hj
        have hj0 : j - us.length = 0 := by
          have := (List.getElem?_eq_some_iff.1 hj).1
          simp at this; omega
        rw [hj0] at hj
        have hj1 : j = rows.length := by omega
        subst hj1
        have := World.cell?_setCells_in g [u1] (off + rows.length) w (fun j hj => by have hj0 : j = 0 := by simpa using hj
                                                                                     subst hj0; exact (hc rows.length (by omega)).1) 0 (by simp)
        rw [Nat.add_zero] at this
        rw [this]; simpa using hj
  · obtain ⟨v', w', hrun, hown, hgr⟩ := run_append_arg_grows (P := P) w t o.type e i z 1 bytes ht1 hi hz his hib hzs (by decide) ⟨g, off, none⟩ rows.length cap us (by rw [hul, Nat.mul_one]) hhold ⟨b', off', none⟩ 1 cap2 [u1] (by simp) hnews (by omega) h63 hb
    rw [← hve] at hrun
    have hk2 : Keeps All w w' := ⟨hgr.os, hgr.tape, hgr.output, hgr.size, fun k hk _ => hgr.block k hk (by simp)⟩
    obtain ⟨g2, cap3, cur, rfl, hbg, hg2, hnc, hcm3, hcs, htk⟩ := hown.2.resolve_left (fun h => by have := h.2; omega)
    refine ZQ (hrun0 _ _ hrun) (XS (o' := OB.q (.slice (some ⟨g2, 0, none⟩) (rows.length + 1) cap3) (rows ++ [[c1]])) hJ hJ0 hk hx (hk2.sub fun _ _ _ => trivial) (fun k hb => .inr (by (have : g2 = k := by simpa [OB.q, Value.ownBlock] using hb); omega)) ?_)
    refine ⟨us ++ [u1], g2, 0, cap3, by simp, by have := hk.size; omega, (Array.getElem?_eq_some_iff.1 hg2).1, by simpa using hnc, hcm3, ?_, hn2, fun j hj => ⟨?_, Ze8 hg2⟩, fun j u hj => ?_⟩
    · refine hr2.move hk2 fun k hlt hs => ⟨trivial, hs.1, fun p hp => ?_⟩
      rcases List.mem_cons.1 hp with rfl | hp
      · intro hb
        have : g2 = k := by simpa [OB.q, Value.ownBlock] using hb
        omega
      · exact hs.2 p (List.mem_cons_of_mem _ hp)
    · rw [Zd3 hg2, Nat.zero_add, Array.getElem?_eq_getElem (by omega)]; rfl
    · rw [Zd3 hg2, Nat.zero_add, ← Array.getElem?_toList]
      rw [← htk, List.getElem?_take] at hj
      split at hj
      · exact hj
      · cases hj
theorem ZhA {α : Type} {f : α → List CD} {ops : Array Oper} {rest : List Oper} {bytes d m s : Nat} (xs : List α) (y1 : α) (hf : ∀ x, (f x).length = 1) (ht : Zfp P t e 1 bytes) (hJ : Stab J) (hJ0 : J w0)
    (hg : o.guard = none) (hop : o.op = .call { callee := .builtin .append, args := #[x, y], argTypes := #[t, t] }) (hd : o.dst = some d) (hN : d < N) (hx : x = .tmp s) (he : env[m]? = some (s, .lit v))
    (hy : ∀ a w, St All (SO S (OB.q v (xs.map f) :: O)) w0 N env (XO J S w0.heap.size (OB.q v (xs.map f) :: O)) a w → Rel (SO S (OB.q v (xs.map f) :: O)) w (.rd (.sl ([y1].map f))) (a.eval y)) (hb : (xs.length + 1) * bytes ≤ 140737488355328) (h63 : xs.length + 1 ≤ 9223372036854775807)
    (next : ∀ v' a w, St All (SO S (OB.q v' ((xs ++ [y1]).map f) :: O)) w0 N ((d, .lit v') :: YB d env) (XO J S w0.heap.size (OB.q v' ((xs ++ [y1]).map f) :: O)) a w → wpListIn Fence.wide n P ops Q rest a w) :
    ∀ a w, St All (SO S (OB.q v (xs.map f) :: O)) w0 N env (XO J S w0.heap.size (OB.q v (xs.map f) :: O)) a w → wpListIn Fence.wide n P ops Q (o :: rest) a w :=
  ZaB (O2 := fun v' => OB.q v' ((xs ++ [y1]).map f) :: O) (av := fun v' => .lit v') hg hd hN (fun a w h => ZJ (ZjK ht hJ hJ0 hop h.keep h.x (by rw [hx]; exact (h.get m he).lit) (hy a w h) (hf _) (by simpa using hb) (by simpa [maxLen] using h63)) fun u w' hs => ⟨u, by rw [List.map_append]; exact hs, Rel.of_lit _ (q_lit (hs.2.1.2.1 _ (List.mem_cons_self ..)))⟩) next
theorem Zc9 {s m : Nat} (hS : ∀ b, w0.heap.size ≤ b → S b) (h : St All (SO S (OB.q v rows :: O)) w0 N env (XO J S w0.heap.size (OB.q v rows :: O)) a w) (he : env[m]? = some (s, .lit v)) :
    St All (SO S O) w0 N ((s, .rd (.sl rows)) :: YB s env) (XO J S w0.heap.size O) a w := by
  have h' := Yt h
  refine ⟨h.defs, h.size, h.keep, h'.x, fun p hp => ?_⟩
  rcases List.mem_cons.1 hp with rfl | hp
  · refine ⟨(h.env _ (List.mem_of_getElem? he)).1, ?_⟩
    have hval : a.tmps.getD s undef = v := (h.get m he).lit
    simp only
    rw [hval]
    simp only [Rel]
    obtain ⟨us, g, off, cap, hve, hlo, hg, hlc, hcm, hr, h1, hc, hu⟩ := h.x.2.1 (OB.q v rows) (by simp)
    have hSO : SO S O g := by
      refine ⟨hS g hlo, fun p hp hb => ?_⟩
      exact (List.pairwise_cons.1 h.x.2.2).1 p hp g (by rw [hve]; rfl) hb
    rw [hve]
    exact Rd.of_cells (n := 1) hlc hcm hg hSO h1 (hr.sub fun k _ hk => hk.drop) hu
  · exact h'.env p (List.mem_filter.1 hp).1
theorem Zcs {g : Nat} : ∀ (vs : List Value) (k : Nat) (w : World), Keeps (fun b => b ≠ g) w (w.setCells g k vs)
  | [], _, w => Keeps.refl _ w
  | u :: vs, k, w => by
    have h1 : Keeps (fun b => b ≠ g) w (w.setCell ⟨g, k, none⟩ u) := Zdo
    exact h1.trans (Zcs vs (k + 1) _)
theorem ZfR (q : Nat) (w : World) : Keeps All w (w.drewN q) := ⟨rfl, rfl, rfl, Nat.le_refl _, fun _ _ _ => rfl⟩
theorem Zjv : ∀ {xs : List Int} {us : List Value}, RdL S w (xs.map Yq).flatten us → us = xs.map fun z => Value.int .i64 z
  | [], us, h => List.eq_nil_of_length_eq_zero (by rw [h.length]; rfl)
  | _ :: _, [], h => h.elim
  | _ :: xs, _ :: us, h => by
    obtain rfl := h.1.of_lit
    rw [Zjv (xs := xs) (us := us) h.2]; rfl
theorem Zju : ∀ xs : List Int, RdL S w (xs.map Yq).flatten (xs.map fun z => Value.int .i64 z)
  | [] => trivial
  | _ :: xs => ⟨.lit _ True.intro, Zju xs⟩
end
end Go.Proofs.YtnpgmdffjemnbaaGreatDoor
