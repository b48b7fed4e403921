/-
  THE ENGINE: a part of an element of an own row; a store there that changes nothing.
  THE ENGINE: rows of structs from given parts; a struct of a row and a verdict; verdicts compared.
  THE LAW's SAMPLE of verdicts, and its bounds (plain).
  A PROOF THAT IS CUT (plain): runs of a normal proof.
  A MACHINE THAT RUNS (plain).
  CONTRACTS of the program: copies of a database.
  CONTRACTS of the program: a machine that is handed out.
  CONTRACTS of the law of verdicts: its bounds, its sample, awake.
  THE LAW VerifyCuts returns true.
  THE LAW VerifyRuns returns true.
-/
import Derived.Laws.Pointers
import Derived.Test.YtgifeodnngodiaaGreatDoorMAD
namespace Go.Proofs.YtgifeodnngodiaaGreatDoor
open Go.RowKit
section
variable {n : Rn} {N : Nat} {P : Program} {J X : World → Prop} {S S' S'' : Nat → Prop} {O : List OB} {w0 : World} {env : List (Nat × AV)} {Q : Exit → Act → World → Prop}
variable {o : Oper} {a : Act} {w : World} {x y : Operand} {t e : TypeId} {v : Value} {k : Nat} {rows : List (List CD)}
theorem Zeq {s : TypeId} {f d j : Nat} (h1 : ZT P s f d) (hop : o.op = .fieldAddr s x f) (hi : ∃ lo, (OB.row v e k rows).inv lo S w) (h0 : 0 < rows.length) (h : Rel S' w (.lit (YY v j)) (a.eval x)) (hx : X w) : Z3 n P o a w (Yq S X (.lit (YY v (j + d))) w) := by
 obtain ⟨lo, hi⟩ := hi
 obtain ⟨g, cap, us, cur, rfl, _⟩ := Zal hi h0
 refine Zv (v := .pointer (some ⟨g, j + d, none⟩)) ?_ (Rel.of_lit _) hx
 have hv := h.lit
 simp only [YY] at hv
 simp [execOp, hop, hv, h1 g j w]
theorem Zju {c : CD} {r : List CD} {i j : Nat} (h1 : X6 P t) (hop : o.op = .load t x) (hi : ∃ lo, (OB.row v e k rows).inv lo S w) (h : Rel S' w (.lit (YY v (i * k + j))) (a.eval x)) (hr : rows[i]? = some r) (hc : r[j]? = some c) (hx : X w) : Z3 n P o a w (Yq S X (.rd c) w) := by
 obtain ⟨lo, hi⟩ := hi
 obtain ⟨g, cap, rfl, us, hrd, hcell⟩ := Zdh hi hr
 have hj : j < us.length := by rw [hrd.length]; exact (List.getElem?_eq_some_iff.1 hc).1
 have h0 := hcell j _ (List.getElem?_eq_getElem hj)
 refine Zv (v := us[j]) ?_ (by simp only [Rel]; exact hrd.get hc (List.getElem?_eq_getElem hj)) hx
 have hv := h.lit
 simp only [YY] at hv
 simp [execOp, hop, hv, Instr.loadAt, Instr.sureAddr, loadVar, Sem.run_bind, h1 w, h0]
theorem Zrx {i j : Nat} {r : List CD} {c : CD} (hlen : ∀ q ∈ rows, q.length = k) (hr : rows[i]? = some r) (hc : r[j]? = some c) : rows.flatten[i * k + j]? = some c := by
 have hlt : i < rows.length := (List.getElem?_eq_some_iff.1 hr).1
 have hge : rows[i] = r := (List.getElem?_eq_some_iff.1 hr).2
 have hj : j < r.length := (List.getElem?_eq_some_iff.1 hc).1
 rw [← List.getElem?_drop, ZbV rows i hlen, List.drop_eq_getElem_cons hlt, hge, List.flatten_cons, List.getElem?_append_left hj, hc]
theorem Zl9 {c : CD} {r : List CD} {i j : Nat} (hJ : Stab J) (hJ0 : J w0) (hs : Xx P t 1) (hop : o.op = .store t x y) (hk0 : Keeps All w0 w) (hx : XO J S w0.heap.size (OB.row v e k rows :: O) w) (h1 : Rel S' w (.lit (YY v (i * k + j))) (a.eval x))
 (h2 : Rel (SO S (OB.row v e k rows :: O)) w (.rd c) (a.eval y)) (hrow : rows[i]? = some r) (hc : r[j]? = some c) :
 Z3 n P o a w fun _ w' => Zay J S w0 (OB.row v e k rows :: O) w (OB.row v e k rows :: O) w' := by
 have hl : i < rows.length := (List.getElem?_eq_some_iff.1 hrow).1
 obtain ⟨g, cap, old, cur, rfl, hlo, hg, hnc, hcm, hcs, htake, hul, hrd, hlen⟩ := Zal (hx.2.1 (OB.row v e k rows) (by simp)) (by omega)
 simp only [Rel] at h2
 have hv : (a.eval y).cells.toList = [a.eval y] := by rw [ZbY h2.one]
 have hge : rows[i] = r := (List.getElem?_eq_some_iff.1 hrow).2
 have hj : j < r.length := (List.getElem?_eq_some_iff.1 hc).1
 have hrk : r.length = k := hlen r (hge ▸ List.getElem_mem hl)
 have hik : i * k + j + 1 ≤ rows.length * k := by
  have := Nat.mul_le_mul_right k hl
  rw [Nat.succ_mul] at this
  omega
 generalize hp : i * k + j = p at *
 have hf : rows.flatten[p]? = some c := hp ▸ Zrx hlen hrow hc
 have hrc : rows.length * k ≤ cap * k := Nat.mul_le_mul_right k hnc
 have hr : RdL (SO S (OB.row (.slice (some ⟨g, 0, none⟩) rows.length cap) e k rows :: O)) w [c] [a.eval y] := ⟨h2, trivial⟩
 have hrun := Qx (P := P) (ty := t) (o := p) (cur := cur.toList) (t := e) hv (by simpa using hs) (by simpa using hg) (by simp; omega) hr.one
 have hlt : g < w.heap.size := (Array.getElem?_eq_some_iff.1 hg).1
 have hk : Keeps (fun b => ¬ (OB.row (.slice (some ⟨g, 0, none⟩) rows.length cap) e k rows).blk b) w (w.setRow g (cur.toList.take p ++ [a.eval y] ++ cur.toList.drop (p + [a.eval y].length)).toArray) :=
  (QP (g := g)).sub fun b _ hb e => hb (by simp [OB.row, Value.ownBlock, e])
 have hsub : ∀ b, b < w.heap.size → SO S (OB.row (.slice (some ⟨g, 0, none⟩) rows.length cap) e k rows :: O) b → (¬ (OB.row (.slice (some ⟨g, 0, none⟩) rows.length cap) e k rows).blk b) ∧ SO S (OB.row (.slice (some ⟨g, 0, none⟩) rows.length cap) e k rows :: O) b := fun b _ hs => ⟨hs.2 (OB.row (.slice (some ⟨g, 0, none⟩) rows.length cap) e k rows) (by simp), hs⟩
 refine ZaW (w' := w.setRow g (cur.toList.take p ++ [a.eval y] ++ cur.toList.drop (p + [a.eval y].length)).toArray) ?_ (Zak hJ hJ0 hk0 hx hk (fun b hb => .inl hb) ⟨old.take p ++ [a.eval y] ++ old.drop (p + 1), ⟨?_, .inr ⟨g, cap, _, rfl, hlo, setRow_heap w g _ _ e _ hg, hnc, hcm, ?_, ?_⟩⟩, ?_, hlen⟩)
 · have hv' := h1.lit
   simp only [YY] at hv'
   rw [execOp, hop]
   simp only [hv', Sem.run_bind, hrun]
   rfl
 · simp; omega
 · simp; omega
 · rw [← htake]
   exact Zh2 cur.toList p (rows.length * k) [a.eval y] (by simpa using hik) (by simp; omega)
 · have hfl : rows.flatten = rows.flatten.take p ++ [c] ++ rows.flatten.drop (p + 1) := by
    have hpl : p < rows.flatten.length := (List.getElem?_eq_some_iff.1 hf).1
    have hpe : rows.flatten[p] = c := (List.getElem?_eq_some_iff.1 hf).2
    rw [List.append_assoc, List.singleton_append, ← hpe, ← List.drop_eq_getElem_cons hpl, List.take_append_drop]
   rw [hfl]
   exact (((hrd.take p).move hk hsub).append (hr.move hk hsub)).append ((hrd.drop (p + 1)).move hk hsub)
end
theorem Zhf {n : Rn} {P : Program} {X : World → Prop} {S : Nat → Prop} {o : Oper} {a : Act} {w : World} {x : Operand} {t u : TypeId} {b off : Nat} (ht : P.underlying t = some (.pointer (P.pointee t))) (hop : o.op = .binOp .eql t x (.const (.pointer none)) u) (h1 : Rel S w (.at b off) (a.eval x)) (hx : X w) : Z3 n P o a w (Yq S X (.bool false) w) :=
 Zam (v1 := .pointer (some ⟨b, off, none⟩)) (v2 := .pointer none) True.intro (by cases x <;> rfl) (run_eql_pointer_nil w t (some ⟨b, off, none⟩) ht) hop (by rw [h1.lit]; exact Rel.of_lit _) (Rel.of_lit _) hx
theorem ZkO {n : Rn} {P : Program} {X : World → Prop} {S : Nat → Prop} {o : Oper} {a : Act} {w : World} {x : Operand} {t u : TypeId} {b off : Nat} (ht : P.underlying t = some (.pointer (P.pointee t))) (hop : o.op = .binOp .neq t x (.const (.pointer none)) u) (h1 : Rel S w (.at b off) (a.eval x)) (hx : X w) : Z3 n P o a w (Yq S X (.bool true) w) :=
 Zam (v1 := .pointer (some ⟨b, off, none⟩)) (v2 := .pointer none) True.intro (by cases x <;> rfl) (run_neq_pointer_nil w t (some ⟨b, off, none⟩) ht) hop (by rw [h1.lit]; exact Rel.of_lit _) (Rel.of_lit _) hx
theorem sq_on {K : Nat → Prop} {n : Rn} {P : Program} {X : World → Prop} {S : Nat → Prop} {N : Nat} {w0 : World} {env : List (Nat × AV)} {Q : Exit → Act → World → Prop} {ops : Array Oper} {rest : List Oper} {o p : Oper} {j s : Nat} {g : Bool} (hg : o.guard = some (j, g)) (hp : ops[j]? = some p) (hs : p.dst = some s) (m : Nat) (he : env[m]? = some (s, .bool g))
 (h : ∀ a w, St K S w0 N env X a w → wpListIn n.F n.d P ops Q ({ o with guard := none } :: rest) a w) : ∀ a w, St K S w0 N env X a w → wpListIn n.F n.d P ops Q (o :: rest) a w := fun a w hst => by
 have hval : a.tmps.getD s undef = .bool g := (hst.get m he).lit
 have hlt : s < a.tmps.size := by rw [hst.size]; exact (hst.env _ (List.mem_of_getElem? he)).1
 have hget : a.tmps[s]? = some (.bool g) := by
  rw [Array.getD_eq_getD_getElem?, Array.getElem?_eq_getElem hlt] at hval
  rw [Array.getElem?_eq_getElem hlt]; simpa using hval
 have hw : Region.wanted o (yielded ops a.tmps) = true := by
  simp only [Region.wanted, hg, yielded, hp, Option.bind_some, hs, hget]
  cases g <;> rfl
 have h2 := h a w hst
 simp only [wpListIn, hw, if_true]
 simp only [wpListIn, Region.wanted, if_true] at h2
 exact h2
theorem Zbc {J : World → Prop} {S S' : Nat → Prop} {O : List OB} {w0 : World} {n : Rn} {P : Program} {o : Oper} {a : Act} {w : World} {x y : Operand} {t : TypeId} {b off : Nat} {cs es : List CD} {c : CD} (hJ : Stab J) (hJ0 : J w0) (hs : Xx P t 1) (hop : o.op = .store t x y) (hk0 : Keeps All w0 w) (hx : XO J S w0.heap.size (OB.var b cs :: O) w) (h1 : Rel S' w (.at b off) (a.eval x))
 (h2 : Rel (SO S (OB.var b cs :: O)) w (.rd c) (a.eval y)) (hl : off + 1 ≤ cs.length) (he : cs.take off ++ [c] ++ cs.drop (off + 1) = es) : Z3 n P o a w fun _ w' => Zay J S w0 (OB.var b cs :: O) w (OB.var b es :: O) w' := by
 have h2' := h2
 simp only [Rel] at h2'
 exact Xb (news := [c]) (us := [a.eval y]) hJ hJ0 hs hop hk0 hx h1 (by rw [ZbY h2'.one]) ⟨h2', trivial⟩ hl he
theorem Zl1 {P : Program} {J : World → Prop} {f : FuncId} {args : List AV} {e : TypeId} {k : Nat} {rows : List (List CD)} (h : FnM (ι := Value) P J f [] args [] (fun i => .lit i) (fun i => [OB.row i e k rows])) : Fn P J f args (.rd (.sl rows)) := by
 intro S w vs hS hJ ha
 refine Calls.mono (h S w [] w vs hS hJ Zp (Keeps.refl _ _) (Zpl hJ) (ha.sub fun k _ hk => ⟨hk, fun q hq => (by cases hq)⟩)) ?_
 rintro e' w' ⟨i, v, he, hv, hk, hx⟩
 have hi := hx.2.1 (OB.row i e k rows) (by simp)
 have hv' := hv.lit
 subst hv'
 exact ⟨_, he, ZfN (fun b hb => hS b ((OB.row _ _ _ _).lt hi b hb).1) (OB.sub hi fun k _ hk => hk.1), hk, hx.1⟩
theorem ZkT : ∀ (r : List Value) (s off : Nat) (pre old post : List Value), pre.length = off + s → old.length = r.length →
 (r.zipIdx s).foldl (fun (cs : Array Value) (x : Value × Nat) => cs.setIfInBounds (off + x.2) x.1) (pre ++ old ++ post).toArray = (pre ++ r ++ post).toArray
 | [], s, off, pre, old, post, _, h2 => by
  have : old = [] := List.length_eq_zero_iff.1 (by simpa using h2)
  subst this
  rfl
 | v :: r, s, off, pre, old, post, h1, h2 => by
  match old, h2 with
  | u :: old, h2 =>
   rw [List.zipIdx_cons, List.foldl_cons]
   have e : ((pre ++ u :: old ++ post).toArray.setIfInBounds (off + s) v) = ((pre ++ [v]) ++ old ++ post).toArray := by
    rw [List.setIfInBounds_toArray]
    congr 1
    rw [List.append_assoc, List.set_append_right _ _ (by omega), h1.symm, Nat.sub_self]
    simp
   rw [e, ZkT r (s + 1) off (pre ++ [v]) old post (by simp; omega) (by simpa using h2)]
   simp
theorem ZgE {k : Nat} : ∀ (rows : List (List Value)) (i : Nat) (pre z : List Value), pre.length = i * k → z.length = rows.length * k → (∀ r ∈ rows, r.length = k) →
 Instr.fill (fun i => some (i * k, k)) (pre ++ z).toArray ((rows.zipIdx i).map fun p => (p.2, Value.agg p.1.toArray)) = some (pre ++ rows.flatten).toArray
 | [], i, pre, z, _, h2, _ => by
  have : z = [] := List.length_eq_zero_iff.1 (by simpa using h2)
  subst this
  simp [Instr.fill]
 | r :: rows, i, pre, z, h1, h2, h3 => by
  have hr := h3 r (by simp)
  have hz : z.length = k + rows.length * k := by rw [h2, List.length_cons, Nat.succ_mul, Nat.add_comm]
  have hcell : (Value.agg r.toArray).cells = r.toArray := rfl
  simp only [List.zipIdx_cons, List.map_cons, Instr.fill, hcell]
  rw [if_neg (by simp [hr]; omega)]
  have e : (Array.foldl (fun cs (x : Value × Nat) => cs.setIfInBounds (i * k + x.snd) x.fst) (pre ++ z).toArray r.toArray.zipIdx) = ((pre ++ r) ++ z.drop k).toArray := by
   have := ZkT r 0 (i * k) pre (z.take k) (z.drop k) h1 (by rw [List.length_take]; omega)
   rw [List.append_assoc pre, List.take_append_drop] at this
   rw [← this]
   simp
  rw [e, ZgE rows (i + 1) (pre ++ r) (z.drop k) (by rw [List.length_append, h1, hr, Nat.succ_mul]) (by rw [List.length_drop]; omega) fun q hq => h3 q (by simp [hq])]
  simp
section
variable {n : Rn} {N : Nat} {P : Program} {J X : World → Prop} {S S' S'' : Nat → Prop} {O : List OB} {w0 : World} {env : List (Nat × AV)} {Q : Exit → Act → World → Prop}
variable {o : Oper} {a : Act} {w : World} {t e u : TypeId} {x y : Operand}
theorem ZkG {k : Nat} : ∀ {cs : List (List CD)} {vs : List Value}, RelL S w (cs.map AV.agg) vs → (∀ r ∈ cs, r.length = k) →
 ∃ us : List (List Value), vs = us.map (fun r => Value.agg r.toArray) ∧ us.length = cs.length ∧ (∀ r ∈ us, r.length = k) ∧ RdL S w cs.flatten us.flatten
 | [], vs, h, _ => by
  simp only [List.map_nil, RelL] at h
  subst h
  exact ⟨[], rfl, rfl, by simp, trivial⟩
 | c :: cs, vs, h, hk => by
  simp only [List.map_cons, RelL] at h
  obtain ⟨v, vs', rfl, h1, h2⟩ := h
  simp only [Rel] at h1
  obtain ⟨u, rfl, hr⟩ := h1
  obtain ⟨us, rfl, hl, hk2, hr2⟩ := ZkG (cs := cs) h2 fun r hr => hk r (by simp [hr])
  refine ⟨u :: us, rfl, by simp [hl], fun r hr3 => ?_, ?_⟩
  · rcases List.mem_cons.1 hr3 with rfl | hr3
    · rw [hr.length]; exact hk c (by simp)
    · exact hk2 r hr3
  · rw [List.flatten_cons, List.flatten_cons]
    exact hr.append hr2
theorem ZfS {k m : Nat} {cs : List (List CD)} {vs : List Value} {z : Array Value} {parts : Array (Nat × Operand)} (ht : Yi P t e k) (hz : ∀ w, (zeroValue e).run P w = .ok (.agg z) w) (hop : o.op = .buildSlice t m parts) (hp : (parts.map fun (i, x) => (i, a.eval x)).toList = vs.zipIdx.map fun p => (p.2, p.1)) (h : RelL S w (cs.map AV.agg) vs) (hk : ∀ r ∈ cs, r.length = k) (hl : cs.length = m) (h1 : 1 ≤ k) (hm : 1 ≤ m * k) (hm2 : m * k ≤ 16777216)
 (hS : S w.heap.size) (hx : ∀ w', Keeps All w w' → X w') : Z3 n P o a w (Yq S X (.rd (.sl cs)) w) := by
 obtain ⟨us, rfl, hul, huk, hall⟩ := ZkG h hk
 have hfl : us.flatten.length = m * k := by
  have : ∀ us : List (List Value), (∀ r ∈ us, r.length = k) → us.flatten.length = us.length * k := by
   intro us
   induction us with
   | nil => simp
   | cons r us ih => intro h; rw [List.flatten_cons, List.length_append, h r (by simp), ih fun q hq => h q (by simp [hq]), List.length_cons, Nat.succ_mul, Nat.add_comm]
  rw [this us huk, hul, hl]
 have hf := ZgE us 0 [] ((List.range (m * k)).map (z[· % z.size]!)) (by simp) (by simp [hul, hl]) huk
 have hf2 : Instr.fill (fun i => some (i * k, k)) ((Array.range (m * k)).map (z[· % z.size]!)) (parts.map fun (i, x) => (i, a.eval x)).toList = some us.flatten.toArray := by
  rw [hp, List.zipIdx_map, List.map_map]
  have e : (Array.range (m * k)).map (z[· % z.size]!) = ([] ++ (List.range (m * k)).map (z[· % z.size]!)).toArray := by
   apply Array.ext'
   simp [Array.toList_range]
  rw [e]
  exact hf
 have hk' : Keeps All w (w.alloc (.cells us.flatten.toArray e)) := (Keeps.refl _ _).alloc _
 refine ZS (v := .slice (some ⟨w.heap.size, 0, none⟩) m m) (w' := w.alloc (.cells us.flatten.toArray e)) ?_ ⟨?_, hk', hx _ hk'⟩
 · have hcz : (Value.agg z).cells = z := rfl
   rw [execOp, hop]
   simp only [Sem.run_bind, Instr.buildSlice, run_underlying ht.1, Result.andThen_ok, ht.2 w]
   simp [newRow, newObj]
   rw [hz w]
   simp only [Result.andThen_ok, hcz]
   have hf3 := hf2
   simp only [Array.toList_map] at hf3
   simp only [hf3]
   rw [if_neg (by omega), if_neg (by omega)]
   rfl
 · simp only [Rel]
   rw [show (m : Nat) = cs.length from hl.symm]
   refine Rd.of_cells (n := k) (us := us.flatten) (Nat.le_refl _) (by rw [hl]; exact Nat.le_trans (Nat.le_mul_of_pos_right m h1) (Nat.le_trans hm2 (by decide))) (by simp) hS hk (hall.keep hk' fun _ _ _ => trivial) fun j u hj => QR j u hj
def ZmS (P : Program) (t : TypeId) : Prop := ∀ (ad : Option Addr) (k c : Nat) (p q : Int), P.built t [(0, .slice ad k c), (1, .agg #[.int .i64 p, .int .i64 q])] = some #[.slice ad k c, .int .i64 p, .int .i64 q]
theorem Zb4 {c d : Int} {v : Value} (h : Rel S w (.agg [.lit (.int .i64 c), .lit (.int .i64 d)]) v) : v = .agg #[.int .i64 c, .int .i64 d] := by
 simp only [Rel] at h
 obtain ⟨us, rfl, hr⟩ := h
 match us, hr with
 | [p, q], hr =>
  obtain rfl := hr.1.of_lit
  obtain rfl := hr.2.1.of_lit
  rfl
theorem ZaL {xs : List ByteArray} {p q : Int} (ht : ZmS P t) (hop : o.op = .build t #[(0, x), (1, y)]) (h1 : Rel S w (.rd (Zb xs)) (a.eval x)) (h2 : Rel S w (.agg [.lit (.int .i64 p), .lit (.int .i64 q)]) (a.eval y)) (hx : X w) :
 Z3 n P o a w (Yq S X (.agg [Zb xs, .lit (.int .i64 p), .lit (.int .i64 q)]) w) := by
 have v2 := Zb4 h2
 simp only [Rel] at h1
 have g1 := h1
 obtain ⟨ad, cap, e1, _, _⟩ := g1.form
 have hrun := run_build (P := P) w t #[(0, a.eval x), (1, a.eval y)] #[a.eval x, .int .i64 p, .int .i64 q] (by rw [v2, e1]; exact ht ad _ cap p q)
 refine Zv (v := .agg #[a.eval x, .int .i64 p, .int .i64 q]) ?_ ?_ hx
 · rw [execOp, hop]
   simp only [List.map_toArray, List.map_cons, List.map_nil, Sem.run_bind, hrun]
   rfl
 · simp only [Rel]
   exact ⟨[a.eval x, .int .i64 p, .int .i64 q], rfl, h1, .lit _ True.intro, .lit _ True.intro, trivial⟩
def EqVd (P : Program) (t : TypeId) : Prop := ∀ (a b c d : Int) (w : World) (x y : Operand), (eqGuard .eql t x y (.agg #[.int .i64 a, .int .i64 b]) (.agg #[.int .i64 c, .int .i64 d])).run P w = .ok () w ∧ (eqGuard .neq t x y (.agg #[.int .i64 a, .int .i64 b]) (.agg #[.int .i64 c, .int .i64 d])).run P w = .ok () w ∧
 (Op.equal t (.agg #[.int .i64 a, .int .i64 b]) (.agg #[.int .i64 c, .int .i64 d])).run P w = .ok (decide (a = c) && decide (b = d)) w
theorem r_eqlV {c d c' d' : Int} (ht : EqVd P t) (hop : o.op = .binOp .eql t x y u) (h1 : Rel S w (.agg [.lit (.int .i64 c), .lit (.int .i64 d)]) (a.eval x)) (h2 : Rel S w (.agg [.lit (.int .i64 c'), .lit (.int .i64 d')]) (a.eval y)) (hx : X w) :
 Z3 n P o a w (Yq S X (.bool (decide (c = c') && decide (d = d'))) w) := by
 obtain ⟨g1, _, g3⟩ := ht c d c' d' w x y
 refine Zv (v := .bool (decide (c = c') && decide (d = d'))) ?_ (Rel.of_lit _) hx
 rw [execOp, hop]
 simp only [Zb4 h1, Zb4 h2, Sem.run_bind, g1, Result.andThen_ok, binOp, g3]
 rfl
theorem r_neqV {c d c' d' : Int} (ht : EqVd P t) (hop : o.op = .binOp .neq t x y u) (h1 : Rel S w (.agg [.lit (.int .i64 c), .lit (.int .i64 d)]) (a.eval x)) (h2 : Rel S w (.agg [.lit (.int .i64 c'), .lit (.int .i64 d')]) (a.eval y)) (hx : X w) :
 Z3 n P o a w (Yq S X (.bool (!(decide (c = c') && decide (d = d')))) w) := by
 obtain ⟨_, g1, g3⟩ := ht c d c' d' w x y
 refine Zv (v := .bool (!(decide (c = c') && decide (d = d')))) ?_ (Rel.of_lit _) hx
 rw [execOp, hop]
 simp only [Zb4 h1, Zb4 h2, Sem.run_bind, g1, Result.andThen_ok, binOp, g3]
 rfl
end
end Go.Proofs.YtgifeodnngodiaaGreatDoor
namespace Go.Proofs.YtgifeodnngodiaaGreatDoor
structure Exm where
 proof : List ByteArray
 v : Int × Int
instance instInhExm : Inhabited Exm := ⟨⟨[], (0, 0)⟩⟩
def exC (e : Exm) : List CD := [Zb e.proof, .lit (.int .i64 e.v.1), .lit (.int .i64 e.v.2)]
def exsC (l : List Exm) : CD := .sl (l.map exC)
def Zb6 : ByteArray := ⟨#[119, 112, 104]⟩
def ZeK : ByteArray := ⟨#[119, 112, 115]⟩
def ZaA : ByteArray := ⟨#[97, 120, 45, 49]⟩
def Zsk : ByteArray := ⟨#[119, 102, 102]⟩
def phT : ByteArray := ⟨#[112, 104]⟩
def psT : ByteArray := ⟨#[112, 115]⟩
def opT : ByteArray := ⟨#[40]⟩
def clT : ByteArray := ⟨#[41]⟩
def arT : ByteArray := ⟨#[45, 62]⟩
def tuT : ByteArray := ⟨#[124, 45]⟩
def exsD : List Exm := [⟨[Zb6, ZeK, ZaA], (0, 0)⟩, ⟨[Zb6, ZaA], (23, 1)⟩, ⟨[opT, ZaA, clT, ⟨#[65, 66, 67]⟩], (0, 0)⟩, ⟨[opT, clT, ⟨#[65, 66, 68]⟩], (21, 0)⟩, ⟨[ZeK, Zb6, ZaA], (28, 3)⟩]
def Zcd : Hy := ⟨Zb6, true, [Zsk, phT]⟩
def Zcc : Hy := ⟨ZeK, true, [Zsk, psT]⟩
def smTx : List ByteArray := [tuT, opT, phT, arT, opT, psT, arT, phT, clT, clT]
def Zsn : Fr := ⟨ZaA, false, [Zcd, Zcc], [], smTx, [], [], []⟩
def Zsm (p : List ByteArray) : Fr := ⟨⟨#[116, 104]⟩, true, [Zcd, Zcc], [], smTx, [], [], p⟩
def Z5 (p : List ByteArray) : Db := ⟨[Zsk, tuT, opT, clT, arT], [phT, psT], [Zsn, Zsm p]⟩
theorem sam0 : Zd0 (Z5 (ge exsD 0).proof) 1 = ((ge exsD 0).v, 0) := by kernel_rfl
theorem sam1 : Zd0 (Z5 (ge exsD 1).proof) 1 = ((ge exsD 1).v, 0) := by kernel_rfl
theorem sam2 : Zd0 (Z5 (ge exsD 2).proof) 1 = ((ge exsD 2).v, 0) := by kernel_rfl
theorem sam3 : Zd0 (Z5 (ge exsD 3).proof) 1 = ((ge exsD 3).v, 0) := by kernel_rfl
theorem sam4 : Zd0 (Z5 (ge exsD 4).proof) 1 = ((ge exsD 4).v, 0) := by kernel_rfl
theorem Zqy {k : Nat} (h : k < exsD.length) : Zd0 (Z5 (ge exsD k).proof) 1 = ((ge exsD k).v, 0) := by
 have : k = 0 ∨ k = 1 ∨ k = 2 ∨ k = 3 ∨ k = 4 := by
  have : exsD.length = 5 := rfl
  omega
 rcases this with rfl | rfl | rfl | rfl | rfl
 · exact sam0
 · exact sam1
 · exact sam2
 · exact sam3
 · exact sam4

def Zgv (h : Hy) : Bool := decide ((60 : Int) < ((h.text.length : Nat) : Int))
def Znd (s : ByteArray) : Bool := decide ((400 : Int) < ((s.size : Nat) : Int))
def ZlW (m : Int) (f : Fr) : Bool := decide (m < ((f.proof.length : Nat) : Int)) || decide ((60 : Int) < ((f.text.length : Nat) : Int)) || decide ((60 : Int) < ((f.hyps.length : Nat) : Int)) || decide ((60 : Int) < ((f.dummies.length : Nat) : Int)) || decide ((200 : Int) < ((f.apart.length : Nat) : Int)) || decide ((300 : Int) < ((f.wide.length : Nat) : Int)) || f.hyps.any Zgv || f.dummies.any Zgv || f.proof.any Znd
def Zdb (d : Db) (n m : Int) : Bool := decide (((d.frames.length : Nat) : Int) ≤ n) && decide (((d.consts.length : Nat) : Int) ≤ (200 : Int)) && decide (((d.vars.length : Nat) : Int) ≤ (60 : Int)) && !(d.frames.any (ZlW m))
theorem sum_le {l : List ByteArray} {m : Nat} (h : ∀ s ∈ l, s.size ≤ m) : Zb8 l ≤ l.length * m := by
 induction l with
 | nil => simp [Zb8]
 | cons s l ih =>
  have h1 := h s (by simp)
  have h2 := ih fun x hx => h x (by simp [hx])
  simp only [Zb8, List.map_cons, List.sum_cons, List.length_cons, Nat.succ_mul] at h2 ⊢
  omega
theorem sam_hw (p : List ByteArray) : ∀ f ∈ (Z5 p).frames, f.wide.length * 32 ≤ 140737488351232 := fun f hf => by
 have : f = Zsn ∨ f = Zsm p := by simpa [Z5] using hf
 rcases this with rfl | rfl <;> exact Nat.zero_le _
theorem sam_pl {k : Nat} (hk : k < exsD.length) : ∀ g ∈ (Z5 (ge exsD k).proof).frames, g.proof.length ≤ 100000 ∧ Zb8 g.proof ≤ 1000000000 := fun g hg => by
 have : g = Zsn ∨ g = Zsm (ge exsD k).proof := by simpa [Z5] using hg
 have hk2 : k = 0 ∨ k = 1 ∨ k = 2 ∨ k = 3 ∨ k = 4 := by
  have : exsD.length = 5 := rfl
  omega
 rcases this with rfl | rfl
 · exact ⟨Nat.zero_le _, Nat.zero_le _⟩
 · rcases hk2 with rfl | rfl | rfl | rfl | rfl <;> exact ⟨of_decide_eq_true (by kernel_rfl), of_decide_eq_true (by kernel_rfl)⟩
section
variable {fs : List Fr} {vars : List ByteArray} {f : Fr} {xs ys : List Itm} {M : List (ByteArray × Int)}
end
section
variable {d : Db} {z : Int} {t : List ByteArray}
theorem Zhg : (Zce d z t).2 = YV d z := by unfold Zce; split <;> simp_all
theorem ZhC {l : List ByteArray} (h : ∀ s ∈ l, s.size ≤ 200) (hl : l.length ≤ 201) : Zb8 l ≤ 1000000000 := by
 have h1 := sum_le h
 have h2 : l.length * 200 ≤ 201 * 200 := Nat.mul_le_mul_right 200 hl
 omega
end
section
variable {fs : List Fr} {vars : List ByteArray} {f : Fr} {xs : List Itm} {m : Ms} {d : Db} {t : List ByteArray}
theorem Zkq (h : InvM xs m) (hd : (Zy fs vars f xs m).did = false) : (Zy fs vars f xs m).kn = true ∧ (Zy fs vars f xs m).n = m.n := by
 obtain ⟨sk, tg, n, kn, v, did⟩ := m
 cases hk : kn with
 | true => rw [ZbH rfl]; exact ⟨rfl, rfl⟩
 | false =>
  subst hk
  cases hd' : Xe fs vars f sk tg (ge xs n) with
  | error c => rw [ZbI rfl hd']; exact ⟨rfl, rfl⟩
  | ok s =>
   exfalso
   rw [ZbG rfl hd'] at hd
   generalize (if (ge xs n).tagged = true then tg ++ [ge s ((s.length : Int) - 1).toNat] else tg) = tg' at hd
   unfold Zcs at hd
   split at hd <;> cases hd
theorem ZqJ {n : Nat} (ha : YV d ((n : Nat) : Int) = 0) : (Zce d ((n : Nat) : Int) t).1 = (Zib d.frames d.vars (ge d.frames n) (Yf d n t) ((Yf d n t).length + 1 - (Qh d n t).n) (Qh d n t)).v := by
 unfold Zce
 rw [if_pos ha]
 simp only [Int.toNat_natCast]
 rw [verV, show (Qh d n t).n = 0 from Zg5]
 rfl
theorem Zqz {m : Ms} {k : Nat} (h1 : m.n = k + 1) (h2 : ∀ t ∈ m.sk, 1 ≤ t.length ∧ t.length ≤ 2000) (h : (!decide (((m.n : Nat) : Int) = ((k + 1 : Nat) : Int)) || m.sk.any (fun l' => decide (((l'.length : Nat) : Int) = (0 : Int)) || decide ((2000 : Int) < ((l'.length : Nat) : Int)))) = true) : False := by
 rw [h1] at h
 simp only [decide_true, Bool.not_true, Bool.false_or, List.any_eq_true, Bool.or_eq_true, decide_eq_true_eq] at h
 obtain ⟨l, hl, h3⟩ := h
 have := h2 l hl
 omega
theorem ZkF (h : (((!Zdb d 20 200) || decide ((200 : Int) < ((t.length : Nat) : Int))) || t.any (fun s' => decide ((200 : Int) < ((s'.size : Nat) : Int)))) = false) : Zdb d 20 200 = true ∧ t.length ≤ 200 ∧ ∀ s ∈ t, s.size ≤ 200 := by
 simp only [Bool.or_eq_false_iff, Bool.not_eq_false', decide_eq_false_iff_not, List.any_eq_false, decide_eq_true_eq] at h
 obtain ⟨⟨h1, h2⟩, h5⟩ := h
 exact ⟨h1, by omega, fun s hs => by have := h5 s hs; omega⟩
theorem Zng {m : Ms} {k : Nat} {v : Int × Int} (hk : m.kn = true) (hv : v = m.v) (hn : m.n = k) :
 ((((decide ((if m.kn = true then ((m.v.1, m.v.2) : Int × Int) else (16, (m.n : Int))).1 = v.1) && decide ((if m.kn = true then ((m.v.1, m.v.2) : Int × Int) else (16, (m.n : Int))).2 = v.2)) && !false) && decide (((m.n : Nat) : Int) = ((k : Nat) : Int))) && true) = true := by
 subst hv
 simp [hk, hn]
def okCp (d : Db) : Prop := d.consts.length ≤ 100000 ∧ d.vars.length ≤ 100000 ∧ d.frames.length ≤ 100000 ∧ ∀ g ∈ d.frames, g.hyps.length ≤ 100000 ∧ g.dummies.length ≤ 100000 ∧ g.text.length ≤ 100000 ∧ g.proof.length ≤ 100000 ∧ g.apart.length ≤ 100000 ∧ g.wide.length ≤ 100000 ∧ (∀ h ∈ g.hyps, h.text.length ≤ 100000) ∧ ∀ h ∈ g.dummies, h.text.length ≤ 100000
theorem Znf (h : Zdb d 20 200 = true) : okCp d := by
 simp only [Zdb, Bool.and_eq_true, decide_eq_true_eq, Bool.not_eq_true', List.any_eq_false] at h
 obtain ⟨⟨⟨h1, h2⟩, h3⟩, h4⟩ := h
 refine ⟨by omega, by omega, by omega, fun g hg => ?_⟩
 have h5 := h4 g hg
 simp only [ZlW, Bool.or_eq_true, not_or, decide_eq_true_eq, Bool.not_eq_true, List.any_eq_false, Zgv] at h5
 obtain ⟨⟨⟨⟨⟨⟨⟨⟨p1, p2⟩, p3⟩, p4⟩, p5⟩, p6⟩, p7⟩, p8⟩, p9⟩ := h5
 refine ⟨by omega, by omega, by omega, by omega, by omega, by omega, fun y hy => ?_, fun y hy => ?_⟩
 · have := p7 y hy; omega
 · have := p8 y hy; omega
end
end Go.Proofs.YtgifeodnngodiaaGreatDoor
set_option maxHeartbeats 8000000
set_option maxRecDepth 100000
namespace Go.Proofs.YtgifeodnngodiaaGreatDoor
open Go.RowKit
theorem ZdR : Zq Tryz.prog 52 := Zu Tryz.func52 rfl rfl
theorem Zgd : X6 Tryz.prog 43 := fun w => by kernel_rfl
theorem Zms : Zq Tryz.prog 53 := Zu Tryz.func53 rfl rfl
theorem Zkg : Zfx Tryz.prog 43 [.lit .nilFunc] := ⟨(.nilFunc), fun w => by kernel_rfl, fun S w => (show RdL S w [.lit .nilFunc] [.nilFunc] from ⟨.lit _ True.intro, trivial⟩)⟩
theorem ZkC : Xx Tryz.prog 43 1 := fun w => by kernel_rfl
theorem ZmG : ZcI Tryz.prog 25 [.slice none 0 0, .slice none 0 0, .slice none 0 0] := ⟨fun i => (#[(0, 1), (1, 1), (2, 1)] : Array (Nat × Nat))[i]?, fun j hj => by rcases j with _ | _ | _ | j <;> first | rfl | (simp at hj; omega), fun parts => by kernel_rfl⟩
theorem ZcJ : Zfx Tryz.prog 37 [.lit (.string ⟨#[]⟩), .lit (.bool false), .sl [], .sl [], .sl [], .sl [], .sl [], .sl []] := ⟨(.agg #[.string ⟨#[]⟩, .bool false, .slice none 0 0, .slice none 0 0, .slice none 0 0, .slice none 0 0, .slice none 0 0, .slice none 0 0]), fun w => by kernel_rfl, fun S w => (show RdL S w [.lit (.string ⟨#[]⟩), .lit (.bool false), .sl [], .sl [], .sl [], .sl [], .sl [], .sl []] [.string ⟨#[]⟩, .bool false, .slice none 0 0, .slice none 0 0, .slice none 0 0, .slice none 0 0, .slice none 0 0, .slice none 0 0] from ⟨.lit _ (Nat.zero_le _), .lit _ True.intro, .nil _ _ (Nat.zero_le _), .nil _ _ (Nat.zero_le _), .nil _ _ (Nat.zero_le _), .nil _ _ (Nat.zero_le _), .nil _ _ (Nat.zero_le _), .nil _ _ (Nat.zero_le _), trivial⟩)⟩
theorem ZkD : Xx Tryz.prog 37 8 := fun w => by kernel_rfl
theorem Zdj {J : World → Prop} (hJ : Stab J) (l : List ByteArray) (b : l.length ≤ 100000) : Fn Tryz.prog J 52 [.rd (Zb l)] (.rd (Zb l)) := by
 refine Zx (N := 5) Tryz.func52 rfl rfl (lb rfl) fun S w0 hS hJ0 => ?_
 refine tw Z7 ?_
 refine ln 0 fun hl1 => ?_
 refine qso tb hJ [0] [_] [_] ?_
 refine tsq ?_
 refine snK 1 tb rfl ?_
 refine Xd (O := []) (R := []) (ZcT hJ (xs := l) (by first | omega | (simp; omega) | grind [Ze])) ZdT rfl rfl rfl (lb rfl) hS hJ0 Zp (fun a w h => (Za (h.get 0 rfl) Zc)) fun z1 => ?_
 refine snK 1 tb rfl ?_
 refine seK [0] [_] rfl ?_
 refine nx (tw (fun h => Ys hS h (m := 0) (s := 2) rfl) ?_)
 exact Zi (X8 (m := 0) rfl rfl rfl)
theorem ZpJ {J : World → Prop} (hJ : Stab J) (l : List Hy) (b : l.length ≤ 100000 ∧ ∀ h ∈ l, h.text.length ≤ 100000) : Fn Tryz.prog J 53 [.rd (Ya l), .ptr [.lit (.func (.func 52) #[] #[])]] (.rd (Ya l)) := by
 refine Zx (N := 25) Tryz.func53 rfl rfl (lb rfl) fun S w0 hS hJ0 => ?_
 refine tw Z7 ?_
 refine ln 0 fun hl1 => ?_
 refine qso tb hJ [0,1] [_] [_,_] ?_
 refine tsq ?_
 refine snK 1 tb rfl ?_
 refine Xd (O := []) (R := []) (Ziq hJ (xs := l) (by first | omega | (simp; omega) | grind [Ze])) Zmy rfl rfl rfl (lb rfl) hS hJ0 Zp (fun a w h => (Za (h.get 0 rfl) Zc)) fun z1 => ?_
 refine snK 1 tb rfl ?_
 refine seK [0,3] [_,_] rfl ?_
 refine nx (Zo (Zod tb hJ [0,1,1001,1002] [_,.int (l.length : Nat),_] [1] [_,_,_,_] rfl ⟨fun _ _ _ hx hl _ => Zbj ZI rfl (Ql hS hx (mo 0 rfl) (hl.D 0 7 rfl rfl)) hx, trivial⟩ ?_))
 refine Zg (lpo (ι := Nat) (fun k => (k ≤ l.length)) (fun _ => [OB.row z1 45 3 (l.map hyC)]) (fun k => [(9, .int (k : Nat))]) (fun k => l.length - k) [0,1,2,3] [_,_,_] 0 (show (0 ≤ l.length) from Nat.zero_le _) ?_)
 rintro k hF
 have f1_1 : k ≤ l.length := hF
 refine qso tb hJ [0,1,2,3,1000] [_] [_,_,_,_,_] ?_
 refine cjS 4 (fun hb1 => ?_) fun hb1 => ?_
 ·
  try simp at hb1
  refine Zf (nx (Zo (Zg (qso tb hJ [0,1,2,3,1001] [_,_] [_,_,_,_,_] ?_))))
  refine fun a w h => Yv (γ := Unit) (fun ix' => ([.lit z1, .int (k : Nat), .lit (.func (.func 52) #[] #[]), .lit z1, .int (k : Nat), .lit (YY z1 (k * 3)), .lit (YY z1 (k * 3 + 2)), .rd (Zb ((ge l k).text)), .rd (Zb ((ge l k).text)), .lit (YY z1 (k * 3)), .lit (YY z1 (k * 3 + 2)), .any] : List AV).getD ix' .any) (fun _ => true) [(0, fun (g : Unit) => .lit z1), (1, fun (g : Unit) => .ptr [.lit (.func (.func 52) #[] #[])]), (8, fun (g : Unit) => .int (l.length : Nat)), (9, fun (g : Unit) => .int (k : Nat))] (fun (j' : Nat) (g : Unit) => match j' with | 0 => [OB.row z1 45 3 (l.map hyC)] | _ => [OB.row z1 45 3 (l.map hyC)]) (fun (k' : Nat) (g : Unit) => match k' with | 0 => undef | _ => undef) [11] 1 () (fun _ => rfl) h hJ Ye rfl rfl rfl rfl rfl rfl (fun j' g hj p hp => by rcases j' with _ | _ | _ | j' <;> first | exact hp | exact List.mem_cons_of_mem _ hp | exact List.mem_cons_of_mem _ (List.mem_cons_of_mem _ hp) | (exfalso; omega)) ⟨?_, ⟨?_, ⟨?_, ⟨?_, ⟨?_, ⟨?_, ⟨?_, ⟨?_, ⟨?_, ⟨?_, ⟨?_, ⟨?_, trivial⟩⟩⟩⟩⟩⟩⟩⟩⟩⟩⟩⟩ ⟨?e5_1_0, trivial⟩ ⟨.old 0 0 _ rfl rfl, ⟨.old 1 1 _ rfl rfl, ⟨.old 2 8 _ rfl rfl, ⟨.old 3 9 _ rfl rfl, trivial⟩⟩⟩⟩ ?n5_1
  exact oX rfl fun hx hl => Yl rfl (hl.env 0 0 _ rfl rfl) hx
  exact oX rfl fun hx hl => Yl rfl (hl.env 4 4 _ rfl rfl) hx
  exact oX rfl fun hx hl => Zz Zgd rfl (hl.env 1 1 _ rfl rfl) hx
  exact oX rfl fun hx hl => Yl rfl (hl.env 0 0 _ rfl rfl) hx
  exact oX rfl fun hx hl => Yl rfl (hl.env 4 4 _ rfl rfl) hx
  exact fun _ O' hO' => ⟨rfl, fun _ _ _ hx hl _ => YN (i := (k : Int)) ZH rfl (Zd hx (hO' _ (mo 0 rfl))) (hl.D 3 15 rfl rfl) (hl.D 4 16 rfl rfl) (Int.natCast_nonneg _) (by rw [List.length_map]; exact Int.ofNat_lt.2 (by first | omega | (simp; omega) | grind [Ze])) hx⟩
  exact fun _ O' hO' => ⟨rfl, fun _ _ _ hx hl _ => Zeq X4 rfl (Zd hx (hO' _ (mo 0 rfl))) (by rw [List.length_map]; exact Nat.lt_of_le_of_lt (Nat.zero_le _) (by first | omega | (simp; omega) | grind [Ze])) (hl.D 5 17 rfl rfl) hx⟩
  exact fun _ O' hO' => ⟨rfl, fun _ _ _ hx hl _ => Zju (i := k) (j := 2) Y8 rfl (Zd hx (hO' _ (mo 0 rfl))) (hl.D 6 18 rfl rfl) (Qi (xs := l) (k := k) (by first | omega | (simp; omega) | grind [Ze])) rfl hx⟩
  exact oY rfl fun hk hx hl => Q1 ((Zdj hJ ((ge l k).text) (b.2 _ (Ze (by omega)))).rr) ZdR rfl (Q7 (hl.D 2 14 rfl rfl)) (Zn hS _ hk hx) (hx.1) Zp (Za (hl.D 7 19 rfl rfl) Zc) (jo hJ hx)
  exact fun _ O' hO' => ⟨rfl, fun _ _ _ hx hl _ => YN (i := (k : Int)) ZH rfl (Zd hx (hO' _ (mo 0 rfl))) (hl.D 0 12 rfl rfl) (hl.D 1 13 rfl rfl) (Int.natCast_nonneg _) (by rw [List.length_map]; exact Int.ofNat_lt.2 (by first | omega | (simp; omega) | grind [Ze])) hx⟩
  exact fun _ O' hO' => ⟨rfl, fun _ _ _ hx hl _ => Zeq X4 rfl (Zd hx (hO' _ (mo 0 rfl))) (by rw [List.length_map]; exact Nat.lt_of_le_of_lt (Nat.zero_le _) (by first | omega | (simp; omega) | grind [Ze])) (hl.D 9 21 rfl rfl) hx⟩
  exact Zl rfl
  case e5_1_0 => exact ⟨_, rfl, rfl, rfl, rfl, fun g _ w hk hx hl _ => Zt (Zl9 (i := k) (j := 2) hJ hJ0 ZaI rfl hk hx (hl.D 10 22 rfl rfl) (hl.D 8 20 rfl rfl) (Qi (xs := l) (k := k) (by first | omega | (simp; omega) | grind [Ze])) rfl) fun v w' hp => ⟨g, rfl, fun _ _ => rfl, fun e => (by cases e), hp⟩⟩
  clear a w h
  intro _
  dsimp only [List.map]
  refine nx (Xa tb hJ [0,1,2,1001] [.int (k + 1 : Nat),_] [0] [_,_,_,_] rfl ⟨YI, trivial⟩ ?_)
  exact XG (k + 1) [0,1,2,3] (show ((k + 1) ≤ l.length) from by omega)
 ·
  try simp at hb1
  refine ZB (nx (qso tb hJ [1001] [_,_] [_] ?_))
  refine tw (fun h => Ys hS h (m := 0) (s := 3) rfl) ?_
  exact Zi (X8 (m := 0) rfl rfl rfl)
theorem Zgb {J : World → Prop} (hJ : Stab J) (xs : List ByteArray) (b : xs.length * 16 ≤ 140737488351232) : Fn Tryz.prog J 14 [.rd (Zb xs)] (.rd (Zb xs)) := Zl1 (ZcT hJ xs b)
theorem Zgc {J : World → Prop} (hJ : Stab J) (xs : List Pr) (b : xs.length * 32 ≤ 140737488351232) : Fn Tryz.prog J 54 [.rd (Yk xs)] (.rd (Yk xs)) := Zl1 (Zip hJ xs b)
theorem ZnJ {J : World → Prop} (hJ : Stab J) (d : Db) (b : okCp d) : Fn Tryz.prog J 39 [.agg (dbC d)] (.agg (dbC d)) := by
 refine Zx (N := 61) Tryz.func39 rfl rfl (lb rfl) fun S w0 hS hJ0 => ?_
 refine tw Z7 ?_
 obtain ⟨u, hu⟩ : ∃ v, v = Value.slice none 0 0 := ⟨_, rfl⟩
 refine tsq ?_
 refine sq (.ptr (dbC d)) rfl rfl (lb rfl) (fun _ _ h => YQ rfl (h.get 0 rfl) (Zn hS _ h.keep h.x _ (Nat.le_refl _)) (jo hJ h.x)) ?_
 refine ZU Zbp hJ rfl rfl rfl (lb rfl) fun b1 => ?_
 refine seK [0,1] [_,_] rfl ?_
 refine nx (tsq ?_)
 refine ZU Zkg hJ rfl rfl rfl (lb rfl) fun b2 => ?_
 refine ZM (b := b2) (off := 0) (cs := [.lit .nilFunc]) (es := [.lit (.func (.func 52) #[] #[])]) hJ hJ0 ZkC rfl rfl rfl (lb rfl) rfl (fun a w h => ⟨(h.get 0 rfl), (Zdi 52)⟩) ?_
 refine kw (fun h => Yt hS h (m := 0) (s := 3) rfl) ?_
 refine seK [0,1,2] [_,_,_] rfl ?_
 refine nx (ZL tb hJ [0,1,2,1001] [.fn 53 [.ptr [.lit (.func (.func 52) #[] #[])]],_] [0] [_,_,_,_] rfl ⟨fun _ _ _ hx hl _ => Y3 (caps := [(Go.Operand.tmp 3)]) rfl (Za (hl.env 0 3 _ rfl rfl) Zc) hx, trivial⟩ ?_)
 refine Zo (fun a w h => Yv (γ := Nat) (fun ix' => ([.lit (.func (.func 52) #[] #[]), .ptr (dbC d), .rd (Zb d.consts), .rd (Zb d.consts), .lit (.func (.func 52) #[] #[]), .ptr [Zb d.vars, QG d.frames], .rd (Zb d.vars), .rd (Zb d.vars), .agg [Zb d.consts, Zb d.vars, .lit (.slice none 0 0)], .any, .any] : List AV).getD ix' .any) (fun ix' => ([true, true, true, true, true, true, true, true, true, true, true] : List Bool).getD ix' true) [(3, fun (g : Nat) => .ptr [.lit (.func (.func 52) #[] #[])]), (2, fun (g : Nat) => .at b1 0), (1, fun (g : Nat) => .ptr (dbC d)), (4, fun (g : Nat) => .fn 53 [.ptr [.lit (.func (.func 52) #[] #[])]]), (5, fun (g : Nat) => .at g 0)] (fun (j' : Nat) (g : Nat) => match j' with | 0 => [OB.var b1 [Zb ([] : List ByteArray), Zb ([] : List ByteArray), QG ([] : List Fr)]] | 1 => [OB.var g [Zb ([] : List ByteArray), Zb ([] : List ByteArray), QG ([] : List Fr)], OB.var b1 [Zb ([] : List ByteArray), Zb ([] : List ByteArray), QG ([] : List Fr)]] | _ => [OB.var g [Zb d.consts, Zb d.vars, .lit (.slice none 0 0)], OB.var b1 [Zb ([] : List ByteArray), Zb ([] : List ByteArray), QG ([] : List Fr)]]) (fun (k' : Nat) (g : Nat) => match k' with | 0 => (.pointer (some ⟨g, 0, none⟩)) | 1 => undef | _ => undef) [9, 10] 2 0 (fun _ => rfl) h hJ Ye rfl rfl rfl rfl rfl rfl (fun j' g hj p hp => by rcases j' with _ | _ | _ | j' <;> first | exact hp | exact List.mem_cons_of_mem _ hp | exact List.mem_cons_of_mem _ (List.mem_cons_of_mem _ hp) | (exfalso; omega)) ⟨?o3_1_0, ⟨?o3_1_1, ⟨?o3_1_2, ⟨?o3_1_3, ⟨?o3_1_4, ⟨?o3_1_5, ⟨?o3_1_6, ⟨?o3_1_7, ⟨?o3_1_8, ⟨?o3_1_9, ⟨?o3_1_10, trivial⟩⟩⟩⟩⟩⟩⟩⟩⟩⟩⟩ ⟨?e3_1_0, ⟨?e3_1_1, trivial⟩⟩ ⟨.old 0 3 _ rfl rfl, ⟨.old 1 2 _ rfl rfl, ⟨.old 2 1 _ rfl rfl, ⟨.old 3 4 _ rfl rfl, ⟨.eff 0 9 5 (fun g => (.pointer (some ⟨g, 0, none⟩))) rfl rfl (fun _ => rfl) (fun _ => True.intro), trivial⟩⟩⟩⟩⟩ ?n3_1)
 exact oX rfl fun hx hl => Zz Zgd rfl (hl.env 0 3 _ rfl rfl) hx
 exact oX rfl fun hx hl => ZW ZjP rfl (hl.env 2 1 _ rfl rfl) hx
 exact oX rfl fun hx hl => Zz Y8 rfl (hl.D 1 10 rfl rfl) hx
 exact oY rfl fun hk hx hl => Q1 ((Zdj hJ d.consts (by first | exact b.1 | exact b.2.1 | exact h9.2.2.1 | exact h9.2.2.2.1)).rr) ZdR rfl (Q7 (hl.D 0 9 rfl rfl)) (Zn hS _ hk hx) (hx.1) Zp (Za (hl.D 2 11 rfl rfl) Zc) (jo hJ hx)
 exact oX rfl fun hx hl => Zz Zgd rfl (hl.env 0 3 _ rfl rfl) hx
 exact oX rfl fun hx hl => ZW ZeB rfl (hl.env 2 1 _ rfl rfl) hx
 exact oX rfl fun hx hl => Zz Y8 rfl (hl.D 5 14 rfl rfl) hx
 exact oY rfl fun hk hx hl => Q1 ((Zdj hJ d.vars (by first | exact b.1 | exact b.2.1 | exact h9.2.2.1 | exact h9.2.2.2.1)).rr) ZdR rfl (Q7 (hl.D 4 13 rfl rfl)) (Zn hS _ hk hx) (hx.1) Zp (Za (hl.D 6 15 rfl rfl) Zc) (jo hJ hx)
 exact fun _ O' _ => ⟨rfl, fun a _ _ hx hl _ => Yw (ps := [(0, a.eval (Go.Operand.tmp 12)), (1, a.eval (Go.Operand.tmp 16))]) (us := [a.eval (Go.Operand.tmp 12), a.eval (Go.Operand.tmp 16), .slice none 0 0]) ZmG rfl (by simp) (ZdV (lb rfl) (Rel.oneC (hl.D 3 12 rfl rfl)) (ZdV (lb rfl) (Rel.oneC (hl.D 7 16 rfl rfl)) ZeI)) rfl (Zm (hl.D 3 12 rfl rfl) (Zm (hl.D 7 16 rfl rfl) (YJ (.lit _ True.intro) ZJ))) hx⟩
 exact Zl rfl
 exact Zl rfl
 case e3_1_0 => exact ⟨_, rfl, rfl, rfl, rfl, fun g _ w hk hx _ _ => Zt (ZaX Zbp hJ rfl hk hx) fun v w' ⟨g', hv, hp⟩ => ⟨g', rfl, fun k' hk' => absurd hk' (Nat.not_lt_zero _), fun _ => hv, hp⟩⟩
 case e3_1_1 => exact ⟨_, rfl, rfl, rfl, rfl, fun g _ w hk hx hl hs => (by obtain ⟨us2, hv2, hr3⟩ := QT (cs := [Zb d.consts, Zb d.vars, .lit (.slice none 0 0)]) (hl.D 8 17 rfl rfl); exact Zt (Xb (S' := S) (off := 0) (cs := [Zb ([] : List ByteArray), Zb ([] : List ByteArray), QG ([] : List Fr)]) (news := [Zb d.consts, Zb d.vars, .lit (.slice none 0 0)]) (es := [Zb d.consts, Zb d.vars, .lit (.slice none 0 0)]) (us := us2) hJ hJ0 Zde rfl hk hx (Zcx (hs 0 9 _ 5 (by omega) rfl rfl rfl)) (by rw [hv2]; rfl) hr3 (lb rfl) rfl) fun v w' hp => ⟨g, rfl, fun _ _ => rfl, fun e => (by cases e), hp⟩)⟩
 clear a w h
 intro b3
 dsimp only [List.map]
 refine kw (ob0 (show OB.var b3 [Zb d.consts, Zb d.vars, .lit (.slice none 0 0)] = OB.var b3 [Zb d.consts, Zb d.vars, .lit u] from by rw [hu])) ?_
 refine kw (Yu 37 8 hJ) ?_
 refine kw (ob0 (show OB.row (.slice none 0 0) 37 8 [] = OB.row u 37 8 (([] : List Fr).map frC) from by rw [hu]; rfl)) ?_
 refine nx (Zo (ZL tb hJ [0,1,3,4,1001,1002,1003] [_,_,.int (d.frames.length : Nat),_] [2] [_,_,_,_,_,_,_] rfl ⟨YH Qp, trivial⟩ ?_))
 refine ln 4 fun hl1 => ?_
 refine Zg (lpo (ι := Nat × (List Fr) × Value) (fun (k, us, _) => (k ≤ d.frames.length) ∧ (us = d.frames.take k)) (fun (_, us, vs) => [OB.row vs 37 8 (us.map frC), OB.var b3 [Zb d.consts, Zb d.vars, .lit vs], OB.var b1 [Zb ([] : List ByteArray), Zb ([] : List ByteArray), QG ([] : List Fr)]]) (fun (k, _, _) => [(21, .int (k : Nat))]) (fun (k, _, _) => d.frames.length - k) [0,1,2,3,4,5,6] [_,_,_,_,_,_] (0, [], u) ⟨Nat.zero_le _, rfl⟩ ?_)
 rintro ⟨k, us, vs⟩ ⟨f1_1, f1_2⟩
 refine qso tb hJ [0,1,2,3,4,5,6,1000] [_] [_,_,_,_,_,_,_,_] ?_
 refine cjS 7 (fun hb1 => ?_) fun hb1 => ?_
 ·
  try simp at hb1
  have h9 := b.2.2.2 _ (Ze (xs := d.frames) (k := k) (by omega))
  have h7 : us.length ≤ 100000 := by rw [f1_2, List.length_take]; have := b.2.2.1; omega
  refine Zf (nx (Zo (Zg (tsq ?_))))
  refine sq (.ptr (frC (ge d.frames k))) rfl rfl (lb rfl) (fun _ _ h => Yj (i := (k : Int)) YB rfl (h.get 4 rfl) (h.get 6 rfl) (Int.natCast_nonneg _) (Yz (xs := d.frames) (k := k) (by first | omega | (simp; omega) | grind [Ze])) rfl h.x) ?_
  refine snK 1 tb rfl ?_
  refine ZU ZcJ hJ rfl rfl rfl (lb rfl) fun b4 => ?_
  refine ZD (b := b4) (off := 0) (cs := [.lit (.string (⟨#[]⟩ : ByteArray)), .lit (.bool false), Ya ([] : List Hy), Yk ([] : List Pr), Zb ([] : List ByteArray), Ya ([] : List Hy), Yk ([] : List Pr), Zb ([] : List ByteArray)]) (es := [.lit (.string ((ge d.frames k).label)), .lit (.bool ((ge d.frames k).thm)), Ya ((ge d.frames k).hyps), Yk ((ge d.frames k).apart), Zb ((ge d.frames k).text), Ya ((ge d.frames k).dummies), Yk ((ge d.frames k).wide), Zb ((ge d.frames k).proof)]) (news := [.lit (.string ((ge d.frames k).label)), .lit (.bool ((ge d.frames k).thm)), Ya ((ge d.frames k).hyps), Yk ((ge d.frames k).apart), Zb ((ge d.frames k).text), Ya ((ge d.frames k).dummies), Yk ((ge d.frames k).wide), Zb ((ge d.frames k).proof)]) hJ hJ0 ZkD rfl rfl rfl (lb rfl) rfl (fun a w h => ⟨(h.get 0 rfl), (h.get 1 rfl)⟩) ?_
  refine seK [0,3,4,5,6,7,8,9] [_,_,_,_,_,_,_,_] rfl ?_
  refine nx (Zo (fun a w h => Yv (γ := Unit) (fun ix' => ([.fn 53 [.ptr [.lit (.func (.func 52) #[] #[])]], .at b4 2, .rd (Ya ((ge d.frames k).hyps)), .rd (Ya ((ge d.frames k).hyps)), .fn 53 [.ptr [.lit (.func (.func 52) #[] #[])]], .at b4 5, .rd (Ya ((ge d.frames k).dummies)), .rd (Ya ((ge d.frames k).dummies)), .lit (.func (.func 52) #[] #[]), .at b4 4, .rd (Zb ((ge d.frames k).text)), .rd (Zb ((ge d.frames k).text)), .lit (.func (.func 52) #[] #[]), .at b4 7, .rd (Zb ((ge d.frames k).proof)), .rd (Zb ((ge d.frames k).proof)), .at b4 2, .any, .at b4 5, .any, .at b4 4, .any, .at b4 7, .any] : List AV).getD ix' .any) (fun ix' => ([true, true, true, true, true, true, true, true, true, true, true, true, true, true, true, true, true, true, true, true, true, true, true, true] : List Bool).getD ix' true) [(7, fun (g : Unit) => .at b4 0), (3, fun (g : Unit) => .ptr [.lit (.func (.func 52) #[] #[])]), (2, fun (g : Unit) => .at b1 0), (4, fun (g : Unit) => .fn 53 [.ptr [.lit (.func (.func 52) #[] #[])]]), (5, fun (g : Unit) => .at b3 0), (19, fun (g : Unit) => .rd (QG d.frames)), (20, fun (g : Unit) => .int (d.frames.length : Nat)), (21, fun (g : Unit) => .int (k : Nat))] (fun (j' : Nat) (g : Unit) => match j' with | 0 => [OB.var b4 [.lit (.string ((ge d.frames k).label)), .lit (.bool ((ge d.frames k).thm)), Ya ((ge d.frames k).hyps), Yk ((ge d.frames k).apart), Zb ((ge d.frames k).text), Ya ((ge d.frames k).dummies), Yk ((ge d.frames k).wide), Zb ((ge d.frames k).proof)], OB.row vs 37 8 (us.map frC), OB.var b3 [Zb d.consts, Zb d.vars, .lit vs], OB.var b1 [Zb ([] : List ByteArray), Zb ([] : List ByteArray), QG ([] : List Fr)]] | 1 => [OB.var b4 [.lit (.string ((ge d.frames k).label)), .lit (.bool ((ge d.frames k).thm)), Ya ((ge d.frames k).hyps), Yk ((ge d.frames k).apart), Zb ((ge d.frames k).text), Ya ((ge d.frames k).dummies), Yk ((ge d.frames k).wide), Zb ((ge d.frames k).proof)], OB.row vs 37 8 (us.map frC), OB.var b3 [Zb d.consts, Zb d.vars, .lit vs], OB.var b1 [Zb ([] : List ByteArray), Zb ([] : List ByteArray), QG ([] : List Fr)]] | 2 => [OB.var b4 [.lit (.string ((ge d.frames k).label)), .lit (.bool ((ge d.frames k).thm)), Ya ((ge d.frames k).hyps), Yk ((ge d.frames k).apart), Zb ((ge d.frames k).text), Ya ((ge d.frames k).dummies), Yk ((ge d.frames k).wide), Zb ((ge d.frames k).proof)], OB.row vs 37 8 (us.map frC), OB.var b3 [Zb d.consts, Zb d.vars, .lit vs], OB.var b1 [Zb ([] : List ByteArray), Zb ([] : List ByteArray), QG ([] : List Fr)]] | 3 => [OB.var b4 [.lit (.string ((ge d.frames k).label)), .lit (.bool ((ge d.frames k).thm)), Ya ((ge d.frames k).hyps), Yk ((ge d.frames k).apart), Zb ((ge d.frames k).text), Ya ((ge d.frames k).dummies), Yk ((ge d.frames k).wide), Zb ((ge d.frames k).proof)], OB.row vs 37 8 (us.map frC), OB.var b3 [Zb d.consts, Zb d.vars, .lit vs], OB.var b1 [Zb ([] : List ByteArray), Zb ([] : List ByteArray), QG ([] : List Fr)]] | _ => [OB.var b4 [.lit (.string ((ge d.frames k).label)), .lit (.bool ((ge d.frames k).thm)), Ya ((ge d.frames k).hyps), Yk ((ge d.frames k).apart), Zb ((ge d.frames k).text), Ya ((ge d.frames k).dummies), Yk ((ge d.frames k).wide), Zb ((ge d.frames k).proof)], OB.row vs 37 8 (us.map frC), OB.var b3 [Zb d.consts, Zb d.vars, .lit vs], OB.var b1 [Zb ([] : List ByteArray), Zb ([] : List ByteArray), QG ([] : List Fr)]]) (fun (k' : Nat) (g : Unit) => match k' with | 0 => undef | 1 => undef | 2 => undef | 3 => undef | _ => undef) [17, 19, 21, 23] 4 () (fun _ => rfl) h hJ Ye rfl rfl rfl rfl rfl rfl (fun j' g hj p hp => by rcases j' with _ | _ | _ | _ | _ | j' <;> first | exact hp | exact List.mem_cons_of_mem _ hp | exact List.mem_cons_of_mem _ (List.mem_cons_of_mem _ hp) | (exfalso; omega)) ⟨?o7_2_0, ⟨?o7_2_1, ⟨?o7_2_2, ⟨?o7_2_3, ⟨?o7_2_4, ⟨?o7_2_5, ⟨?o7_2_6, ⟨?o7_2_7, ⟨?o7_2_8, ⟨?o7_2_9, ⟨?o7_2_10, ⟨?o7_2_11, ⟨?o7_2_12, ⟨?o7_2_13, ⟨?o7_2_14, ⟨?o7_2_15, ⟨?o7_2_16, ⟨?o7_2_17, ⟨?o7_2_18, ⟨?o7_2_19, ⟨?o7_2_20, ⟨?o7_2_21, ⟨?o7_2_22, ⟨?o7_2_23, trivial⟩⟩⟩⟩⟩⟩⟩⟩⟩⟩⟩⟩⟩⟩⟩⟩⟩⟩⟩⟩⟩⟩⟩⟩ ⟨?e7_2_0, ⟨?e7_2_1, ⟨?e7_2_2, ⟨?e7_2_3, trivial⟩⟩⟩⟩ ⟨.old 0 7 _ rfl rfl, ⟨.old 1 3 _ rfl rfl, ⟨.old 2 2 _ rfl rfl, ⟨.old 3 4 _ rfl rfl, ⟨.old 4 5 _ rfl rfl, ⟨.old 5 19 _ rfl rfl, ⟨.old 6 20 _ rfl rfl, ⟨.old 7 21 _ rfl rfl, trivial⟩⟩⟩⟩⟩⟩⟩⟩ ?n7_2))
  exact oX rfl fun hx hl => Yl rfl (hl.env 3 4 _ rfl rfl) hx
  exact oX rfl fun hx hl => Zk Qt rfl (hl.env 0 7 _ rfl rfl) hx
  exact fun _ O' hO' => ⟨rfl, fun _ _ _ hx hl _ => Zr (cs := [.lit (.string ((ge d.frames k).label)), .lit (.bool ((ge d.frames k).thm)), Ya ((ge d.frames k).hyps), Yk ((ge d.frames k).apart), Zb ((ge d.frames k).text), Ya ((ge d.frames k).dummies), Yk ((ge d.frames k).wide), Zb ((ge d.frames k).proof)]) Zdo rfl (Zd hx (hO' _ (mo 0 rfl))) (hl.D 1 26 rfl rfl) rfl hx⟩
  exact oY rfl fun hk hx hl => Q1 ((ZpJ hJ ((ge d.frames k).hyps) (by first | exact ⟨h9.1, h9.2.2.2.2.2.2.1⟩ | exact ⟨h9.2.1, h9.2.2.2.2.2.2.2⟩)).rr) Zms rfl (hl.D 0 25 rfl rfl) (Zn hS _ hk hx) (hx.1) Zp (Za (hl.D 2 27 rfl rfl) Zc) (jo hJ hx)
  exact oX rfl fun hx hl => Yl rfl (hl.env 3 4 _ rfl rfl) hx
  exact oX rfl fun hx hl => Zk ZeA rfl (hl.env 0 7 _ rfl rfl) hx
  exact fun _ O' hO' => ⟨rfl, fun _ _ _ hx hl _ => Zr (cs := [.lit (.string ((ge d.frames k).label)), .lit (.bool ((ge d.frames k).thm)), Ya ((ge d.frames k).hyps), Yk ((ge d.frames k).apart), Zb ((ge d.frames k).text), Ya ((ge d.frames k).dummies), Yk ((ge d.frames k).wide), Zb ((ge d.frames k).proof)]) Zdo rfl (Zd hx (hO' _ (mo 0 rfl))) (hl.D 5 30 rfl rfl) rfl hx⟩
  exact oY rfl fun hk hx hl => Q1 ((ZpJ hJ ((ge d.frames k).dummies) (by first | exact ⟨h9.1, h9.2.2.2.2.2.2.1⟩ | exact ⟨h9.2.1, h9.2.2.2.2.2.2.2⟩)).rr) Zms rfl (hl.D 4 29 rfl rfl) (Zn hS _ hk hx) (hx.1) Zp (Za (hl.D 6 31 rfl rfl) Zc) (jo hJ hx)
  exact oX rfl fun hx hl => Zz Zgd rfl (hl.env 1 3 _ rfl rfl) hx
  exact oX rfl fun hx hl => Zk Zba rfl (hl.env 0 7 _ rfl rfl) hx
  exact fun _ O' hO' => ⟨rfl, fun _ _ _ hx hl _ => Zr (cs := [.lit (.string ((ge d.frames k).label)), .lit (.bool ((ge d.frames k).thm)), Ya ((ge d.frames k).hyps), Yk ((ge d.frames k).apart), Zb ((ge d.frames k).text), Ya ((ge d.frames k).dummies), Yk ((ge d.frames k).wide), Zb ((ge d.frames k).proof)]) Y8 rfl (Zd hx (hO' _ (mo 0 rfl))) (hl.D 9 34 rfl rfl) rfl hx⟩
  exact oY rfl fun hk hx hl => Q1 ((Zdj hJ ((ge d.frames k).text) (by first | exact b.1 | exact b.2.1 | exact h9.2.2.1 | exact h9.2.2.2.1)).rr) ZdR rfl (Q7 (hl.D 8 33 rfl rfl)) (Zn hS _ hk hx) (hx.1) Zp (Za (hl.D 10 35 rfl rfl) Zc) (jo hJ hx)
  exact oX rfl fun hx hl => Zz Zgd rfl (hl.env 1 3 _ rfl rfl) hx
  exact oX rfl fun hx hl => Zk Zco rfl (hl.env 0 7 _ rfl rfl) hx
  exact fun _ O' hO' => ⟨rfl, fun _ _ _ hx hl _ => Zr (cs := [.lit (.string ((ge d.frames k).label)), .lit (.bool ((ge d.frames k).thm)), Ya ((ge d.frames k).hyps), Yk ((ge d.frames k).apart), Zb ((ge d.frames k).text), Ya ((ge d.frames k).dummies), Yk ((ge d.frames k).wide), Zb ((ge d.frames k).proof)]) Y8 rfl (Zd hx (hO' _ (mo 0 rfl))) (hl.D 13 38 rfl rfl) rfl hx⟩
  exact oY rfl fun hk hx hl => Q1 ((Zdj hJ ((ge d.frames k).proof) (by first | exact b.1 | exact b.2.1 | exact h9.2.2.1 | exact h9.2.2.2.1)).rr) ZdR rfl (Q7 (hl.D 12 37 rfl rfl)) (Zn hS _ hk hx) (hx.1) Zp (Za (hl.D 14 39 rfl rfl) Zc) (jo hJ hx)
  exact oX rfl fun hx hl => Zk Qt rfl (hl.env 0 7 _ rfl rfl) hx
  exact Zl rfl
  exact oX rfl fun hx hl => Zk ZeA rfl (hl.env 0 7 _ rfl rfl) hx
  exact Zl rfl
  exact oX rfl fun hx hl => Zk Zba rfl (hl.env 0 7 _ rfl rfl) hx
  exact Zl rfl
  exact oX rfl fun hx hl => Zk Zco rfl (hl.env 0 7 _ rfl rfl) hx
  exact Zl rfl
  case e7_2_0 => exact ⟨_, rfl, rfl, rfl, rfl, fun g _ w hk hx hl _ => Zt (Zbc (off := 2) (cs := [.lit (.string ((ge d.frames k).label)), .lit (.bool ((ge d.frames k).thm)), Ya ((ge d.frames k).hyps), Yk ((ge d.frames k).apart), Zb ((ge d.frames k).text), Ya ((ge d.frames k).dummies), Yk ((ge d.frames k).wide), Zb ((ge d.frames k).proof)]) (es := [.lit (.string ((ge d.frames k).label)), .lit (.bool ((ge d.frames k).thm)), Ya ((ge d.frames k).hyps), Yk ((ge d.frames k).apart), Zb ((ge d.frames k).text), Ya ((ge d.frames k).dummies), Yk ((ge d.frames k).wide), Zb ((ge d.frames k).proof)]) (c := Ya ((ge d.frames k).hyps)) hJ hJ0 Zdd rfl hk hx (hl.D 16 41 rfl rfl) (hl.D 3 28 rfl rfl) (lb rfl) rfl) fun v w' hp => ⟨g, rfl, fun _ _ => rfl, fun e => (by cases e), hp⟩⟩
  case e7_2_1 => exact ⟨_, rfl, rfl, rfl, rfl, fun g _ w hk hx hl _ => Zt (Zbc (off := 5) (cs := [.lit (.string ((ge d.frames k).label)), .lit (.bool ((ge d.frames k).thm)), Ya ((ge d.frames k).hyps), Yk ((ge d.frames k).apart), Zb ((ge d.frames k).text), Ya ((ge d.frames k).dummies), Yk ((ge d.frames k).wide), Zb ((ge d.frames k).proof)]) (es := [.lit (.string ((ge d.frames k).label)), .lit (.bool ((ge d.frames k).thm)), Ya ((ge d.frames k).hyps), Yk ((ge d.frames k).apart), Zb ((ge d.frames k).text), Ya ((ge d.frames k).dummies), Yk ((ge d.frames k).wide), Zb ((ge d.frames k).proof)]) (c := Ya ((ge d.frames k).dummies)) hJ hJ0 Zdd rfl hk hx (hl.D 18 42 rfl rfl) (hl.D 7 32 rfl rfl) (lb rfl) rfl) fun v w' hp => ⟨g, rfl, fun _ _ => rfl, fun e => (by cases e), hp⟩⟩
  case e7_2_2 => exact ⟨_, rfl, rfl, rfl, rfl, fun g _ w hk hx hl _ => Zt (Zbc (off := 4) (cs := [.lit (.string ((ge d.frames k).label)), .lit (.bool ((ge d.frames k).thm)), Ya ((ge d.frames k).hyps), Yk ((ge d.frames k).apart), Zb ((ge d.frames k).text), Ya ((ge d.frames k).dummies), Yk ((ge d.frames k).wide), Zb ((ge d.frames k).proof)]) (es := [.lit (.string ((ge d.frames k).label)), .lit (.bool ((ge d.frames k).thm)), Ya ((ge d.frames k).hyps), Yk ((ge d.frames k).apart), Zb ((ge d.frames k).text), Ya ((ge d.frames k).dummies), Yk ((ge d.frames k).wide), Zb ((ge d.frames k).proof)]) (c := Zb ((ge d.frames k).text)) hJ hJ0 ZaI rfl hk hx (hl.D 20 43 rfl rfl) (hl.D 11 36 rfl rfl) (lb rfl) rfl) fun v w' hp => ⟨g, rfl, fun _ _ => rfl, fun e => (by cases e), hp⟩⟩
  case e7_2_3 => exact ⟨_, rfl, rfl, rfl, rfl, fun g _ w hk hx hl _ => Zt (Zbc (off := 7) (cs := [.lit (.string ((ge d.frames k).label)), .lit (.bool ((ge d.frames k).thm)), Ya ((ge d.frames k).hyps), Yk ((ge d.frames k).apart), Zb ((ge d.frames k).text), Ya ((ge d.frames k).dummies), Yk ((ge d.frames k).wide), Zb ((ge d.frames k).proof)]) (es := [.lit (.string ((ge d.frames k).label)), .lit (.bool ((ge d.frames k).thm)), Ya ((ge d.frames k).hyps), Yk ((ge d.frames k).apart), Zb ((ge d.frames k).text), Ya ((ge d.frames k).dummies), Yk ((ge d.frames k).wide), Zb ((ge d.frames k).proof)]) (c := Zb ((ge d.frames k).proof)) hJ hJ0 ZaI rfl hk hx (hl.D 22 44 rfl rfl) (hl.D 15 40 rfl rfl) (lb rfl) rfl) fun v w' hp => ⟨g, rfl, fun _ _ => rfl, fun e => (by cases e), hp⟩⟩
  clear a w h
  intro _
  dsimp only [List.map]
  refine nx (Zo (fun a w h => Yv (γ := Unit) (fun ix' => ([.at b4 3, .rd (Yk ((ge d.frames k).apart)), .rd (Yk ((ge d.frames k).apart)), .at b4 6, .rd (Yk ((ge d.frames k).wide)), .rd (Yk ((ge d.frames k).wide)), .at b4 3, .any, .at b4 6, .any] : List AV).getD ix' .any) (fun ix' => ([true, true, true, true, true, true, true, true, true, true] : List Bool).getD ix' true) [(7, fun (g : Unit) => .at b4 0), (3, fun (g : Unit) => .ptr [.lit (.func (.func 52) #[] #[])]), (2, fun (g : Unit) => .at b1 0), (4, fun (g : Unit) => .fn 53 [.ptr [.lit (.func (.func 52) #[] #[])]]), (5, fun (g : Unit) => .at b3 0), (19, fun (g : Unit) => .rd (QG d.frames)), (20, fun (g : Unit) => .int (d.frames.length : Nat)), (21, fun (g : Unit) => .int (k : Nat))] (fun (j' : Nat) (g : Unit) => match j' with | 0 => [OB.var b4 [.lit (.string ((ge d.frames k).label)), .lit (.bool ((ge d.frames k).thm)), Ya ((ge d.frames k).hyps), Yk ((ge d.frames k).apart), Zb ((ge d.frames k).text), Ya ((ge d.frames k).dummies), Yk ((ge d.frames k).wide), Zb ((ge d.frames k).proof)], OB.row vs 37 8 (us.map frC), OB.var b3 [Zb d.consts, Zb d.vars, .lit vs], OB.var b1 [Zb ([] : List ByteArray), Zb ([] : List ByteArray), QG ([] : List Fr)]] | 1 => [OB.var b4 [.lit (.string ((ge d.frames k).label)), .lit (.bool ((ge d.frames k).thm)), Ya ((ge d.frames k).hyps), Yk ((ge d.frames k).apart), Zb ((ge d.frames k).text), Ya ((ge d.frames k).dummies), Yk ((ge d.frames k).wide), Zb ((ge d.frames k).proof)], OB.row vs 37 8 (us.map frC), OB.var b3 [Zb d.consts, Zb d.vars, .lit vs], OB.var b1 [Zb ([] : List ByteArray), Zb ([] : List ByteArray), QG ([] : List Fr)]] | _ => [OB.var b4 [.lit (.string ((ge d.frames k).label)), .lit (.bool ((ge d.frames k).thm)), Ya ((ge d.frames k).hyps), Yk ((ge d.frames k).apart), Zb ((ge d.frames k).text), Ya ((ge d.frames k).dummies), Yk ((ge d.frames k).wide), Zb ((ge d.frames k).proof)], OB.row vs 37 8 (us.map frC), OB.var b3 [Zb d.consts, Zb d.vars, .lit vs], OB.var b1 [Zb ([] : List ByteArray), Zb ([] : List ByteArray), QG ([] : List Fr)]]) (fun (k' : Nat) (g : Unit) => match k' with | 0 => undef | 1 => undef | _ => undef) [7, 9] 2 () (fun _ => rfl) h hJ Ye rfl rfl rfl rfl rfl rfl (fun j' g hj p hp => by rcases j' with _ | _ | _ | j' <;> first | exact hp | exact List.mem_cons_of_mem _ hp | exact List.mem_cons_of_mem _ (List.mem_cons_of_mem _ hp) | (exfalso; omega)) ⟨?o8_3_0, ⟨?o8_3_1, ⟨?o8_3_2, ⟨?o8_3_3, ⟨?o8_3_4, ⟨?o8_3_5, ⟨?o8_3_6, ⟨?o8_3_7, ⟨?o8_3_8, ⟨?o8_3_9, trivial⟩⟩⟩⟩⟩⟩⟩⟩⟩⟩ ⟨?e8_3_0, ⟨?e8_3_1, trivial⟩⟩ ⟨.old 0 7 _ rfl rfl, ⟨.old 1 3 _ rfl rfl, ⟨.old 2 2 _ rfl rfl, ⟨.old 3 4 _ rfl rfl, ⟨.old 4 5 _ rfl rfl, ⟨.old 5 19 _ rfl rfl, ⟨.old 6 20 _ rfl rfl, ⟨.old 7 21 _ rfl rfl, trivial⟩⟩⟩⟩⟩⟩⟩⟩ ?n8_3))
  exact oX rfl fun hx hl => Zk Zcq rfl (hl.env 0 7 _ rfl rfl) hx
  exact fun _ O' hO' => ⟨rfl, fun _ _ _ hx hl _ => Zr (cs := [.lit (.string ((ge d.frames k).label)), .lit (.bool ((ge d.frames k).thm)), Ya ((ge d.frames k).hyps), Yk ((ge d.frames k).apart), Zb ((ge d.frames k).text), Ya ((ge d.frames k).dummies), Yk ((ge d.frames k).wide), Zb ((ge d.frames k).proof)]) Zis rfl (Zd hx (hO' _ (mo 0 rfl))) (hl.D 0 45 rfl rfl) rfl hx⟩
  exact oY rfl fun hk hx hl => Zcy (Zgc hJ (xs := ((ge d.frames k).apart)) (by have h8 := h9.2.2.2.2.1; have h7 := h9.2.2.2.2.2.1; omega)) ZhH rfl (Zn hS _ hk hx) (hx.1) (Za (hl.D 1 46 rfl rfl) Zc) (jo hJ hx)
  exact oX rfl fun hx hl => Zk Zcp rfl (hl.env 0 7 _ rfl rfl) hx
  exact fun _ O' hO' => ⟨rfl, fun _ _ _ hx hl _ => Zr (cs := [.lit (.string ((ge d.frames k).label)), .lit (.bool ((ge d.frames k).thm)), Ya ((ge d.frames k).hyps), Yk ((ge d.frames k).apart), Zb ((ge d.frames k).text), Ya ((ge d.frames k).dummies), Yk ((ge d.frames k).wide), Zb ((ge d.frames k).proof)]) Zis rfl (Zd hx (hO' _ (mo 0 rfl))) (hl.D 3 48 rfl rfl) rfl hx⟩
  exact oY rfl fun hk hx hl => Zcy (Zgc hJ (xs := ((ge d.frames k).wide)) (by have h8 := h9.2.2.2.2.1; have h7 := h9.2.2.2.2.2.1; omega)) ZhH rfl (Zn hS _ hk hx) (hx.1) (Za (hl.D 4 49 rfl rfl) Zc) (jo hJ hx)
  exact oX rfl fun hx hl => Zk Zcq rfl (hl.env 0 7 _ rfl rfl) hx
  exact Zl rfl
  exact oX rfl fun hx hl => Zk Zcp rfl (hl.env 0 7 _ rfl rfl) hx
  exact Zl rfl
  case e8_3_0 => exact ⟨_, rfl, rfl, rfl, rfl, fun g _ w hk hx hl _ => Zt (Zbc (off := 3) (cs := [.lit (.string ((ge d.frames k).label)), .lit (.bool ((ge d.frames k).thm)), Ya ((ge d.frames k).hyps), Yk ((ge d.frames k).apart), Zb ((ge d.frames k).text), Ya ((ge d.frames k).dummies), Yk ((ge d.frames k).wide), Zb ((ge d.frames k).proof)]) (es := [.lit (.string ((ge d.frames k).label)), .lit (.bool ((ge d.frames k).thm)), Ya ((ge d.frames k).hyps), Yk ((ge d.frames k).apart), Zb ((ge d.frames k).text), Ya ((ge d.frames k).dummies), Yk ((ge d.frames k).wide), Zb ((ge d.frames k).proof)]) (c := Yk ((ge d.frames k).apart)) hJ hJ0 Zdc rfl hk hx (hl.D 6 51 rfl rfl) (hl.D 2 47 rfl rfl) (lb rfl) rfl) fun v w' hp => ⟨g, rfl, fun _ _ => rfl, fun e => (by cases e), hp⟩⟩
  case e8_3_1 => exact ⟨_, rfl, rfl, rfl, rfl, fun g _ w hk hx hl _ => Zt (Zbc (off := 6) (cs := [.lit (.string ((ge d.frames k).label)), .lit (.bool ((ge d.frames k).thm)), Ya ((ge d.frames k).hyps), Yk ((ge d.frames k).apart), Zb ((ge d.frames k).text), Ya ((ge d.frames k).dummies), Yk ((ge d.frames k).wide), Zb ((ge d.frames k).proof)]) (es := [.lit (.string ((ge d.frames k).label)), .lit (.bool ((ge d.frames k).thm)), Ya ((ge d.frames k).hyps), Yk ((ge d.frames k).apart), Zb ((ge d.frames k).text), Ya ((ge d.frames k).dummies), Yk ((ge d.frames k).wide), Zb ((ge d.frames k).proof)]) (c := Yk ((ge d.frames k).wide)) hJ hJ0 Zdc rfl hk hx (hl.D 8 52 rfl rfl) (hl.D 5 50 rfl rfl) (lb rfl) rfl) fun v w' hp => ⟨g, rfl, fun _ _ => rfl, fun e => (by cases e), hp⟩⟩
  clear a w h
  intro _
  dsimp only [List.map]
  refine nx (ZA (sq (.at b3 2) rfl rfl (lb rfl) (fun _ _ h => Zk Qu rfl (h.get 4 rfl) h.x) ?_))
  refine sq (.lit vs) rfl rfl (lb rfl) (fun _ _ h => Zr (cs := [Zb d.consts, Zb d.vars, .lit vs]) Zge rfl (Zd h.x (mo 2 rfl)) (h.get 0 rfl) rfl h.x) ?_
  refine sq (.agg (frC (ge d.frames k))) rfl rfl (lb rfl) (fun _ _ h => Yd (cs := [.lit (.string ((ge d.frames k).label)), .lit (.bool ((ge d.frames k).thm)), Ya ((ge d.frames k).hyps), Yk ((ge d.frames k).apart), Zb ((ge d.frames k).text), Ya ((ge d.frames k).dummies), Yk ((ge d.frames k).wide), Zb ((ge d.frames k).proof)]) (ds := [.lit (.string ((ge d.frames k).label)), .lit (.bool ((ge d.frames k).thm)), Ya ((ge d.frames k).hyps), Yk ((ge d.frames k).apart), Zb ((ge d.frames k).text), Ya ((ge d.frames k).dummies), Yk ((ge d.frames k).wide), Zb ((ge d.frames k).proof)]) Zfw rfl (Zd h.x (mo 0 rfl)) (h.get 2 rfl) rfl rfl h.x) ?_
  refine sq (.rd (QG ([(ge d.frames k)]))) rfl rfl (lb rfl) (fun a _ h => ZfS (z := #[.string ⟨#[]⟩, .bool false, .slice none 0 0, .slice none 0 0, .slice none 0 0, .slice none 0 0, .slice none 0 0, .slice none 0 0]) (cs := [frC (ge d.frames k)]) (vs := [a.eval (Go.Operand.tmp 55)]) YB (fun w => by kernel_rfl) rfl (by simp) (Za (h.get 0 rfl) Zc) (of_decide_eq_true rfl) rfl (by decide) (by decide) (by decide) (Zn hS _ h.keep h.x _ (Nat.le_refl _)) (jo hJ h.x)) ?_
  refine kw pm1 ?_
  refine Y1 (f := frC) (m := 2) (s := 54) us ([(ge d.frames k)]) (fun _ => rfl) ZmM hJ hJ0 rfl rfl rfl (lb rfl) rfl rfl (fun a w h => (h.get 0 rfl)) (by first | omega | (simp; omega) | grind [Ze]) (by first | omega | (simp; omega) | grind [Ze]) fun v5 => ?_
  refine sq (.at b3 2) rfl rfl (lb rfl) (fun _ _ h => Zk Qu rfl (h.get 9 rfl) h.x) ?_
  refine kw pm2 ?_
  refine ZM (b := b3) (off := 2) (cs := [Zb d.consts, Zb d.vars, .lit vs]) (es := [Zb d.consts, Zb d.vars, .lit v5]) hJ hJ0 ZkE rfl rfl rfl (lb rfl) rfl (fun a w h => ⟨(h.get 0 rfl), (h.get 1 rfl)⟩) ?_
  refine seK [2,7,8,9,10,11,12,13] [_,_,_,_,_,_,_,_] rfl ?_
  refine nx (ln 0 fun hl2 => ?_)
  refine Xa tb hJ [1,2,3,4,5,6,1001] [.int (k + 1 : Nat),_] [0] [_,_,_,_,_,_,_] rfl ⟨YI, trivial⟩ ?_
  refine kw pm2 ?_
  refine kw ZC ?_
  refine kw pm2 ?_
  refine kw pm1 ?_
  refine kw pm2 ?_
  exact XG ((k + 1), (us ++ [ge d.frames k]), v5) [0,1,2,3,4,5,6] ⟨by omega, by rw [f1_2]; exact (ZV (by omega)).symm⟩
 ·
  try simp at hb1
  have e1 : us = d.frames := by rw [f1_2, ZK (by omega)]
  refine ZB (nx (tw pm1 ?_))
  refine tw pm1 ?_
  refine tw (fun h => ZbJ (j := 2) (cs' := [Zb d.consts, Zb d.vars, QG us]) hS rfl rfl h) ?_
  refine tsq ?_
  refine sq (.agg (dbC (⟨d.consts, d.vars, us⟩ : Db))) rfl rfl (lb rfl) (fun _ _ h => Yd (cs := [Zb d.consts, Zb d.vars, QG us]) (ds := [Zb d.consts, Zb d.vars, QG us]) Zb5 rfl (Zd h.x (mo 0 rfl)) (h.get 3 rfl) rfl rfl h.x) ?_
  refine kw pm1 ?_
  refine ZD (b := b1) (off := 0) (cs := [Zb ([] : List ByteArray), Zb ([] : List ByteArray), QG ([] : List Fr)]) (es := [Zb ((⟨d.consts, d.vars, us⟩ : Db).consts), Zb ((⟨d.consts, d.vars, us⟩ : Db).vars), QG ((⟨d.consts, d.vars, us⟩ : Db).frames)]) (news := [Zb ((⟨d.consts, d.vars, us⟩ : Db).consts), Zb ((⟨d.consts, d.vars, us⟩ : Db).vars), QG ((⟨d.consts, d.vars, us⟩ : Db).frames)]) hJ hJ0 Zde rfl rfl rfl (lb rfl) rfl (fun a w h => ⟨(h.get 2 rfl), (h.get 0 rfl)⟩) ?_
  refine seK [2] [_] rfl ?_
  exact nx (Zi (fun a w h => QA (cs := [Zb ((⟨d.consts, d.vars, us⟩ : Db).consts), Zb ((⟨d.consts, d.vars, us⟩ : Db).vars), QG ((⟨d.consts, d.vars, us⟩ : Db).frames)]) (m := 0) rfl Zb5 h rfl rfl (show ([Zb ((⟨d.consts, d.vars, us⟩ : Db).consts), Zb ((⟨d.consts, d.vars, us⟩ : Db).vars), QG ((⟨d.consts, d.vars, us⟩ : Db).frames)] : List CD) = [Zb d.consts, Zb d.vars, QG d.frames] from by rw [e1])))
theorem Zr2 : Zq Tryz.prog 39 := Zu Tryz.func39 rfl rfl
theorem Zc4 : Tryz.prog.underlying 47 = some (.pointer (Tryz.prog.pointee 47)) := by kernel_rfl
theorem p_NewE {J : World → Prop} (hJ : Stab J) (d : Db) (z : Int) (t : List ByteArray) (hw : ∀ f ∈ d.frames, f.wide.length * 32 ≤ 140737488351232) (hG : XY J) (ha : ¬ YV d z = 0) : Fn Tryz.prog J 16 [.agg (dbC d), .int z, .rd (Zb t)] (.tup [.rd (.lit (Go.Value.pointer none)), .int (YV d z)]) := by
 refine Zx (N := 21) Tryz.func16 rfl rfl (lb rfl) fun S w0 hS hJ0 => ?_
 refine tw Z7 ?_
 refine ln 2 fun hl1 => ?_
 refine ZL tb hJ [1,2,1000] [.ptr (dbC d),_,_] [0] [_,_,_] rfl ⟨fun _ _ hk hx hl _ => YQ rfl (hl.env 0 0 _ rfl rfl) (Zn hS _ hk hx _ (Nat.le_refl _)) (jo hJ hx), trivial⟩ ?_
 refine Zo (ZL tb hJ [0,1,2,1003] [_,_,.int (YV d z),_] [2] [_,_,_,_] rfl ⟨iFo hS hJ (ZbP hJ (d := d) (z := z) (by exact hw) (by exact hG)) Zfi, trivial⟩ ?_)
 refine qso tb hJ [0,1,2,3,1001] [_,_] [_,_,_,_,_] ?_
 refine cj 4 (fun hb1 => ?_) fun hb1 => ?_
 try simp at hb1
 refine qso tb hJ [1001,1002] [_,_,_] [_,_] ?_
 exact Zi (fun a w h => Zcl (m := 0) (k := 1) rfl (QZ h) rfl rfl rfl rfl)
 try simp at hb1
 exact False.elim (by simp_all)
theorem p_New {J : World → Prop} (hJ : Stab J) (d : Db) (n : Nat) (t : List ByteArray) (hw : ∀ f ∈ d.frames, f.wide.length * 32 ≤ 140737488351232) (hG : XY J) (ha : YV d (n : Int) = 0) (hcp : okCp d) (hl : t.length ≤ 100000) (hs : Zb8 t ≤ 1000000000) : FnM (ι := Nat × Value × Value × Value) Tryz.prog J 16 [] [.agg (dbC d), .int (n : Nat), .rd (Zb t)] [] (fun i' => .tup [.at (i'.1) 0, .int (0 : Int)]) (fun i' => [OB.var (i'.1) (mkC d (ge d.frames n) [.lit (i'.2.1), Xo (Yf d n t), .lit (i'.2.2.1), .lit (i'.2.2.2), .lit (.int .i64 (((Qh d n t).n : Nat) : Int)), .lit (.bool ((Qh d n t).kn)), .lit (.int .i64 ((Qh d n t).v.1)), .lit (.int .i64 ((Qh d n t).v.2))]), OB.row i'.2.2.1 22 1 (((Qh d n t).sk).map Zh), OB.row i'.2.2.2 22 1 (((Qh d n t).tg).map Zh)]) := by
 refine Z6 (N := 21) Tryz.func16 rfl rfl (lb rfl) fun S w0 R hS hJ0 hH => ?_
 refine Yb (B := St All (SO S (R)) w0 21 [(0, .agg (dbC d)), (1, .int (n : Nat)), (2, .rd (Zb t))] (XO J S w0.heap.size (R))) ?_ fun a w h => h
 refine ln 2 fun hl1 => ?_
 obtain ⟨hck, hz0, hz1⟩ := Zb3 ha
 have hn : n < d.frames.length := by omega
 refine ZL tb hJ [1,2,1000] [.ptr (dbC d),_,_] [0] [_,_,_] rfl ⟨fun _ _ hk hx hl _ => YQ rfl (hl.env 0 0 _ rfl rfl) (Zn hS _ hk hx _ (Nat.le_refl _)) (jo hJ hx), trivial⟩ ?_
 refine Zo (ZL tb hJ [0,1,2,1003] [_,_,.int (YV d (n : Int)),_] [2] [_,_,_,_] rfl ⟨iFo hS hJ (ZbP hJ (d := d) (z := (n : Int)) (by exact hw) (by exact hG)) Zfi, trivial⟩ ?_)
 refine qso tb hJ [0,1,2,3,1001] [_,_] [_,_,_,_,_] ?_
 refine cj 4 (fun hb1 => ?_) fun hb1 => ?_
 try simp at hb1
 exact False.elim (by simp_all)
 try simp at hb1
 refine Zf (nx (tsq ?_))
 refine snK 1 tb rfl ?_
 refine sq (.agg (dbC d)) rfl rfl (lb rfl) (fun _ _ h => Zcy (ZnJ hJ (d := d) (by exact hcp)) Zr2 rfl (Zn hS _ h.keep h.x) (h.x.1) (Za (h.get 0 rfl) Zc) (jo hJ h.x)) ?_
 refine snK 2 tb rfl ?_
 refine sq (.rd (Zb t)) rfl rfl (lb rfl) (fun _ _ h => Zcy (Zgb hJ (xs := t) (by omega)) ZdT rfl (Zn hS _ h.keep h.x) (h.x.1) (Za (h.get 0 rfl) Zc) (jo hJ h.x)) ?_
 refine Xd (O := []) (R := (R)) (ZfZ hJ (d := d) (n := n) (t := t) (by exact hn) (by exact ZhE hck) (by exact fun h hh => ((XU hck _ (Ze hn)).2.2 h hh).2) (by exact (XU hck _ (Ze hn)).1.1) (by exact hl) (by exact hs)) Zmv rfl rfl rfl (lb rfl) hS hJ0 Zp (fun a w h => (Za (h.get 3 rfl) (Za (h.get 2 rfl) (Za (h.get 0 rfl) Zc)))) fun z1 => ?_
 refine snK 2 tb rfl ?_
 refine seK [0,1] [_,_] rfl ?_
 exact nx (Zi (fun a w h => ZlA  (m := 1) (k := 0) (z1.1, z1.2.1, z1.2.2.1, z1.2.2.2) rfl h rfl rfl (tup2 rfl rfl)))
theorem ZqN {J : World → Prop} (hJ : Stab J) (b : Nat) (d : Db) (f : Fr) (nm : Value) (xs : List Itm) (vs : Value) (vt : Value) (n : Nat) (kn : Bool) (y1 : Int) (y2 : Int) (hkn : kn = true) : FnR Tryz.prog J 40 [OB.var b (mkM d f nm xs vs vt n kn y1 y2)] [.at b 0] (.bool false) := by
 refine ZQ (N := 62) Tryz.func40 rfl rfl (lb rfl) fun S w0 hS hJ0 hH => ?_
 refine tw Z7 ?_
 refine ZL tb hJ [1000] [.ptr [.lit (.pointer (some ⟨b, 0, none⟩))],_] [0] [_] rfl ⟨fun _ _ hk hx hl _ => ZaM rfl (hl.env 0 0 _ rfl rfl) (Zn hS _ hk hx _ (Nat.le_refl _)) (jo hJ hx), trivial⟩ ?_
 refine Zo (ZL tb hJ [0,1003] [_,.at b 0,.at b 16,.bool kn] [1,2,3] [_,_] rfl ⟨fun _ _ _ hx hl _ => Zj rfl (hl.D 0 5 rfl rfl) hx, fun _ _ _ hx hl _ => Zk Zar rfl (hl.D 1 6 rfl rfl) hx, fun _ _ hk hx hl _ => Zr (cs := (mkM d f nm xs vs vt n kn y1 y2)) Zd8 rfl (ZR hH hk hx (mo 0 rfl)) (hl.D 2 7 rfl rfl) rfl hx, trivial⟩ ?_)
 refine cj 1 (fun hb1 => ?_) fun hb1 => ?_
 try simp at hb1
 refine qso tb hJ [1000] [_] [_] ?_
 exact Zi (X8 (m := 0) rfl rfl rfl)
 try simp at hb1
 exact False.elim (by simp_all)
theorem Zq2 {J : World → Prop} (hJ : Stab J) (b : Nat) (d : Db) (f : Fr) (nm : Value) (xs : List Itm) (vs : Value) (vt : Value) (n : Nat) (kn : Bool) (y1 : Int) (y2 : Int) (hkn : kn = true) : FnR Tryz.prog J 17 [OB.var b (mkM d f nm xs vs vt n kn y1 y2)] [.at b 0] (.bool false) := by
 refine ZQ (N := 9) Tryz.func17 rfl rfl (lb rfl) fun S w0 hS hJ0 hH => ?_
 refine tw Z7 ?_
 refine qso tb hJ [0] [_] [_] ?_
 refine ZL tb hJ [1006] [_,.bool true,_,_,.bool false,_,_] [1,4] [_] rfl ⟨fun _ _ _ hx hl _ => ZkO Zc4 rfl (hl.D 0 3 rfl rfl) hx, fun _ _ hk hx hl hc => YC (ZqN hJ (b := b) (d := d) (f := f) (nm := nm) (xs := xs) (vs := vs) (vt := vt) (n := n) (kn := kn) (y1 := y1) (y2 := y2) (by have hc' : (true == true) = true := hc; (try simp at hc'); (exact hkn))) ZhJ rfl (Zn hS _ hk hx) (hx.1) (ZE (ZR hH hk hx (mo 0 rfl)) Zp) (Za (hl.D 3 6 rfl hc) Zc) (jo hJ hx), trivial⟩ ?_
 exact Zi (X8 (m := 0) rfl rfl (eB (by simp)))
theorem p_Step {J : World → Prop} (hJ : Stab J) (b : Nat) (d : Db) (f : Fr) (nm : Value) (xs : List Itm) (vs : Value) (vt : Value) (n : Nat) (kn : Bool) (y1 : Int) (y2 : Int) (sk : List (List ByteArray)) (tg : List (List ByteArray)) (hi : kn = false → n < xs.length ∧ okI d.frames.length tg.length (ge xs n)) (hsk : ∀ t ∈ sk, 1 ≤ t.length ∧ t.length ≤ 2000) (hskl : sk.length ≤ 2000) (htg : tg.length ≤ 2000) (hn : n ≤ 2000) (hfr : ∀ g ∈ d.frames, okF g) (hwd : f.wide.length * 32 ≤ 140737488351232) : FnM (ι := Value × Value) Tryz.prog J 17 [] [.at b 0] [OB.var b (mkM d f nm xs vs vt n kn y1 y2), OB.row vs 22 1 (sk.map Zh), OB.row vt 22 1 (tg.map Zh)] (fun _ => .bool ((Zy d.frames d.vars f xs ⟨sk, tg, n, kn, (y1, y2), false⟩).did)) (fun i' => [OB.var b (mkC d f [.lit nm, Xo xs, .lit (i'.1), .lit (i'.2), .lit (.int .i64 (((Zy d.frames d.vars f xs ⟨sk, tg, n, kn, (y1, y2), false⟩).n : Nat) : Int)), .lit (.bool ((Zy d.frames d.vars f xs ⟨sk, tg, n, kn, (y1, y2), false⟩).kn)), .lit (.int .i64 ((Zy d.frames d.vars f xs ⟨sk, tg, n, kn, (y1, y2), false⟩).v.1)), .lit (.int .i64 ((Zy d.frames d.vars f xs ⟨sk, tg, n, kn, (y1, y2), false⟩).v.2))]), OB.row i'.1 22 1 (((Zy d.frames d.vars f xs ⟨sk, tg, n, kn, (y1, y2), false⟩).sk).map Zh), OB.row i'.2 22 1 (((Zy d.frames d.vars f xs ⟨sk, tg, n, kn, (y1, y2), false⟩).tg).map Zh)]) := by
 refine Z6 (N := 9) Tryz.func17 rfl rfl (lb rfl) fun S w0 R hS hJ0 hH => ?_
 refine Yb (B := St All (SO S (OB.var b (mkM d f nm xs vs vt n kn y1 y2) :: OB.row vs 22 1 (sk.map Zh) :: OB.row vt 22 1 (tg.map Zh) :: R)) w0 9 [(0, .at b 0)] (XO J S w0.heap.size (OB.var b (mkM d f nm xs vs vt n kn y1 y2) :: OB.row vs 22 1 (sk.map Zh) :: OB.row vt 22 1 (tg.map Zh) :: R))) ?_ fun a w h => h
 refine qso tb hJ [0] [_] [_] ?_
 refine tsq ?_
 refine snK 1 tb rfl ?_
 refine sq (.bool true) rfl rfl (lb rfl) (fun _ _ h => ZkO Zc4 rfl (h.get 0 rfl) h.x) ?_
 refine snK 1 tb rfl ?_
 refine sq_on rfl rfl rfl 0 rfl ?_
 refine snK 1 tb rfl ?_
 refine sq_on rfl rfl rfl 1 rfl ?_
 refine Xd (O := [OB.var b (mkM d f nm xs vs vt n kn y1 y2), OB.row vs 22 1 (sk.map Zh), OB.row vt 22 1 (tg.map Zh)]) (R := (R)) (ZpG hJ (b := b) (d := d) (f := f) (nm := nm) (xs := xs) (vs := vs) (vt := vt) (n := n) (kn := kn) (y1 := y1) (y2 := y2) (sk := sk) (tg := tg) (by exact hi) (by exact hsk) (by exact hskl) (by exact htg) (by exact hn) (by exact hfr) (by exact hwd)) ZhJ rfl rfl rfl (lb rfl) hS hJ0 Zp (fun a w h => (Za (h.get 0 rfl) Zc)) fun z1 => ?_
 refine sq (.bool (true && ((Zy d.frames d.vars f xs ⟨sk, tg, n, kn, (y1, y2), false⟩).did))) rfl rfl (lb rfl) (fun _ _ h => r_and rfl (h.get 2 rfl) (fun hg => (h.get 0 rfl)) h.x) ?_
 refine snK 1 tb rfl ?_
 refine seK [0] [_] rfl ?_
 exact nx (Zi (fun a w h => ZX  (m := 0) (z1.1, z1.2) rfl h rfl (eB (by simp))))
theorem p_At {J : World → Prop} (hJ : Stab J) (b : Nat) (d : Db) (f : Fr) (nm : Value) (xs : List Itm) (vs : Value) (vt : Value) (n : Nat) (kn : Bool) (y1 : Int) (y2 : Int)  : FnR Tryz.prog J 18 [OB.var b (mkM d f nm xs vs vt n kn y1 y2)] [.at b 0] (.int (n : Nat)) := by
 refine ZQ (N := 9) Tryz.func18 rfl rfl (lb rfl) fun S w0 hS hJ0 hH => ?_
 refine tw Z7 ?_
 refine qso tb hJ [0] [_] [_] ?_
 refine Zo (ZL tb hJ [0,1001] [_,.bool false] [1] [_,_] rfl ⟨fun _ _ _ hx hl _ => Zhf Zc4 rfl (hl.D 0 3 rfl rfl) hx, trivial⟩ ?_)
 refine cj 1 (fun hb1 => ?_) fun hb1 => ?_
 exact False.elim (by cases hb1)
 refine Zf (nx (ZL tb hJ [1004] [_,.at b 0,.at b 15,.int (n : Nat),_] [1,2,3] [_] rfl ⟨fun _ _ _ hx hl _ => Zj rfl (hl.D 0 5 rfl rfl) hx, fun _ _ _ hx hl _ => Zk YG rfl (hl.D 1 6 rfl rfl) hx, fun _ _ hk hx hl _ => Zr (cs := (mkM d f nm xs vs vt n kn y1 y2)) ZaO rfl (ZR hH hk hx (mo 0 rfl)) (hl.D 2 7 rfl rfl) rfl hx, trivial⟩ ?_))
 exact Zi (X8 (m := 0) rfl rfl rfl)
theorem Zld {J : World → Prop} (hJ : Stab J) (b : Nat) (d : Db) (f : Fr) (nm : Value) (xs : List Itm) (vs : Value) (vt : Value) (n : Nat) (kn : Bool) (y1 : Int) (y2 : Int)  : FnR Tryz.prog J 22 [OB.var b (mkM d f nm xs vs vt n kn y1 y2)] [.at b 0] (.agg (vdC (if kn = true then ((y1, y2) : Int × Int) else (16, (n : Int))))) := by
 refine ZQ (N := 22) Tryz.func22 rfl rfl (lb rfl) fun S w0 hS hJ0 hH => ?_
 refine tw Z7 ?_
 refine tsq ?_
 refine ZU QY hJ rfl rfl rfl (lb rfl) fun b1 => ?_
 refine seK [0,1] [_,_] rfl ?_
 refine nx (Zo (Zg (ZL tb hJ [0,1,1002] [_,.bool false,_] [1] [_,_,_] rfl ⟨fun _ _ _ hx hl _ => Zhf Zc4 rfl (hl.D 0 4 rfl rfl) hx, trivial⟩ ?_)))
 refine cj 2 (fun hb1 => ?_) fun hb1 => ?_
 exact False.elim (by cases hb1)
 refine ZL tb hJ [0,1,1005] [_,.at b 0,.at b 16,.bool kn,_,_] [1,2,3] [_,_,_] rfl ⟨fun _ _ _ hx hl _ => Zj rfl (hl.D 0 8 rfl rfl) hx, fun _ _ _ hx hl _ => Zk Zar rfl (hl.D 1 9 rfl rfl) hx, fun _ _ hk hx hl _ => Zr (cs := (mkM d f nm xs vs vt n kn y1 y2)) Zd8 rfl (ZR hH hk hx (mo 0 rfl)) (hl.D 2 10 rfl rfl) rfl hx, trivial⟩ ?_
 refine cj 2 (fun hb2 => ?_) fun hb2 => ?_
 try simp at hb2
 refine tsq ?_
 refine snK 1 tb rfl ?_
 refine sq (.at b 0) rfl rfl (lb rfl) (fun _ _ h => Zj rfl (h.get 0 rfl) h.x) ?_
 refine sq (.at b 15) rfl rfl (lb rfl) (fun _ _ h => Zk YG rfl (h.get 0 rfl) h.x) ?_
 refine sq (.int (n : Nat)) rfl rfl (lb rfl) (fun _ _ h => Zr (cs := (mkM d f nm xs vs vt n kn y1 y2)) ZaO rfl (ZR hH h.keep h.x (mo 0 rfl)) (h.get 0 rfl) rfl h.x) ?_
 refine sq (.agg (vdC (⟨(16 : Int), (n : Int)⟩ : Int × Int))) rfl rfl (lb rfl) (fun a _ h => X2 (us := [a.eval (Go.Operand.const (Go.Value.int Go.IntKind.i64 16)), a.eval (Go.Operand.tmp 16)]) Zbd rfl (by simp) (Zm (Rel.of_lit (Go.Value.int Go.IntKind.i64 16)) (Zm (h.get 0 rfl) ZJ)) rfl h.x) ?_
 refine ZD (b := b1) (off := 0) (cs := [.lit (.int .i64 0), .lit (.int .i64 0)]) (es := [.lit (.int .i64 ((⟨(16 : Int), (n : Int)⟩ : Int × Int).1)), .lit (.int .i64 ((⟨(16 : Int), (n : Int)⟩ : Int × Int).2))]) (news := [.lit (.int .i64 ((⟨(16 : Int), (n : Int)⟩ : Int × Int).1)), .lit (.int .i64 ((⟨(16 : Int), (n : Int)⟩ : Int × Int).2))]) hJ hJ0 Xt rfl rfl rfl (lb rfl) rfl (fun a w h => ⟨(h.get 5 rfl), (h.get 0 rfl)⟩) ?_
 refine seK [5] [_] rfl ?_
 exact nx (Zi (fun a w h => QA (cs := [.lit (.int .i64 ((⟨(16 : Int), (n : Int)⟩ : Int × Int).1)), .lit (.int .i64 ((⟨(16 : Int), (n : Int)⟩ : Int × Int).2))]) (m := 0) rfl XW h rfl rfl (show ([.lit (.int .i64 ((⟨(16 : Int), (n : Int)⟩ : Int × Int).1)), .lit (.int .i64 ((⟨(16 : Int), (n : Int)⟩ : Int × Int).2))] : List CD) = [.lit (.int .i64 ((if kn = true then ((y1, y2) : Int × Int) else (16, (n : Int))).1)), .lit (.int .i64 ((if kn = true then ((y1, y2) : Int × Int) else (16, (n : Int))).2))] from by simp [hb2])))
 try simp at hb2
 refine Zf (nx (tsq ?_))
 refine snK 1 tb rfl ?_
 refine sq (.at b 0) rfl rfl (lb rfl) (fun _ _ h => Zj rfl (h.get 0 rfl) h.x) ?_
 refine sq (.at b 17) rfl rfl (lb rfl) (fun _ _ h => Zk Zbv rfl (h.get 0 rfl) h.x) ?_
 refine sq (.agg [.lit (.int .i64 y1), .lit (.int .i64 y2)]) rfl rfl (lb rfl) (fun _ _ h => Yd (cs := (mkM d f nm xs vs vt n kn y1 y2)) (ds := [.lit (.int .i64 y1), .lit (.int .i64 y2)]) XW rfl (ZR hH h.keep h.x (mo 0 rfl)) (h.get 0 rfl) rfl rfl h.x) ?_
 refine ZD (b := b1) (off := 0) (cs := [.lit (.int .i64 0), .lit (.int .i64 0)]) (es := [.lit (.int .i64 y1), .lit (.int .i64 y2)]) (news := [.lit (.int .i64 y1), .lit (.int .i64 y2)]) hJ hJ0 Xt rfl rfl rfl (lb rfl) rfl (fun a w h => ⟨(h.get 4 rfl), (h.get 0 rfl)⟩) ?_
 refine seK [4] [_] rfl ?_
 exact nx (Zi (fun a w h => QA (cs := [.lit (.int .i64 y1), .lit (.int .i64 y2)]) (m := 0) rfl XW h rfl rfl (show ([.lit (.int .i64 y1), .lit (.int .i64 y2)] : List CD) = [.lit (.int .i64 ((if kn = true then ((y1, y2) : Int × Int) else (16, (n : Int))).1)), .lit (.int .i64 ((if kn = true then ((y1, y2) : Int × Int) else (16, (n : Int))).2))] from by simp [hb2])))
theorem Zq3 {J : World → Prop} (hJ : Stab J) (b : Nat) (d : Db) (f : Fr) (nm : Value) (xs : List Itm) (vs : Value) (vt : Value) (n : Nat) (kn : Bool) (y1 : Int) (y2 : Int) (sk : List (List ByteArray)) (hsk : ∀ t ∈ sk, 1 ≤ t.length ∧ t.length ≤ 2000) (hskl : sk.length ≤ 2000) : FnR Tryz.prog J 20 [OB.var b (mkM d f nm xs vs vt n kn y1 y2), OB.row vs 22 1 (sk.map Zh)] [.at b 0] (.rd (Qw sk)) := by
 refine ZQ (N := 24) Tryz.func20 rfl rfl (lb rfl) fun S w0 hS hJ0 hH => ?_
 refine tw Z7 ?_
 refine qso tb hJ [0] [_] [_] ?_
 refine Zo (ZL tb hJ [0,1001] [_,.bool false] [1] [_,_] rfl ⟨fun _ _ _ hx hl _ => Zhf Zc4 rfl (hl.D 0 6 rfl rfl) hx, trivial⟩ ?_)
 refine cj 1 (fun hb1 => ?_) fun hb1 => ?_
 exact False.elim (by cases hb1)
 refine Zf (nx (qso tb hJ [0,1000] [_] [_,_] ?_))
 refine Zo (ZL tb hJ [1,1003,1004,1005] [_,.at b 0,.at b 13,.lit vs,.int (sk.length : Nat),_] [1,2,3,4] [_,_,_,_] rfl ⟨fun _ _ _ hx hl _ => Zj rfl (hl.D 0 8 rfl rfl) hx, fun _ _ _ hx hl _ => Zk Yp rfl (hl.D 1 9 rfl rfl) hx, fun _ _ hk hx hl _ => Zr (cs := (mkM d f nm xs vs vt n kn y1 y2)) Zax rfl (ZR hH hk hx (mo 0 rfl)) (hl.D 2 10 rfl rfl) rfl hx, fun _ _ hk hx hl _ => ZbM (by rw [List.length_map]) Qo rfl (ZR hH hk hx (mo 1 rfl)) (hl.D 3 11 rfl rfl) hx, trivial⟩ ?_)
 refine Zg (tw (Yu 22 1 hJ) ?_)
 refine lpo (ι := Nat × (List (List ByteArray)) × Value) (fun (k, us, _) => (k ≤ sk.length) ∧ (us = sk.take k)) (fun (_, us, v) => [OB.row v 22 1 (us.map Zh)]) (fun (k, _, v) => [(13, .int (k : Nat)), (3, .lit v)]) (fun (k, _, _) => sk.length - k) [1,2,3,0] [_,_] (0, [], (.slice none 0 0)) ⟨Nat.zero_le _, rfl⟩ ?_
 rintro ⟨k, us, v⟩ ⟨f1_1, f1_2⟩
 refine qso tb hJ [0,1,2,3,1000] [_] [_,_,_,_,_] ?_
 refine cjS 4 (fun hb2 => ?_) fun hb2 => ?_
 try simp at hb2
 have h7 : us.length ≤ 2000 := by rw [f1_2, List.length_take]; omega
 refine Zf (nx (Zo (Zg (ZL tb hJ [0,1,2,3,1001,1002] [.lit (YY vs (k * 1)),.rd (Zb (ge sk k)),_] [0,1] [_,_,_,_,_,_] rfl ⟨fun _ _ hk hx hl _ => YN (i := (k : Int)) ZY rfl (ZR hH hk hx (mo 1 rfl)) (hl.env 0 11 _ rfl rfl) (hl.env 2 13 _ rfl rfl) (Int.natCast_nonneg _) (by rw [List.length_map]; exact Int.ofNat_lt.2 (by first | omega | (simp; omega) | grind [Ze])) hx, fun _ _ hk hx hl _ => X1 (i := k) Y8 rfl (ZR hH hk hx (mo 1 rfl)) (hl.D 0 15 rfl rfl) (Qi (xs := sk) (k := k) (by first | omega | (simp; omega) | grind [Ze])) hx, trivial⟩ ?_))))
 refine ln 4 fun hl1 => ?_
 refine ZA (snK 2 tb rfl ?_)
 refine sq (.rd (Zb (ge sk k))) rfl rfl (lb rfl) (fun _ _ h => Zcy (Zgb hJ (xs := (ge sk k)) (by have h9 := (hsk _ (Ze (k := k) (by omega))).2; omega)) ZdT rfl (Zn hS _ h.keep h.x) (h.x.1) (Za (h.get 0 rfl) Zc) (jo hJ h.x)) ?_
 refine sq (.rd (Qw ([(ge sk k)]))) rfl rfl (lb rfl) (fun _ _ h => Y7 ZY Zca rfl (h.get 0 rfl) (Zn hS _ h.keep h.x _ (Nat.le_refl _)) (jo hJ h.x)) ?_
 refine Y1 (f := Zh) (m := 3) (s := 17) us ([(ge sk k)]) (fun _ => rfl) Za0 hJ hJ0 rfl rfl rfl (lb rfl) rfl rfl (fun a w h => (h.get 0 rfl)) (by first | omega | (simp; omega) | grind [Ze]) (by first | omega | (simp; omega) | grind [Ze]) fun v1 => ?_
 refine snK 1 tb rfl ?_
 refine seK [0,2,6,7,8] [_,_,_,_,_] rfl ?_
 refine nx (ln 1 fun hl2 => ?_)
 refine Xa tb hJ [0,2,3,1001] [.int (k + 1 : Nat),_] [0] [_,_,_,_] rfl ⟨YI, trivial⟩ ?_
 exact XG (k + 1, us ++ ([(ge sk k)]), v1) [1,2,3,0] ⟨by omega, by rw [f1_2]; exact (ZV (by omega)).symm⟩
 try simp at hb2
 refine ZB (nx (qso tb hJ [1001] [_,_] [_] ?_))
 refine tw (fun h => Ys hS h (m := 0) (s := 2) rfl) ?_
 exact Zi (X8 (m := 0) rfl rfl (congrArg (fun z => AV.rd (Qw z)) (show us = sk from by rw [f1_2, ZK (by omega)])))
theorem ZgL : ZcI Tryz.prog 37 [.string ⟨#[]⟩, .bool false, .slice none 0 0, .slice none 0 0, .slice none 0 0, .slice none 0 0, .slice none 0 0, .slice none 0 0] := ⟨fun i => (#[(0, 1), (1, 1), (2, 1), (3, 1), (4, 1), (5, 1), (6, 1), (7, 1)] : Array (Nat × Nat))[i]?, fun j hj => by rcases j with _ | _ | _ | _ | _ | _ | _ | _ | j <;> first | rfl | (simp at hj; omega), fun parts => by kernel_rfl⟩
theorem Zaf : ZmS Tryz.prog 65 := fun ad k c p q => by kernel_rfl
theorem Zql : Tryz.prog.underlying 3 = some (.int .i64) := by kernel_rfl
theorem Zqm : Tryz.prog.underlying 28 = some (.int .i64) := by kernel_rfl
theorem Zkb : (Tryz.prog.fieldsOf 30).toList = [{ name := "Code", type := 28, offset := 0, embedded := false, tag := "", pkgPath := "", byteOffset := 0 }, { name := "Step", type := 3, offset := 1, embedded := false, tag := "", pkgPath := "", byteOffset := 8 }] := by kernel_rfl
theorem Zka : Tryz.prog.underlying 30 = some (.struct (Tryz.prog.fieldsOf 30)) := by kernel_rfl
theorem ZfL (c : Array Value) (i : Nat) (v : Value) (h : c[i]? = some v) (w : World) : (part 3 c i).run Tryz.prog w = .ok v w := by
 simp [part, Tryz.isAgg3, h]
theorem ZfM (c : Array Value) (i : Nat) (v : Value) (h : c[i]? = some v) (w : World) : (part 28 c i).run Tryz.prog w = .ok v w := by
 simp [part, Tryz.isAgg28, h]
theorem eqVd : EqVd Tryz.prog 30 := by
 intro a b c d w x y
 refine ⟨by simp [eqGuard], by simp [eqGuard], ?_⟩
 unfold Op.equal Op.maxDepth
 rw [run_equalIn_struct w 9999 30 _ _ Zka (by kernel_rfl), Zkb]
 have e1 := fun (c : Array Value) (v : Value) (i : Nat) (h : c[i]? = some v) => ZfM c i v h
 have e2 := fun (c : Array Value) (v : Value) (i : Nat) (h : c[i]? = some v) => ZfL c i v h
 have q1 : (Op.equalIn 9999 28 (.int .i64 a) (.int .i64 c)).run Tryz.prog w = .ok (decide (a = c)) w := run_equalIn_int w 9998 28 .i64 .i64 a c Zqm
 have q2 : (Op.equalIn 9999 3 (.int .i64 b) (.int .i64 d)).run Tryz.prog w = .ok (decide (b = d)) w := run_equalIn_int w 9998 3 .i64 .i64 b d Zql
 simp only [Op.eqFields]
 rw [if_pos (by decide), if_pos (by decide)]
 simp only [Sem.run_bind]
 rw [e1 _ (.int .i64 a) 0 rfl w, Result.andThen_ok, e1 _ (.int .i64 c) 0 rfl w, Result.andThen_ok, q1, Result.andThen_ok]
 by_cases h1 : a = c
 · simp only [h1, decide_true, Bool.not_true, Bool.false_eq_true, if_false, Sem.run_bind]
   rw [e2 _ (.int .i64 b) 1 rfl w, Result.andThen_ok, e2 _ (.int .i64 d) 1 rfl w, Result.andThen_ok, q2, Result.andThen_ok]
   by_cases h2 : b = d
   · simp [h2, Sem.run_pure]
   · simp [h2, Sem.run_pure]
 · simp [h1, Sem.run_pure]
theorem ZfA {J : World → Prop} (hJ : Stab J) (h0 : Hy)  : Fn Tryz.prog J 31 [.agg (hyC h0)] (.bool (Zgv h0)) := by
 refine Zx (N := 7) Tryz.func31 rfl rfl (lb rfl) fun S w0 hS hJ0 => ?_
 clear hJ0
 refine hqs tb hJ [1000] [.ptr (hyC h0),_] [0] [_] rfl ⟨fun _ _ hk hx hl _ => YQ rfl (hl.env 0 0 _ rfl rfl) (hS _ hk.size) (js hJ hx), trivial⟩ ?_
 refine hqs tb hJ [1001,1004] [_,_,.int (h0.text.length : Nat),_,_] [2] [_,_] rfl ⟨YH Zw, trivial⟩ ?_
 refine ln 0 fun hl1 => ?_
 exact Zi (rtn (m := 1) rfl rfl (eB (rfl)))
theorem Zj7 {J : World → Prop} (hJ : Stab J) (s : ByteArray)  : Fn Tryz.prog J 32 [.str s] (.bool (Znd s)) := by
 refine Zx (N := 6) Tryz.func32 rfl rfl (lb rfl) fun S w0 hS hJ0 => ?_
 clear hJ0
 refine qs tb hJ [0] [_] [_] ?_
 refine hqs tb hJ [1003] [_,.int (s.size : Nat),_,_] [1] [_] rfl ⟨Zsp YL, trivial⟩ ?_
 exact Zi (rtn (m := 0) rfl rfl (eB (rfl)))
theorem Zm2 {J : World → Prop} (hJ : Stab J) (f : Fr) (m : Int)  : Fn Tryz.prog J 30 [.agg (frC f), .ptr [.lit (.int .i64 m)]] (.bool (ZlW m f)) := by
 refine Zx (N := 57) Tryz.func30 rfl rfl (lb rfl) fun S w0 hS hJ0 => ?_
 clear hJ0
 refine hqs tb hJ [1,1000] [.ptr (frC f),_] [0] [_,_] rfl ⟨fun _ _ hk hx hl _ => YQ rfl (hl.env 0 0 _ rfl rfl) (hS _ hk.size) (js hJ hx), trivial⟩ ?_
 refine qs tb hJ [0,1,1000] [_] [_,_,_] ?_
 refine hqs tb hJ [1001,1052] [_,_,.int (f.proof.length : Nat),_,_,_,_,_,.int (f.text.length : Nat),_,_,_,_,_,.int (f.hyps.length : Nat),_,_,_,_,_,.int (f.dummies.length : Nat),_,_,_,_,_,.int (f.apart.length : Nat),_,_,_,_,_,.int (f.wide.length : Nat),_,_,_,_,_,_,.bool (f.hyps.any Zgv),_,_,_,_,_,.bool (f.dummies.any Zgv),_,_,_,_,.bool (f.proof.any Znd),_,_] [2,8,14,20,26,32,39,45,50] [_,_] rfl ⟨YH Zw, YH Zw, YH ZI, YH ZI, YH Z9, YH Z9, fun _ _ hk hx hl hc => YC (XQ hJ (xs := f.hyps) (f := 31) (caps := []) (Os := []) (p := Zgv) (fun q' => (ZfA hJ q').rr) (Zmx)) Zfj rfl (nm hS hk) (hx) Zp (Za (hl.D 37 42 rfl hc) (Za (hl.D 38 43 rfl hc) Zc)) (js hJ hx), fun _ _ hk hx hl hc => YC (XQ hJ (xs := f.dummies) (f := 31) (caps := []) (Os := []) (p := Zgv) (fun q' => (ZfA hJ q').rr) (Zmx)) Zfj rfl (nm hS hk) (hx) Zp (Za (hl.D 43 48 rfl hc) (Za (hl.D 44 49 rfl hc) Zc)) (js hJ hx), fun _ _ hk hx hl hc => YC (Yg hJ (xs := f.proof) (f := 32) (caps := []) (Os := []) (p := Znd) (fun q' => (Zj7 hJ q').rr) (Zr6)) Zau rfl (nm hS hk) (hx) Zp (Za (hl.D 49 54 rfl hc) (Za (XL 32) Zc)) (js hJ hx), trivial⟩ ?_
 refine ln 0 fun hl1 => ?_
 exact Zi (rtn (m := 1) rfl rfl (eB (rfl)))
theorem Zj8 {J : World → Prop} (hJ : Stab J) (d : Db) (n : Int) (m : Int)  : Fn Tryz.prog J 7 [.agg (dbC d), .int n, .int m] (.bool (Zdb d n m)) := by
 refine Zx (N := 31) Tryz.func7 rfl rfl (lb rfl) fun S w0 hS hJ0 => ?_
 clear hJ0
 refine hqs tb hJ [1,1000,1001] [.ptr (dbC d),.ptr [.lit (.int .i64 m)],_] [0,1] [_,_,_] rfl ⟨fun _ _ hk hx hl _ => YQ rfl (hl.env 0 0 _ rfl rfl) (hS _ hk.size) (js hJ hx), fun _ _ hk hx hl _ => ZaM rfl (hl.env 2 2 _ rfl rfl) (hS _ hk.size) (js hJ hx), trivial⟩ ?_
 refine hqs tb hJ [1001,1024] [_,_,.int (d.frames.length : Nat),_,_,_,_,_,.int (d.consts.length : Nat),_,_,_,_,_,.int (d.vars.length : Nat),_,_,_,_,_,.fn 30 [.ptr [.lit (.int .i64 m)]],.bool (d.frames.any (ZlW m)),_,_,_] [2,8,14,20,21] [_,_] rfl ⟨YH Qp, YH Zw, YH Zw, fun _ _ _ hx hl _ => Y3 (caps := [(Go.Operand.tmp 5)]) rfl (Za (hl.env 2 5 _ rfl rfl) Zc) hx, fun _ _ hk hx hl hc => YC (Zdn hJ (xs := d.frames) (f := 30) (caps := [.ptr [.lit (.int .i64 m)]]) (Os := []) (p := (ZlW m)) (fun q' => (Zm2 hJ q' m).rr) (Zr7)) Zr8 rfl (nm hS hk) (hx) Zp (Za (hl.D 19 26 rfl hc) (Za (hl.D 20 27 rfl hc) Zc)) (js hJ hx), trivial⟩ ?_
 refine ln 0 fun hl1 => ?_
 exact Zi (rtn (m := 1) rfl rfl (eB (rfl)))
theorem Zm1 {J : World → Prop} (hJ : Stab J) (p : List ByteArray)  : Fn Tryz.prog J 33 [.rd (Zb p)] (.agg (dbC (Z5 p))) := by
 refine Zx (N := 26) Tryz.func33 rfl rfl (lb rfl) fun S w0 hS hJ0 => ?_
 refine tw Z7 ?_
 refine ln 0 fun hl1 => ?_
 refine tsq ?_
 refine ZU Zbp hJ rfl rfl rfl (lb rfl) fun b1 => ?_
 refine seK [0,1] [_,_] rfl ?_
 refine nx (tsq ?_)
 refine sq (.rd (Zb ([Zsk, phT] : List ByteArray))) rfl rfl (lb rfl) (fun a _ h => Y6 (k := 2) (us := [a.eval (Go.Operand.const (Go.Value.string { data := #[119, 102, 102] })), a.eval (Go.Operand.const (Go.Value.string { data := #[112, 104] }))]) Zs Xp rfl (by simp) (Zm (Rel.of_lit (Go.Value.string { data := #[119, 102, 102] }) (lb rfl)) (Zm (Rel.of_lit (Go.Value.string { data := #[112, 104] }) (lb rfl)) ZJ)) rfl (by decide) (by decide) (Zn hS _ h.keep h.x _ (Nat.le_refl _)) (jo hJ h.x)) ?_
 refine sq (.agg (hyC (Zcd))) rfl rfl (lb rfl) (fun a _ h => X2 (us := [a.eval (Go.Operand.const (Go.Value.string { data := #[119, 112, 104] })), a.eval (Go.Operand.const (Go.Value.bool true)), a.eval (Go.Operand.tmp 6)]) ZeF rfl (by simp) (Zm (Rel.of_lit (Go.Value.string { data := #[119, 112, 104] }) (lb rfl)) (Zm (Rel.of_lit (Go.Value.bool true)) (Zm (h.get 0 rfl) ZJ))) rfl h.x) ?_
 refine sq (.rd (Zb ([Zsk, psT] : List ByteArray))) rfl rfl (lb rfl) (fun a _ h => Y6 (k := 2) (us := [a.eval (Go.Operand.const (Go.Value.string { data := #[119, 102, 102] })), a.eval (Go.Operand.const (Go.Value.string { data := #[112, 115] }))]) Zs Xp rfl (by simp) (Zm (Rel.of_lit (Go.Value.string { data := #[119, 102, 102] }) (lb rfl)) (Zm (Rel.of_lit (Go.Value.string { data := #[112, 115] }) (lb rfl)) ZJ)) rfl (by decide) (by decide) (Zn hS _ h.keep h.x _ (Nat.le_refl _)) (jo hJ h.x)) ?_
 refine sq (.agg (hyC (Zcc))) rfl rfl (lb rfl) (fun a _ h => X2 (us := [a.eval (Go.Operand.const (Go.Value.string { data := #[119, 112, 115] })), a.eval (Go.Operand.const (Go.Value.bool true)), a.eval (Go.Operand.tmp 8)]) ZeF rfl (by simp) (Zm (Rel.of_lit (Go.Value.string { data := #[119, 112, 115] }) (lb rfl)) (Zm (Rel.of_lit (Go.Value.bool true)) (Zm (h.get 0 rfl) ZJ))) rfl h.x) ?_
 refine ZU YD hJ rfl rfl rfl (lb rfl) fun b2 => ?_
 refine ZU YD hJ rfl rfl rfl (lb rfl) fun b3 => ?_
 refine kw pm1 ?_
 refine ZD (b := b2) (off := 0) (cs := [.lit (.string (⟨#[]⟩ : ByteArray)), .lit (.bool false), Zb ([] : List ByteArray)]) (es := [.lit (.string ((Zcd).label)), .lit (.bool ((Zcd).floating)), Zb ((Zcd).text)]) (news := [.lit (.string ((Zcd).label)), .lit (.bool ((Zcd).floating)), Zb ((Zcd).text)]) hJ hJ0 YT rfl rfl rfl (lb rfl) rfl (fun a w h => ⟨(h.get 1 rfl), (h.get 4 rfl)⟩) ?_
 refine kw pm1 ?_
 refine ZD (b := b3) (off := 0) (cs := [.lit (.string (⟨#[]⟩ : ByteArray)), .lit (.bool false), Zb ([] : List ByteArray)]) (es := [.lit (.string ((Zcc).label)), .lit (.bool ((Zcc).floating)), Zb ((Zcc).text)]) (news := [.lit (.string ((Zcc).label)), .lit (.bool ((Zcc).floating)), Zb ((Zcc).text)]) hJ hJ0 YT rfl rfl rfl (lb rfl) rfl (fun a w h => ⟨(h.get 0 rfl), (h.get 2 rfl)⟩) ?_
 refine seK [0,1,3,5,6,7] [_,_,_,_,_,_] rfl ?_
 refine nx (ln 2 fun hl2 => ?_)
 refine ln 3 fun hl3 => ?_
 refine ZL tb hJ [0,1,4,5,1000,1001] [.rd (Zb (smTx)),_] [0] [_,_,_,_,_,_] rfl ⟨fun a _ hk hx _ _ => Y6 (k := 10) (us := [a.eval (Go.Operand.const (Go.Value.string { data := #[124, 45] })), a.eval (Go.Operand.const (Go.Value.string { data := #[40] })), a.eval (Go.Operand.const (Go.Value.string { data := #[112, 104] })), a.eval (Go.Operand.const (Go.Value.string { data := #[45, 62] })), a.eval (Go.Operand.const (Go.Value.string { data := #[40] })), a.eval (Go.Operand.const (Go.Value.string { data := #[112, 115] })), a.eval (Go.Operand.const (Go.Value.string { data := #[45, 62] })), a.eval (Go.Operand.const (Go.Value.string { data := #[112, 104] })), a.eval (Go.Operand.const (Go.Value.string { data := #[41] })), a.eval (Go.Operand.const (Go.Value.string { data := #[41] }))]) Zs Xp rfl (by simp) (Zm (Rel.of_lit (Go.Value.string { data := #[124, 45] }) (lb rfl)) (Zm (Rel.of_lit (Go.Value.string { data := #[40] }) (lb rfl)) (Zm (Rel.of_lit (Go.Value.string { data := #[112, 104] }) (lb rfl)) (Zm (Rel.of_lit (Go.Value.string { data := #[45, 62] }) (lb rfl)) (Zm (Rel.of_lit (Go.Value.string { data := #[40] }) (lb rfl)) (Zm (Rel.of_lit (Go.Value.string { data := #[112, 115] }) (lb rfl)) (Zm (Rel.of_lit (Go.Value.string { data := #[45, 62] }) (lb rfl)) (Zm (Rel.of_lit (Go.Value.string { data := #[112, 104] }) (lb rfl)) (Zm (Rel.of_lit (Go.Value.string { data := #[41] }) (lb rfl)) (Zm (Rel.of_lit (Go.Value.string { data := #[41] }) (lb rfl)) ZJ)))))))))) rfl (by decide) (by decide) (Zn hS _ hk hx _ (Nat.le_refl _)) (jo hJ hx), trivial⟩ ?_
 refine ln 4 fun hl4 => ?_
 refine tsq ?_
 refine sq (.rd (Zb ([Zsk, tuT, opT, clT, arT] : List ByteArray))) rfl rfl (lb rfl) (fun a _ h => Y6 (k := 5) (us := [a.eval (Go.Operand.const (Go.Value.string { data := #[119, 102, 102] })), a.eval (Go.Operand.const (Go.Value.string { data := #[124, 45] })), a.eval (Go.Operand.const (Go.Value.string { data := #[40] })), a.eval (Go.Operand.const (Go.Value.string { data := #[41] })), a.eval (Go.Operand.const (Go.Value.string { data := #[45, 62] }))]) Zs Xp rfl (by simp) (Zm (Rel.of_lit (Go.Value.string { data := #[119, 102, 102] }) (lb rfl)) (Zm (Rel.of_lit (Go.Value.string { data := #[124, 45] }) (lb rfl)) (Zm (Rel.of_lit (Go.Value.string { data := #[40] }) (lb rfl)) (Zm (Rel.of_lit (Go.Value.string { data := #[41] }) (lb rfl)) (Zm (Rel.of_lit (Go.Value.string { data := #[45, 62] }) (lb rfl)) ZJ))))) rfl (by decide) (by decide) (Zn hS _ h.keep h.x _ (Nat.le_refl _)) (jo hJ h.x)) ?_
 refine sq (.rd (Zb ([phT, psT] : List ByteArray))) rfl rfl (lb rfl) (fun a _ h => Y6 (k := 2) (us := [a.eval (Go.Operand.const (Go.Value.string { data := #[112, 104] })), a.eval (Go.Operand.const (Go.Value.string { data := #[112, 115] }))]) Zs Xp rfl (by simp) (Zm (Rel.of_lit (Go.Value.string { data := #[112, 104] }) (lb rfl)) (Zm (Rel.of_lit (Go.Value.string { data := #[112, 115] }) (lb rfl)) ZJ)) rfl (by decide) (by decide) (Zn hS _ h.keep h.x _ (Nat.le_refl _)) (jo hJ h.x)) ?_
 refine sq (.agg (hyC (Zcd))) rfl rfl (lb rfl) (fun _ _ h => Yd (cs := [.lit (.string ((Zcd).label)), .lit (.bool ((Zcd).floating)), Zb ((Zcd).text)]) (ds := [.lit (.string ((Zcd).label)), .lit (.bool ((Zcd).floating)), Zb ((Zcd).text)]) Qb rfl (Zd h.x (mo 1 rfl)) (h.get 3 rfl) rfl rfl h.x) ?_
 refine sq (.agg (hyC (Zcc))) rfl rfl (lb rfl) (fun _ _ h => Yd (cs := [.lit (.string ((Zcc).label)), .lit (.bool ((Zcc).floating)), Zb ((Zcc).text)]) (ds := [.lit (.string ((Zcc).label)), .lit (.bool ((Zcc).floating)), Zb ((Zcc).text)]) Qb rfl (Zd h.x (mo 0 rfl)) (h.get 3 rfl) rfl rfl h.x) ?_
 refine sq (.rd (Ya ([Zcd, Zcc]))) rfl rfl (lb rfl) (fun a _ h => ZfS (z := #[.string ⟨#[]⟩, .bool false, .slice none 0 0]) (cs := [hyC (Zcd), hyC (Zcc)]) (vs := [a.eval (Go.Operand.tmp 13), a.eval (Go.Operand.tmp 14)]) ZH (fun w => by kernel_rfl) rfl (by simp) (Za (h.get 1 rfl) (Za (h.get 0 rfl) Zc)) (of_decide_eq_true rfl) rfl (by decide) (by decide) (by decide) (Zn hS _ h.keep h.x _ (Nat.le_refl _)) (jo hJ h.x)) ?_
 refine snK 1 tb rfl ?_
 refine sq (.agg (frC (Zsn))) rfl rfl (lb rfl) (fun a _ h => Yw (ps := [(0, a.eval (Go.Operand.const (Go.Value.string { data := #[97, 120, 45, 49] }))), (2, a.eval (Go.Operand.tmp 15)), (4, a.eval (Go.Operand.tmp 16))]) (us := [a.eval (Go.Operand.const (Go.Value.string { data := #[97, 120, 45, 49] })), .bool false, a.eval (Go.Operand.tmp 15), .slice none 0 0, a.eval (Go.Operand.tmp 16), .slice none 0 0, .slice none 0 0, .slice none 0 0]) ZgL rfl (by simp) (ZdV (lb rfl) rfl (ZdV (lb rfl) (Rel.oneC (h.get 1 rfl)) (ZdV (lb rfl) (Rel.oneC (h.get 0 rfl)) ZeI))) rfl (Zm (Rel.of_lit (Go.Value.string { data := #[97, 120, 45, 49] }) (lb rfl)) (YJ (.lit _ True.intro) (Zm (h.get 1 rfl) (YJ (.nil _ _ (Nat.zero_le _)) (Zm (h.get 0 rfl) (YJ (.nil _ _ (Nat.zero_le _)) (YJ (.nil _ _ (Nat.zero_le _)) (YJ (.nil _ _ (Nat.zero_le _)) ZJ)))))))) h.x) ?_
 refine sq (.agg (hyC (Zcd))) rfl rfl (lb rfl) (fun _ _ h => Yd (cs := [.lit (.string ((Zcd).label)), .lit (.bool ((Zcd).floating)), Zb ((Zcd).text)]) (ds := [.lit (.string ((Zcd).label)), .lit (.bool ((Zcd).floating)), Zb ((Zcd).text)]) Qb rfl (Zd h.x (mo 1 rfl)) (h.get 8 rfl) rfl rfl h.x) ?_
 refine sq (.agg (hyC (Zcc))) rfl rfl (lb rfl) (fun _ _ h => Yd (cs := [.lit (.string ((Zcc).label)), .lit (.bool ((Zcc).floating)), Zb ((Zcc).text)]) (ds := [.lit (.string ((Zcc).label)), .lit (.bool ((Zcc).floating)), Zb ((Zcc).text)]) Qb rfl (Zd h.x (mo 0 rfl)) (h.get 8 rfl) rfl rfl h.x) ?_
 refine sq (.rd (Ya ([Zcd, Zcc]))) rfl rfl (lb rfl) (fun a _ h => ZfS (z := #[.string ⟨#[]⟩, .bool false, .slice none 0 0]) (cs := [hyC (Zcd), hyC (Zcc)]) (vs := [a.eval (Go.Operand.tmp 18), a.eval (Go.Operand.tmp 19)]) ZH (fun w => by kernel_rfl) rfl (by simp) (Za (h.get 1 rfl) (Za (h.get 0 rfl) Zc)) (of_decide_eq_true rfl) rfl (by decide) (by decide) (by decide) (Zn hS _ h.keep h.x _ (Nat.le_refl _)) (jo hJ h.x)) ?_
 refine snK 2 tb rfl ?_
 refine sq (.agg (frC (Zsm p))) rfl rfl (lb rfl) (fun a _ h => Yw (ps := [(0, a.eval (Go.Operand.const (Go.Value.string { data := #[116, 104] }))), (1, a.eval (Go.Operand.const (Go.Value.bool true))), (2, a.eval (Go.Operand.tmp 20)), (4, a.eval (Go.Operand.tmp 21)), (7, a.eval (Go.Operand.tmp 22))]) (us := [a.eval (Go.Operand.const (Go.Value.string { data := #[116, 104] })), a.eval (Go.Operand.const (Go.Value.bool true)), a.eval (Go.Operand.tmp 20), .slice none 0 0, a.eval (Go.Operand.tmp 21), .slice none 0 0, .slice none 0 0, a.eval (Go.Operand.tmp 22)]) ZgL rfl (by simp) (ZdV (lb rfl) rfl (ZdV (lb rfl) rfl (ZdV (lb rfl) (Rel.oneC (h.get 2 rfl)) (ZdV (lb rfl) (Rel.oneC (h.get 1 rfl)) (ZdV (lb rfl) (Rel.oneC (h.get 0 rfl)) ZeI))))) rfl (Zm (Rel.of_lit (Go.Value.string { data := #[116, 104] }) (lb rfl)) (Zm (Rel.of_lit (Go.Value.bool true)) (Zm (h.get 2 rfl) (YJ (.nil _ _ (Nat.zero_le _)) (Zm (h.get 1 rfl) (YJ (.nil _ _ (Nat.zero_le _)) (YJ (.nil _ _ (Nat.zero_le _)) (Zm (h.get 0 rfl) ZJ)))))))) h.x) ?_
 refine sq (.rd (QG ([Zsn, (Zsm p)]))) rfl rfl (lb rfl) (fun a _ h => ZfS (z := #[.string ⟨#[]⟩, .bool false, .slice none 0 0, .slice none 0 0, .slice none 0 0, .slice none 0 0, .slice none 0 0, .slice none 0 0]) (cs := [frC (Zsn), frC (Zsm p)]) (vs := [a.eval (Go.Operand.tmp 17), a.eval (Go.Operand.tmp 23)]) YB (fun w => by kernel_rfl) rfl (by simp) (Za (h.get 6 rfl) (Za (h.get 0 rfl) Zc)) (of_decide_eq_true rfl) rfl (by decide) (by decide) (by decide) (Zn hS _ h.keep h.x _ (Nat.le_refl _)) (jo hJ h.x)) ?_
 refine sq (.agg (dbC (Z5 p))) rfl rfl (lb rfl) (fun a _ h => X2 (us := [a.eval (Go.Operand.tmp 11), a.eval (Go.Operand.tmp 12), a.eval (Go.Operand.tmp 24)]) ZjX rfl (by simp) (Zm (h.get 13 rfl) (Zm (h.get 12 rfl) (Zm (h.get 0 rfl) ZJ))) rfl h.x) ?_
 refine kw pm2 ?_
 refine ZD (b := b1) (off := 0) (cs := [Zb ([] : List ByteArray), Zb ([] : List ByteArray), QG ([] : List Fr)]) (es := [Zb ((Z5 p).consts), Zb ((Z5 p).vars), QG ((Z5 p).frames)]) (news := [Zb ((Z5 p).consts), Zb ((Z5 p).vars), QG ((Z5 p).frames)]) hJ hJ0 Zde rfl rfl rfl (lb rfl) rfl (fun a w h => ⟨(h.get 17 rfl), (h.get 0 rfl)⟩) ?_
 refine seK [1,5,10,13,14,17] [_,_,_,_,_,_] rfl ?_
 refine nx (ln 0 fun hl5 => ?_)
 refine ln 1 fun hl6 => ?_
 refine ln 3 fun hl7 => ?_
 refine ln 4 fun hl8 => ?_
 exact Zi (fun a w h => QA (cs := [Zb ((Z5 p).consts), Zb ((Z5 p).vars), QG ((Z5 p).frames)]) (m := 5) rfl Zb5 h rfl rfl (show ([Zb ((Z5 p).consts), Zb ((Z5 p).vars), QG ((Z5 p).frames)] : List CD) = [Zb ((Z5 p).consts), Zb ((Z5 p).vars), QG ((Z5 p).frames)] from rfl))
theorem ZeL {J : World → Prop} (hJ : Stab J)  (hG : XY J) : Fn Tryz.prog J 8 [] (.bool true) := by
 refine Zx (N := 42) Tryz.func8 rfl rfl (lb rfl) fun S w0 hS hJ0 => ?_
 refine tw Z7 ?_
 refine qso tb hJ [] [_] [] ?_
 refine Zo (Zo (Xa tb hJ [1000,1003,1006,1009,1012,1015,1016,1017] [.rd (Zb ([Zb6, ZeK, ZaA] : List ByteArray)),.agg (vdC (⟨0, 0⟩ : Int × Int)),.agg (exC (⟨([Zb6, ZeK, ZaA] : List ByteArray), (⟨0, 0⟩ : Int × Int)⟩ : Exm)),.rd (Zb ([Zb6, ZaA] : List ByteArray)),.agg (vdC (⟨(23 : Int), (1 : Int)⟩ : Int × Int)),.agg (exC (⟨([Zb6, ZaA] : List ByteArray), (⟨(23 : Int), (1 : Int)⟩ : Int × Int)⟩ : Exm)),.rd (Zb ([opT, ZaA, clT, (⟨#[65, 66, 67]⟩ : ByteArray)] : List ByteArray)),.agg (vdC (⟨0, 0⟩ : Int × Int)),.agg (exC (⟨([opT, ZaA, clT, (⟨#[65, 66, 67]⟩ : ByteArray)] : List ByteArray), (⟨0, 0⟩ : Int × Int)⟩ : Exm)),.rd (Zb ([opT, clT, (⟨#[65, 66, 68]⟩ : ByteArray)] : List ByteArray)),.agg (vdC (⟨(21 : Int), 0⟩ : Int × Int)),.agg (exC (⟨([opT, clT, (⟨#[65, 66, 68]⟩ : ByteArray)] : List ByteArray), (⟨(21 : Int), 0⟩ : Int × Int)⟩ : Exm)),.rd (Zb ([ZeK, Zb6, ZaA] : List ByteArray)),.agg (vdC (⟨(28 : Int), (3 : Int)⟩ : Int × Int)),.agg (exC (⟨([ZeK, Zb6, ZaA] : List ByteArray), (⟨(28 : Int), (3 : Int)⟩ : Int × Int)⟩ : Exm)),.rd (exsC ([(⟨([Zb6, ZeK, ZaA] : List ByteArray), (⟨0, 0⟩ : Int × Int)⟩ : Exm), (⟨([Zb6, ZaA] : List ByteArray), (⟨(23 : Int), (1 : Int)⟩ : Int × Int)⟩ : Exm), (⟨([opT, ZaA, clT, (⟨#[65, 66, 67]⟩ : ByteArray)] : List ByteArray), (⟨0, 0⟩ : Int × Int)⟩ : Exm), (⟨([opT, clT, (⟨#[65, 66, 68]⟩ : ByteArray)] : List ByteArray), (⟨(21 : Int), 0⟩ : Int × Int)⟩ : Exm), (⟨([ZeK, Zb6, ZaA] : List ByteArray), (⟨(28 : Int), (3 : Int)⟩ : Int × Int)⟩ : Exm)])),.int (([(⟨([Zb6, ZeK, ZaA] : List ByteArray), (⟨0, 0⟩ : Int × Int)⟩ : Exm), (⟨([Zb6, ZaA] : List ByteArray), (⟨(23 : Int), (1 : Int)⟩ : Int × Int)⟩ : Exm), (⟨([opT, ZaA, clT, (⟨#[65, 66, 67]⟩ : ByteArray)] : List ByteArray), (⟨0, 0⟩ : Int × Int)⟩ : Exm), (⟨([opT, clT, (⟨#[65, 66, 68]⟩ : ByteArray)] : List ByteArray), (⟨(21 : Int), 0⟩ : Int × Int)⟩ : Exm), (⟨([ZeK, Zb6, ZaA] : List ByteArray), (⟨(28 : Int), (3 : Int)⟩ : Int × Int)⟩ : Exm)]).length : Nat),_] [0,1,2,3,4,5,6,7,8,9,10,11,12,13,14,15,16] [_,_,_,_,_,_,_,_] rfl ⟨fun a _ hk hx _ _ => Y6 (k := 3) (us := [a.eval (Go.Operand.const (Go.Value.string { data := #[119, 112, 104] })), a.eval (Go.Operand.const (Go.Value.string { data := #[119, 112, 115] })), a.eval (Go.Operand.const (Go.Value.string { data := #[97, 120, 45, 49] }))]) Zs Xp rfl (by simp) (Zm (Rel.of_lit (Go.Value.string { data := #[119, 112, 104] }) (lb rfl)) (Zm (Rel.of_lit (Go.Value.string { data := #[119, 112, 115] }) (lb rfl)) (Zm (Rel.of_lit (Go.Value.string { data := #[97, 120, 45, 49] }) (lb rfl)) ZJ))) rfl (by decide) (by decide) (Zn hS _ hk hx _ (Nat.le_refl _)) (jo hJ hx), fun _ _ _ hx _ _ => Yw (ps := []) (us := [.int .i64 0, .int .i64 0]) Zae rfl (by simp) ZeI rfl (YJ (.lit _ True.intro) (YJ (.lit _ True.intro) ZJ)) hx, fun _ _ _ hx hl _ => ZaL (xs := ([Zb6, ZeK, ZaA] : List ByteArray)) Zaf rfl (hl.D 0 5 rfl rfl) (hl.D 1 6 rfl rfl) hx, fun a _ hk hx _ _ => Y6 (k := 2) (us := [a.eval (Go.Operand.const (Go.Value.string { data := #[119, 112, 104] })), a.eval (Go.Operand.const (Go.Value.string { data := #[97, 120, 45, 49] }))]) Zs Xp rfl (by simp) (Zm (Rel.of_lit (Go.Value.string { data := #[119, 112, 104] }) (lb rfl)) (Zm (Rel.of_lit (Go.Value.string { data := #[97, 120, 45, 49] }) (lb rfl)) ZJ)) rfl (by decide) (by decide) (Zn hS _ hk hx _ (Nat.le_refl _)) (jo hJ hx), fun a _ _ hx _ _ => X2 (us := [a.eval (Go.Operand.const (Go.Value.int Go.IntKind.i64 23)), a.eval (Go.Operand.const (Go.Value.int Go.IntKind.i64 1))]) Zbd rfl (by simp) (Zm (Rel.of_lit (Go.Value.int Go.IntKind.i64 23)) (Zm (Rel.of_lit (Go.Value.int Go.IntKind.i64 1)) ZJ)) rfl hx, fun _ _ _ hx hl _ => ZaL (xs := ([Zb6, ZaA] : List ByteArray)) Zaf rfl (hl.D 3 8 rfl rfl) (hl.D 4 9 rfl rfl) hx, fun a _ hk hx _ _ => Y6 (k := 4) (us := [a.eval (Go.Operand.const (Go.Value.string { data := #[40] })), a.eval (Go.Operand.const (Go.Value.string { data := #[97, 120, 45, 49] })), a.eval (Go.Operand.const (Go.Value.string { data := #[41] })), a.eval (Go.Operand.const (Go.Value.string { data := #[65, 66, 67] }))]) Zs Xp rfl (by simp) (Zm (Rel.of_lit (Go.Value.string { data := #[40] }) (lb rfl)) (Zm (Rel.of_lit (Go.Value.string { data := #[97, 120, 45, 49] }) (lb rfl)) (Zm (Rel.of_lit (Go.Value.string { data := #[41] }) (lb rfl)) (Zm (Rel.of_lit (Go.Value.string { data := #[65, 66, 67] }) (lb rfl)) ZJ)))) rfl (by decide) (by decide) (Zn hS _ hk hx _ (Nat.le_refl _)) (jo hJ hx), fun _ _ _ hx _ _ => Yw (ps := []) (us := [.int .i64 0, .int .i64 0]) Zae rfl (by simp) ZeI rfl (YJ (.lit _ True.intro) (YJ (.lit _ True.intro) ZJ)) hx, fun _ _ _ hx hl _ => ZaL (xs := ([opT, ZaA, clT, (⟨#[65, 66, 67]⟩ : ByteArray)] : List ByteArray)) Zaf rfl (hl.D 6 11 rfl rfl) (hl.D 7 12 rfl rfl) hx, fun a _ hk hx _ _ => Y6 (k := 3) (us := [a.eval (Go.Operand.const (Go.Value.string { data := #[40] })), a.eval (Go.Operand.const (Go.Value.string { data := #[41] })), a.eval (Go.Operand.const (Go.Value.string { data := #[65, 66, 68] }))]) Zs Xp rfl (by simp) (Zm (Rel.of_lit (Go.Value.string { data := #[40] }) (lb rfl)) (Zm (Rel.of_lit (Go.Value.string { data := #[41] }) (lb rfl)) (Zm (Rel.of_lit (Go.Value.string { data := #[65, 66, 68] }) (lb rfl)) ZJ))) rfl (by decide) (by decide) (Zn hS _ hk hx _ (Nat.le_refl _)) (jo hJ hx), fun a _ _ hx _ _ => Yw (ps := [(0, a.eval (Go.Operand.const (Go.Value.int Go.IntKind.i64 21)))]) (us := [a.eval (Go.Operand.const (Go.Value.int Go.IntKind.i64 21)), .int .i64 0]) Zae rfl (by simp) (ZdV (lb rfl) rfl ZeI) rfl (Zm (Rel.of_lit (Go.Value.int Go.IntKind.i64 21)) (YJ (.lit _ True.intro) ZJ)) hx, fun _ _ _ hx hl _ => ZaL (xs := ([opT, clT, (⟨#[65, 66, 68]⟩ : ByteArray)] : List ByteArray)) Zaf rfl (hl.D 9 14 rfl rfl) (hl.D 10 15 rfl rfl) hx, fun a _ hk hx _ _ => Y6 (k := 3) (us := [a.eval (Go.Operand.const (Go.Value.string { data := #[119, 112, 115] })), a.eval (Go.Operand.const (Go.Value.string { data := #[119, 112, 104] })), a.eval (Go.Operand.const (Go.Value.string { data := #[97, 120, 45, 49] }))]) Zs Xp rfl (by simp) (Zm (Rel.of_lit (Go.Value.string { data := #[119, 112, 115] }) (lb rfl)) (Zm (Rel.of_lit (Go.Value.string { data := #[119, 112, 104] }) (lb rfl)) (Zm (Rel.of_lit (Go.Value.string { data := #[97, 120, 45, 49] }) (lb rfl)) ZJ))) rfl (by decide) (by decide) (Zn hS _ hk hx _ (Nat.le_refl _)) (jo hJ hx), fun a _ _ hx _ _ => X2 (us := [a.eval (Go.Operand.const (Go.Value.int Go.IntKind.i64 28)), a.eval (Go.Operand.const (Go.Value.int Go.IntKind.i64 3))]) Zbd rfl (by simp) (Zm (Rel.of_lit (Go.Value.int Go.IntKind.i64 28)) (Zm (Rel.of_lit (Go.Value.int Go.IntKind.i64 3)) ZJ)) rfl hx, fun _ _ _ hx hl _ => ZaL (xs := ([ZeK, Zb6, ZaA] : List ByteArray)) Zaf rfl (hl.D 12 17 rfl rfl) (hl.D 13 18 rfl rfl) hx, fun a w hk hx hl _ => ZfS (z := #[.slice none 0 0, .int .i64 0, .int .i64 0]) (cs := [exC (⟨([Zb6, ZeK, ZaA] : List ByteArray), (⟨0, 0⟩ : Int × Int)⟩ : Exm), exC (⟨([Zb6, ZaA] : List ByteArray), (⟨(23 : Int), (1 : Int)⟩ : Int × Int)⟩ : Exm), exC (⟨([opT, ZaA, clT, (⟨#[65, 66, 67]⟩ : ByteArray)] : List ByteArray), (⟨0, 0⟩ : Int × Int)⟩ : Exm), exC (⟨([opT, clT, (⟨#[65, 66, 68]⟩ : ByteArray)] : List ByteArray), (⟨(21 : Int), 0⟩ : Int × Int)⟩ : Exm), exC (⟨([ZeK, Zb6, ZaA] : List ByteArray), (⟨(28 : Int), (3 : Int)⟩ : Int × Int)⟩ : Exm)]) (vs := [a.eval (Go.Operand.tmp 7), a.eval (Go.Operand.tmp 10), a.eval (Go.Operand.tmp 13), a.eval (Go.Operand.tmp 16), a.eval (Go.Operand.tmp 19)]) ZcF (fun w => by kernel_rfl) rfl (by simp) (Za (hl.D 2 7 rfl rfl) (Za (hl.D 5 10 rfl rfl) (Za (hl.D 8 13 rfl rfl) (Za (hl.D 11 16 rfl rfl) (Za (hl.D 14 19 rfl rfl) Zc))))) (of_decide_eq_true rfl) rfl (by decide) (by decide) (by decide) (Zn hS _ hk hx _ (Nat.le_refl _)) (jo hJ hx), YH Zi8, trivial⟩ ?_))
 refine kw (sa 5 rfl (show (.rd (exsC ([(⟨([Zb6, ZeK, ZaA] : List ByteArray), (⟨0, 0⟩ : Int × Int)⟩ : Exm), (⟨([Zb6, ZaA] : List ByteArray), (⟨(23 : Int), (1 : Int)⟩ : Int × Int)⟩ : Exm), (⟨([opT, ZaA, clT, (⟨#[65, 66, 67]⟩ : ByteArray)] : List ByteArray), (⟨0, 0⟩ : Int × Int)⟩ : Exm), (⟨([opT, clT, (⟨#[65, 66, 68]⟩ : ByteArray)] : List ByteArray), (⟨(21 : Int), 0⟩ : Int × Int)⟩ : Exm), (⟨([ZeK, Zb6, ZaA] : List ByteArray), (⟨(28 : Int), (3 : Int)⟩ : Int × Int)⟩ : Exm)])) : AV) = .rd (exsC exsD) from rfl)) ?_
 refine kw (sa 6 rfl (show (.int (([(⟨([Zb6, ZeK, ZaA] : List ByteArray), (⟨0, 0⟩ : Int × Int)⟩ : Exm), (⟨([Zb6, ZaA] : List ByteArray), (⟨(23 : Int), (1 : Int)⟩ : Int × Int)⟩ : Exm), (⟨([opT, ZaA, clT, (⟨#[65, 66, 67]⟩ : ByteArray)] : List ByteArray), (⟨0, 0⟩ : Int × Int)⟩ : Exm), (⟨([opT, clT, (⟨#[65, 66, 68]⟩ : ByteArray)] : List ByteArray), (⟨(21 : Int), 0⟩ : Int × Int)⟩ : Exm), (⟨([ZeK, Zb6, ZaA] : List ByteArray), (⟨(28 : Int), (3 : Int)⟩ : Int × Int)⟩ : Exm)]).length : Nat) : AV) = .int (exsD.length : Nat) from rfl)) ?_
 refine nx (ln 0 fun hl1 => ?_)
 refine ln 1 fun hl2 => ?_
 refine ln 2 fun hl3 => ?_
 refine ln 3 fun hl4 => ?_
 refine ln 4 fun hl5 => ?_
 refine ln 5 fun hl6 => ?_
 refine Zg (lpo (ι := Nat) (fun k => (k ≤ exsD.length)) (fun _ => []) (fun k => [(22, .int (k : Nat))]) (fun k => exsD.length - k) [5,6,7] [_,_] 0 (show (0 ≤ exsD.length) from Nat.zero_le _) ?_)
 rintro k hF
 have f1_1 : k ≤ exsD.length := hF
 refine qso tb hJ [0,1,2,1000] [_] [_,_,_,_] ?_
 refine cjS 3 (fun hb1 => ?_) fun hb1 => ?_
 try simp at hb1
 refine Zf (nx (Zo (Zg (tsq ?_))))
 refine sq (.ptr (exC (ge exsD k))) rfl rfl (lb rfl) (fun _ _ h => Yj (i := (k : Int)) ZcF rfl (h.get 0 rfl) (h.get 2 rfl) (Int.natCast_nonneg _) (Yz (xs := exsD) (k := k) (by first | omega | (simp; omega) | grind [Ze])) rfl h.x) ?_
 refine sq (.agg (exC (ge exsD k))) rfl rfl (lb rfl) (fun _ _ h => Zbr Zpj rfl (h.get 0 rfl) (Nat.le_refl _) h.x) ?_
 refine Qc (cs := exC (ge exsD k)) Zm3 rfl rfl rfl (lb rfl) rfl rfl rfl (by decide) (m := 0) rfl rfl (fun a w h => Zn hS _ h.keep h.x _ (Nat.le_refl _)) (fun a w h w' hk' => Yr hJ _ _ hk' h.x) ?_
 refine seK [0,3,4,5] [_,_,_,_] rfl ?_
 refine nx (tsq ?_)
 refine sq (.ptr (exC (ge exsD k))) rfl rfl (lb rfl) (fun _ _ h => ZW ZjO rfl (h.get 0 rfl) h.x) ?_
 refine snK 1 tb rfl ?_
 refine sq (.agg (dbC (Z5 ((ge exsD k).proof)))) rfl rfl (lb rfl) (fun _ _ h => Zcy (Zm1 hJ (p := ((ge exsD k).proof)) ) Zr5 rfl (Zn hS _ h.keep h.x) (h.x.1) (Za (h.get 0 rfl) Zc) (jo hJ h.x)) ?_
 refine sq (.tup [.agg (vdC ((Zd0 (Z5 ((ge exsD k).proof)) (1 : Int)).1)), .int ((Zd0 (Z5 ((ge exsD k).proof)) (1 : Int)).2)]) rfl rfl (lb rfl) (fun _ _ h => Zcy (Zle hJ (d := (Z5 ((ge exsD k).proof))) (z := (1 : Int)) (by exact sam_hw _) (by exact hG) (by exact sam_pl (by omega))) call_9 rfl (Zn hS _ h.keep h.x) (h.x.1) (Za (h.get 0 rfl) (Za (Rel.of_lit (Go.Value.int Go.IntKind.i64 1)) Zc)) (jo hJ h.x)) ?_
 refine snK 3 tb rfl ?_
 refine Qc (cs := vdC ((Zd0 (Z5 ((ge exsD k).proof)) (1 : Int)).1)) ZeN rfl rfl rfl (lb rfl) rfl rfl rfl (by decide) (m := 1) rfl rfl (fun a w h => Zn hS _ h.keep h.x _ (Nat.le_refl _)) (fun a w h w' hk' => Yr hJ _ _ hk' h.x) ?_
 refine snK 1 tb rfl ?_
 refine seK [0,1,7,9,10,11,12] [_,_,_,_,_,_,_] rfl ?_
 refine nx (ln 2 fun hl7 => ?_)
 refine ZL tb hJ [4,5,6,1007] [_,_,_,_,.ptr [.lit (.int .i64 ((ge exsD k).v.1)), .lit (.int .i64 ((ge exsD k).v.2))],_,.bool (!(decide (((Zd0 (Z5 ((ge exsD k).proof)) (1 : Int)).1).1 = ((ge exsD k).v.1)) && decide (((Zd0 (Z5 ((ge exsD k).proof)) (1 : Int)).1).2 = ((ge exsD k).v.2)))),_] [4,6] [_,_,_,_] rfl ⟨fun _ _ _ hx hl _ => ZW ZjN rfl (hl.env 3 2 _ rfl rfl) hx, fun _ _ _ hx hl hc => r_neqV eqVd rfl (hl.D 3 36 rfl hc) (hl.D 5 38 rfl hc) hx, trivial⟩ ?_
 refine cj 3 (fun hb2 => ?_) fun hb2 => ?_
 try simp at hb2
 exact False.elim (by have h9 := Zqy (k := k) (by omega); simp [h9] at hb2)
 try simp at hb2
 refine Zf (nx (Xa tb hJ [0,1,1001] [.int (k + 1 : Nat),_] [0] [_,_,_] rfl ⟨YI, trivial⟩ ?_))
 exact XG (k + 1) [0,1,2] (show ((k + 1) ≤ exsD.length) from by omega)
 try simp at hb1
 refine ZB (nx (qso tb hJ [1000] [_] [_] ?_))
 exact Zi (X8 (m := 0) rfl rfl rfl)
theorem ZmD : Zq Tryz.prog 13 := Zu Tryz.func13 rfl rfl
theorem Zr1 : Zq Tryz.prog 41 := Zu Tryz.func41 rfl rfl
theorem ZmC : Zq Tryz.prog 15 := Zu Tryz.func15 rfl rfl
theorem Zsa : Zq Tryz.prog 21 := Zu Tryz.func21 rfl rfl
theorem ZmB : Zq Tryz.prog 16 := Zu Tryz.func16 rfl rfl
theorem ZmA : Zq Tryz.prog 17 := Zu Tryz.func17 rfl rfl
theorem Zmz : Zq Tryz.prog 18 := Zu Tryz.func18 rfl rfl
theorem Zsb : Zq Tryz.prog 20 := Zu Tryz.func20 rfl rfl
theorem Zsc : Zq Tryz.prog 19 := Zu Tryz.func19 rfl rfl
theorem Zr9 : Zq Tryz.prog 22 := Zu Tryz.func22 rfl rfl
theorem Zj9 {J : World → Prop} (hJ : Stab J) (s : ByteArray)  : Fn Tryz.prog J 15 [.str s] (.bool (decide ((200 : Int) < (s.size : Int)))) := by
 refine Zx (N := 6) Tryz.func15 rfl rfl (lb rfl) fun S w0 hS hJ0 => ?_
 clear hJ0
 refine qs tb hJ [0] [_] [_] ?_
 refine hqs tb hJ [1003] [_,.int (s.size : Nat),_,_] [1] [_] rfl ⟨Zsp YL, trivial⟩ ?_
 exact Zi (rtn (m := 0) rfl rfl rfl)
theorem Zqc {J : World → Prop} (hJ : Stab J) (l : List ByteArray)  : Fn Tryz.prog J 21 [.rd (Zb l)] (.bool (decide ((l.length : Int) = (0 : Int)) || decide ((2000 : Int) < (l.length : Int)))) := by
 refine Zx (N := 11) Tryz.func21 rfl rfl (lb rfl) fun S w0 hS hJ0 => ?_
 clear hJ0
 refine ln 0 fun hl1 => ?_
 refine qs tb hJ [0] [_] [_] ?_
 refine hqs tb hJ [1008] [_,.int (l.length : Nat),_,_,_,.int (l.length : Nat),_,_,_] [1,5] [_] rfl ⟨YH Zw, YH Zw, trivial⟩ ?_
 exact Zi (rtn (m := 0) rfl rfl (eB (rfl)))
theorem Zf7 {J : World → Prop} (hJ : Stab J) (xs : List (List ByteArray)) (f : FuncId) (caps : List AV) (Os : List OB) (p : (List ByteArray) → Bool) (hf : ∀ q', FnR Tryz.prog J f Os ([.rd (Zb (q'))] ++ caps) (.bool (p q'))) (hk0 : Zq Tryz.prog f) : FnR Tryz.prog J 41 Os [.rd (Qw xs), .fn f caps] (.int (YR p xs)) := by
 refine ZQ (N := 19) Tryz.func41 rfl rfl (lb rfl) fun S w0 hS hJ0 hH => ?_
 clear hJ0
 refine ln 0 fun hl1 => ?_
 refine qs tb hJ [0,1] [_] [_,_] ?_
 refine Zo (hqs tb hJ [0,1,1001,1002] [_,.int (xs.length : Nat),_] [1] [_,_,_,_] rfl ⟨YH Qo, trivial⟩ ?_)
 refine Zg (lp (ι := Nat) (fun k => (k ≤ xs.length) ∧ (∀ j, j < k → p (ge xs j) = false)) (fun k => [(8, .int (k : Nat))]) (fun k => xs.length - k) [0,1,2,3] [_,_,_] 0 ⟨Nat.zero_le _, fun j hj => by omega⟩ ?_)
 rintro k ⟨f1_1, f1_2⟩
 refine qs tb hJ [0,1,2,3,1000] [_] [_,_,_,_,_] ?_
 refine cjS 4 (fun hb1 => ?_) fun hb1 => ?_
 try simp at hb1
 refine Zf (nx (Zo (Zg (qs tb hJ [0,1,2,3,1001] [_,_] [_,_,_,_,_] ?_))))
 refine hqs tb hJ [0,1,2,3,4,1004,1005] [_,_,_,.ptr [Zb (ge xs k)],_,.bool (p (ge xs k))] [3,5] [_,_,_,_,_,_,_] rfl ⟨iIx ZY, fun _ _ hk hx hl _ => Q1 (hf (ge xs k)) hk0 rfl (hl.D 0 11 rfl rfl) (nm hS hk) (hx) (fun _ ho => YK hH hk ho) (Za (hl.D 4 15 rfl rfl) Zc) (js hJ hx), trivial⟩ ?_
 refine ln 5 fun hl2 => ?_
 refine cj 6 (fun hb2 => ?_) fun hb2 => ?_
 try simp at hb2
 refine qs tb hJ [1001] [_,_] [_] ?_
 exact Zi (rtn (m := 0) rfl rfl (eI (by first | exact (YS hb1 hb2 f1_2).symm | exact (Yx fun j hj => f1_2 j (by omega)).symm)))
 try simp at hb2
 refine Zf (nx (hqp tb hJ [0,1,2,1001] [.int (k + 1 : Nat),_] [0] [_,_,_,_] rfl ⟨YI, trivial⟩ ?_))
 exact lpE (k + 1) [0,1,2,3] ⟨by omega, Z4 f1_2 hb2⟩
 try simp at hb1
 refine ZB (nx (qs tb hJ [1000] [_] [_] ?_))
 exact Zi (rtn (m := 0) rfl rfl (eI (by first | exact (YS hb1 hb2 f1_2).symm | exact (Yx fun j hj => f1_2 j (by omega)).symm)))
theorem Zdm {J : World → Prop} (hJ : Stab J) (xs : List (List ByteArray)) (f : FuncId) (caps : List AV) (Os : List OB) (p : (List ByteArray) → Bool) (hf : ∀ q', FnR Tryz.prog J f Os ([.rd (Zb (q'))] ++ caps) (.bool (p q'))) (hk0 : Zq Tryz.prog f) : FnR Tryz.prog J 19 Os [.rd (Qw xs), .fn f caps] (.bool (xs.any p)) := by
 refine ZQ (N := 9) Tryz.func19 rfl rfl (lb rfl) fun S w0 hS hJ0 hH => ?_
 clear hJ0
 refine ln 0 fun hl1 => ?_
 refine qs tb hJ [0,1] [_] [_,_] ?_
 refine hqs tb hJ [1004] [_,_,.int (YR p xs),_,_] [2] [_] rfl ⟨fun _ _ hk hx hl _ => YC (Zf7 hJ (xs := xs) (f := f) (caps := caps) (Os := Os) (p := p) (hf) (hk0)) Zr1 rfl (nm hS hk) (hx) (fun _ ho => YK hH hk ho) (Za (hl.D 0 5 rfl rfl) (Za (hl.D 1 6 rfl rfl) Zc)) (js hJ hx), trivial⟩ ?_
 exact Zi (rtn (m := 0) rfl rfl (eB (by rw [← Za8])))
theorem ZlE {J : World → Prop} (hJ : Stab J) (d : Db) (z : Int) (t : List ByteArray) (hw : ∀ f ∈ d.frames, f.wide.length * 32 ≤ 140737488351232) (hG : XY J) (ha : ¬ YV d z = 0) : Fn Tryz.prog J 5 [.agg (dbC d), .int z, .rd (Zb t)] (.bool true) := by
 refine Zx (N := 82) Tryz.func5 rfl rfl (lb rfl) fun S w0 hS hJ0 => ?_
 refine tw Z7 ?_
 refine ln 2 fun hl1 => ?_
 refine ZL tb hJ [1,2,1000] [.ptr (dbC d),_] [0] [_,_,_] rfl ⟨fun _ _ hk hx hl _ => YQ rfl (hl.env 0 0 _ rfl rfl) (Zn hS _ hk hx _ (Nat.le_refl _)) (jo hJ hx), trivial⟩ ?_
 refine Zo (ZL tb hJ [0,1,2,1011] [_,.bool (Zdb d (20 : Int) (200 : Int)),_,_,_,.int (t.length : Nat),_,_,_,_,.bool (t.any (fun s' => decide ((200 : Int) < (s'.size : Int)))),_] [1,5,10] [_,_,_,_] rfl ⟨iFo hS hJ (Zj8 hJ (d := d) (n := (20 : Int)) (m := (200 : Int)) ) Zp1, YH Zw, fun _ _ hk hx hl hc => YC (Yg hJ (xs := t) (f := 15) (caps := []) (Os := []) (p := (fun s' => decide ((200 : Int) < (s'.size : Int)))) (fun q' => (Zj9 hJ q').rr) (ZmC)) Zau rfl (Zn hS _ hk hx) (hx.1) Zp (Za (hl.D 9 21 rfl hc) (Za (XL 15) Zc)) (jo hJ hx), trivial⟩ ?_)
 refine cj 3 (fun hb1 => ?_) fun hb1 => ?_
 refine ZL tb hJ [1001] [.bool true,_] [0] [_] rfl ⟨iFo hS hJ (ZeL hJ  (by exact hG)) ZiQ, trivial⟩ ?_
 exact Zi (X8 (m := 0) rfl rfl rfl)
 obtain ⟨e1, e1a, e1b⟩ := ZkF hb1
 refine Zf (nx (tsq ?_))
 refine snK 3 tb rfl ?_
 refine sq (.tup [.agg (vdC ((Zce d z t).1)), .int ((Zce d z t).2)]) rfl rfl (lb rfl) (fun _ _ h => Zcy (Zlf hJ (d := d) (z := z) (t := t) (by exact hw) (by exact hG) (by omega) (by exact ZhC e1b (by omega))) ZmD rfl (Zn hS _ h.keep h.x) (h.x.1) (Za (h.get 2 rfl) (Za (h.get 1 rfl) (Za (h.get 0 rfl) Zc))) (jo hJ h.x)) ?_
 refine snK 3 tb rfl ?_
 refine Qc (cs := vdC ((Zce d z t).1)) ZeN rfl rfl rfl (lb rfl) rfl rfl rfl (by decide) (m := 1) rfl rfl (fun a w h => Zn hS _ h.keep h.x _ (Nat.le_refl _)) (fun a w h w' hk' => Yr hJ _ _ hk' h.x) ?_
 refine snK 1 tb rfl ?_
 refine seK [0,1,9,10,11] [_,_,_,_,_] rfl ?_
 refine nx (ZL tb hJ [0,1,1007,1008] [_,_,_,.tup [.rd (.lit (Go.Value.pointer none)), .int (YV d z)],_,_,_,_,_] [3] [_,_,_,_] rfl ⟨iFo hS hJ (p_NewE hJ (d := d) (z := z) (t := t) (by exact hw) (by exact hG) (by exact ha)) ZmB, trivial⟩ ?_)
 refine Zo (qso tb hJ [0,1,2,3,1005] [_,_,_,_,_,_] [_,_,_,_,_] ?_)
 refine cj 4 (fun hb2 => ?_) fun hb2 => ?_
 refine ZL tb hJ [1006] [_,_,_,_,.bool true,_,_] [4] [_] rfl ⟨fun _ _ hk hx _ hc => Zcy (ZeL hJ  (by have hc' : ((decide ((Zce d z t).2 = YV d z)) == true) = true := hc; (try simp at hc'); (exact hG))) ZiQ rfl (Zn hS _ hk hx) (hx.1) Zc (jo hJ hx), trivial⟩ ?_
 exact Zi (X8 (m := 0) rfl rfl (eB (by simp [Zhg])))
 exact False.elim (by rw [Zhg] at hb2; simp [ha] at hb2)
theorem ZlD {J : World → Prop} (hJ : Stab J) (d : Db) (n : Nat) (t : List ByteArray) (hw : ∀ f ∈ d.frames, f.wide.length * 32 ≤ 140737488351232) (hG : XY J) (ha : YV d (n : Int) = 0) : Fn Tryz.prog J 5 [.agg (dbC d), .int (n : Nat), .rd (Zb t)] (.bool true) := by
 refine Zx (N := 82) Tryz.func5 rfl rfl (lb rfl) fun S w0 hS hJ0 => ?_
 refine tw Z7 ?_
 refine ln 2 fun hl1 => ?_
 obtain ⟨hck, hz0, hz1⟩ := Zb3 ha
 have hn : n < d.frames.length := by omega
 have hfr : ∀ g ∈ d.frames, okF g ∧ okT g := fun g hg => ⟨(XU hck g hg).1, (XU hck g hg).2.1⟩
 obtain ⟨h0, h00⟩ := Zpt (n := n) (t := t) (Zcm (ZbS _ (by omega)) (by omega)) (XU hck _ (Ze hn)).2.2
 refine ZL tb hJ [1,2,1000] [.ptr (dbC d),_] [0] [_,_,_] rfl ⟨fun _ _ hk hx hl _ => YQ rfl (hl.env 0 0 _ rfl rfl) (Zn hS _ hk hx _ (Nat.le_refl _)) (jo hJ hx), trivial⟩ ?_
 refine Zo (ZL tb hJ [0,1,2,1011] [_,.bool (Zdb d (20 : Int) (200 : Int)),_,_,_,.int (t.length : Nat),_,_,_,_,.bool (t.any (fun s' => decide ((200 : Int) < (s'.size : Int)))),_] [1,5,10] [_,_,_,_] rfl ⟨iFo hS hJ (Zj8 hJ (d := d) (n := (20 : Int)) (m := (200 : Int)) ) Zp1, YH Zw, fun _ _ hk hx hl hc => YC (Yg hJ (xs := t) (f := 15) (caps := []) (Os := []) (p := (fun s' => decide ((200 : Int) < (s'.size : Int)))) (fun q' => (Zj9 hJ q').rr) (ZmC)) Zau rfl (Zn hS _ hk hx) (hx.1) Zp (Za (hl.D 9 21 rfl hc) (Za (XL 15) Zc)) (jo hJ hx), trivial⟩ ?_)
 refine cj 3 (fun hb1 => ?_) fun hb1 => ?_
 refine ZL tb hJ [1001] [.bool true,_] [0] [_] rfl ⟨iFo hS hJ (ZeL hJ  (by exact hG)) ZiQ, trivial⟩ ?_
 exact Zi (X8 (m := 0) rfl rfl rfl)
 obtain ⟨e1, e1a, e1b⟩ := ZkF hb1
 refine Zf (nx (tsq ?_))
 refine snK 3 tb rfl ?_
 refine sq (.tup [.agg (vdC ((Zce d (n : Int) t).1)), .int ((Zce d (n : Int) t).2)]) rfl rfl (lb rfl) (fun _ _ h => Zcy (Zlf hJ (d := d) (z := (n : Int)) (t := t) (by exact hw) (by exact hG) (by omega) (by exact ZhC e1b (by omega))) ZmD rfl (Zn hS _ h.keep h.x) (h.x.1) (Za (h.get 2 rfl) (Za (h.get 1 rfl) (Za (h.get 0 rfl) Zc))) (jo hJ h.x)) ?_
 refine snK 3 tb rfl ?_
 refine Qc (cs := vdC ((Zce d (n : Int) t).1)) ZeN rfl rfl rfl (lb rfl) rfl rfl rfl (by decide) (m := 1) rfl rfl (fun a w h => Zn hS _ h.keep h.x _ (Nat.le_refl _)) (fun a w h w' hk' => Yr hJ _ _ hk' h.x) ?_
 refine snK 1 tb rfl ?_
 refine seK [0,1,9,10,11] [_,_,_,_,_] rfl ?_
 refine nx (tsq ?_)
 refine snK 3 tb rfl ?_
 refine Xd (O := []) (R := []) (p_New hJ (d := d) (n := n) (t := t) (by exact hw) (by exact hG) (by exact ha) (by exact Znf e1) (by omega) (by exact ZhC e1b (by omega))) ZmB rfl rfl rfl (lb rfl) hS hJ0 Zp (fun a w h => (Za (h.get 2 rfl) (Za (h.get 1 rfl) (Za (h.get 0 rfl) Zc)))) fun z1 => ?_
 refine snK 5 tb rfl ?_
 refine seK [0,1,9,10] [_,_,_,_] rfl ?_
 refine nx (Zo (qso tb hJ [0,1,2,3,1005] [_,_,_,_,_,_] [_,_,_,_,_] ?_))
 refine cj 4 (fun hb2 => ?_) fun hb2 => ?_
 exact False.elim (by rw [Zhg, ha] at hb2; simp at hb2)
 refine Zf (nx (Zo (qpo tb hJ [1,3,1000] [_] [_,_,_] ?_)))
 refine kw (sa 2 rfl (show (.int (0 : Int) : AV) = .int ((Qh d n t).n : Nat) from by rw [show (Qh d n t).n = 0 from Zg5]; rfl)) ?_
 refine nx (Zo (Zg (lpo (ι := Ms × Value × Value) (fun (m9, _, _) => (InvM (Yf d n t) m9) ∧ ((Zib d.frames d.vars (ge d.frames n) (Yf d n t) ((Yf d n t).length + 1 - (Qh d n t).n) (Qh d n t)).v = (Zib d.frames d.vars (ge d.frames n) (Yf d n t) ((Yf d n t).length + 1 - m9.n) m9).v)) (fun (m9, vs, vt) => [OB.var z1.1 (mkC d (ge d.frames n) [.lit z1.2.1, Xo (Yf d n t), .lit vs, .lit vt, .lit (.int .i64 (m9.n : Int)), .lit (.bool m9.kn), .lit (.int .i64 m9.v.1), .lit (.int .i64 m9.v.2)]), OB.row vs 22 1 (m9.sk.map Zh), OB.row vt 22 1 (m9.tg.map Zh)]) (fun (m9, _, _) => [(11, .int (m9.n : Nat))]) (fun (m9, _, _) => (Yf d n t).length - m9.n) [0,1,2] [_,_] ((Qh d n t), z1.2.2.1, z1.2.2.2) ⟨h00, rfl⟩ ?_)))
 rintro ⟨m9, vs, vt⟩ ⟨f1_1, f1_2⟩
 refine Zo (tsq ?_)
 refine snK 1 tb rfl ?_
 refine Xd (O := [OB.var z1.1 (mkC d (ge d.frames n) [.lit z1.2.1, Xo (Yf d n t), .lit vs, .lit vt, .lit (.int .i64 (m9.n : Int)), .lit (.bool m9.kn), .lit (.int .i64 m9.v.1), .lit (.int .i64 m9.v.2)]), OB.row vs 22 1 (m9.sk.map Zh), OB.row vt 22 1 (m9.tg.map Zh)]) (R := []) (p_Step hJ (b := z1.1) (d := d) (f := (ge d.frames n)) (nm := z1.2.1) (xs := (Yf d n t)) (vs := vs) (vt := vt) (n := m9.n) (kn := m9.kn) (y1 := m9.v.1) (y2 := m9.v.2) (sk := m9.sk) (tg := m9.tg) (by exact inv_i h0 f1_1) (by exact f1_1.sk) (by exact (Zgq h0 f1_1).1) (by exact (Zgq h0 f1_1).2.1) (by exact (Zgq h0 f1_1).2.2) (by exact fun g hg => (hfr g hg).1) (by exact hw _ (Ze hn))) ZmA rfl rfl rfl (lb rfl) hS hJ0 Zp (fun a w h => (Za (h.get 0 rfl) Zc)) fun z2 => ?_
 refine seK [0,2,3,4] [_,_,_,_] rfl ?_
 refine nx (cj 0 (fun hb3 => ?_) fun hb3 => ?_)
 try simp at hb3
 have e5 := (Zgq h0 f1_1).2.2
 have e6 := Zh9 (fs := d.frames) (vars := d.vars) (f := ge d.frames n) f1_1 (by rw [← ZbF]; exact hb3)
 have e9 := Zh4 (fs := d.frames) (vars := d.vars) (f := ge d.frames n) (fun g hg => (hfr g hg).2) h0 f1_1
 refine Zf (nx (Zg (ZL tb hJ [1,2,1002] [_,.int (m9.n + 1 : Nat),_] [1] [_,_,_] rfl ⟨YI, trivial⟩ ?_)))
 refine ZL tb hJ [0,1,2,1008] [_,.int (((Zy d.frames d.vars (ge d.frames n) (Yf d n t) ⟨m9.sk, m9.tg, m9.n, m9.kn, (m9.v.1, m9.v.2), false⟩).n) : Nat),_,_,_,_,.rd (Qw ((Zy d.frames d.vars (ge d.frames n) (Yf d n t) ⟨m9.sk, m9.tg, m9.n, m9.kn, (m9.v.1, m9.v.2), false⟩).sk)),.bool (((Zy d.frames d.vars (ge d.frames n) (Yf d n t) ⟨m9.sk, m9.tg, m9.n, m9.kn, (m9.v.1, m9.v.2), false⟩).sk).any (fun l' => decide ((l'.length : Int) = (0 : Int)) || decide ((2000 : Int) < (l'.length : Int)))),_] [1,6,7] [_,_,_,_] rfl ⟨fun _ _ hk hx hl _ => YC (p_At hJ (b := z1.1) (d := d) (f := (ge d.frames n)) (nm := z1.2.1) (xs := (Yf d n t)) (vs := z2.1) (vt := z2.2) (n := ((Zy d.frames d.vars (ge d.frames n) (Yf d n t) ⟨m9.sk, m9.tg, m9.n, m9.kn, (m9.v.1, m9.v.2), false⟩).n)) (kn := ((Zy d.frames d.vars (ge d.frames n) (Yf d n t) ⟨m9.sk, m9.tg, m9.n, m9.kn, (m9.v.1, m9.v.2), false⟩).kn)) (y1 := ((Zy d.frames d.vars (ge d.frames n) (Yf d n t) ⟨m9.sk, m9.tg, m9.n, m9.kn, (m9.v.1, m9.v.2), false⟩).v.1)) (y2 := ((Zy d.frames d.vars (ge d.frames n) (Yf d n t) ⟨m9.sk, m9.tg, m9.n, m9.kn, (m9.v.1, m9.v.2), false⟩).v.2)) ) Zmz rfl (Zn hS _ hk hx) (hx.1) (ZE (Zd hx (mo 0 rfl)) Zp) (Za (hl.D 0 55 rfl rfl) Zc) (jo hJ hx), fun _ _ hk hx hl hc => YC (Zq3 hJ (b := z1.1) (d := d) (f := (ge d.frames n)) (nm := z1.2.1) (xs := (Yf d n t)) (vs := z2.1) (vt := z2.2) (n := ((Zy d.frames d.vars (ge d.frames n) (Yf d n t) ⟨m9.sk, m9.tg, m9.n, m9.kn, (m9.v.1, m9.v.2), false⟩).n)) (kn := ((Zy d.frames d.vars (ge d.frames n) (Yf d n t) ⟨m9.sk, m9.tg, m9.n, m9.kn, (m9.v.1, m9.v.2), false⟩).kn)) (y1 := ((Zy d.frames d.vars (ge d.frames n) (Yf d n t) ⟨m9.sk, m9.tg, m9.n, m9.kn, (m9.v.1, m9.v.2), false⟩).v.1)) (y2 := ((Zy d.frames d.vars (ge d.frames n) (Yf d n t) ⟨m9.sk, m9.tg, m9.n, m9.kn, (m9.v.1, m9.v.2), false⟩).v.2)) (sk := ((Zy d.frames d.vars (ge d.frames n) (Yf d n t) ⟨m9.sk, m9.tg, m9.n, m9.kn, (m9.v.1, m9.v.2), false⟩).sk)) (by have hc' : ((!decide (((((Zy d.frames d.vars (ge d.frames n) (Yf d n t) ⟨m9.sk, m9.tg, m9.n, m9.kn, (m9.v.1, m9.v.2), false⟩).n) : Nat) : Int) = ((m9.n + 1 : Nat) : Int))) == false) = true := hc; (try simp at hc'); (exact e9.sk)) (by have hc' : ((!decide (((((Zy d.frames d.vars (ge d.frames n) (Yf d n t) ⟨m9.sk, m9.tg, m9.n, m9.kn, (m9.v.1, m9.v.2), false⟩).n) : Nat) : Int) = ((m9.n + 1 : Nat) : Int))) == false) = true := hc; (try simp at hc'); (exact (Zgq h0 e9).1))) Zsb rfl (Zn hS _ hk hx) (hx.1) (ZE (Zd hx (mo 0 rfl)) (ZE (Zd hx (mo 1 rfl)) Zp)) (Za (hl.D 5 60 rfl hc) Zc) (jo hJ hx), fun _ _ hk hx hl hc => YC (Zdm hJ (xs := ((Zy d.frames d.vars (ge d.frames n) (Yf d n t) ⟨m9.sk, m9.tg, m9.n, m9.kn, (m9.v.1, m9.v.2), false⟩).sk)) (f := 21) (caps := []) (Os := []) (p := (fun l' => decide ((l'.length : Int) = (0 : Int)) || decide ((2000 : Int) < (l'.length : Int)))) (fun q' => (Zqc hJ q').rr) (Zsa)) Zsc rfl (Zn hS _ hk hx) (hx.1) Zp (Za (hl.D 6 61 rfl hc) (Za (XL 21) Zc)) (jo hJ hx), trivial⟩ ?_
 refine cj 3 (fun hb4 => ?_) fun hb4 => ?_
 exact False.elim (by exact Zqz e6.2.1 e9.sk hb4)
 refine tw (sa 2 rfl (show (.int (m9.n + 1 : Nat) : AV) = .int ((Zy d.frames d.vars (ge d.frames n) (Yf d n t) m9).n : Nat) from congrArg AV.int (by rw [e6.2.1]))) ?_
 exact Zf (XG ((Zy d.frames d.vars (ge d.frames n) (Yf d n t) m9), z2.1, z2.2) [0,1,2] ⟨e9, f1_2.trans e6.1⟩ (hm := (show (Yf d n t).length - (Zy d.frames d.vars (ge d.frames n) (Yf d n t) m9).n < (Yf d n t).length - m9.n from by rw [e6.2.1]; omega)))
 try simp at hb3
 have e8 := Zkq (fs := d.frames) (vars := d.vars) (f := ge d.frames n) f1_1 (by rw [← ZbF]; exact hb3)
 have e7 := f1_2.trans (Zia (fs := d.frames) (vars := d.vars) (f := ge d.frames n) f1_1 (by rw [← ZbF]; exact hb3))
 refine ZB (nx (ZL tb hJ [1018] [_,.agg (vdC (if ((Zy d.frames d.vars (ge d.frames n) (Yf d n t) ⟨m9.sk, m9.tg, m9.n, m9.kn, (m9.v.1, m9.v.2), false⟩).kn) = true then ((((Zy d.frames d.vars (ge d.frames n) (Yf d n t) ⟨m9.sk, m9.tg, m9.n, m9.kn, (m9.v.1, m9.v.2), false⟩).v.1), ((Zy d.frames d.vars (ge d.frames n) (Yf d n t) ⟨m9.sk, m9.tg, m9.n, m9.kn, (m9.v.1, m9.v.2), false⟩).v.2)) : Int × Int) else (16, (((Zy d.frames d.vars (ge d.frames n) (Yf d n t) ⟨m9.sk, m9.tg, m9.n, m9.kn, (m9.v.1, m9.v.2), false⟩).n) : Int)))),_,.bool (decide ((if ((Zy d.frames d.vars (ge d.frames n) (Yf d n t) ⟨m9.sk, m9.tg, m9.n, m9.kn, (m9.v.1, m9.v.2), false⟩).kn) = true then ((((Zy d.frames d.vars (ge d.frames n) (Yf d n t) ⟨m9.sk, m9.tg, m9.n, m9.kn, (m9.v.1, m9.v.2), false⟩).v.1), ((Zy d.frames d.vars (ge d.frames n) (Yf d n t) ⟨m9.sk, m9.tg, m9.n, m9.kn, (m9.v.1, m9.v.2), false⟩).v.2)) : Int × Int) else (16, (((Zy d.frames d.vars (ge d.frames n) (Yf d n t) ⟨m9.sk, m9.tg, m9.n, m9.kn, (m9.v.1, m9.v.2), false⟩).n) : Int))).1 = ((Zce d (n : Int) t).1).1) && decide ((if ((Zy d.frames d.vars (ge d.frames n) (Yf d n t) ⟨m9.sk, m9.tg, m9.n, m9.kn, (m9.v.1, m9.v.2), false⟩).kn) = true then ((((Zy d.frames d.vars (ge d.frames n) (Yf d n t) ⟨m9.sk, m9.tg, m9.n, m9.kn, (m9.v.1, m9.v.2), false⟩).v.1), ((Zy d.frames d.vars (ge d.frames n) (Yf d n t) ⟨m9.sk, m9.tg, m9.n, m9.kn, (m9.v.1, m9.v.2), false⟩).v.2)) : Int × Int) else (16, (((Zy d.frames d.vars (ge d.frames n) (Yf d n t) ⟨m9.sk, m9.tg, m9.n, m9.kn, (m9.v.1, m9.v.2), false⟩).n) : Int))).2 = ((Zce d (n : Int) t).1).2)),_,_,.bool false,_,_,_,_,.int (((Zy d.frames d.vars (ge d.frames n) (Yf d n t) ⟨m9.sk, m9.tg, m9.n, m9.kn, (m9.v.1, m9.v.2), false⟩).n) : Nat),_,_,_,_,.bool true,_,_] [1,3,6,11,16] [_] rfl ⟨fun _ _ hk hx hl _ => YC (Zld hJ (b := z1.1) (d := d) (f := (ge d.frames n)) (nm := z1.2.1) (xs := (Yf d n t)) (vs := z2.1) (vt := z2.2) (n := ((Zy d.frames d.vars (ge d.frames n) (Yf d n t) ⟨m9.sk, m9.tg, m9.n, m9.kn, (m9.v.1, m9.v.2), false⟩).n)) (kn := ((Zy d.frames d.vars (ge d.frames n) (Yf d n t) ⟨m9.sk, m9.tg, m9.n, m9.kn, (m9.v.1, m9.v.2), false⟩).kn)) (y1 := ((Zy d.frames d.vars (ge d.frames n) (Yf d n t) ⟨m9.sk, m9.tg, m9.n, m9.kn, (m9.v.1, m9.v.2), false⟩).v.1)) (y2 := ((Zy d.frames d.vars (ge d.frames n) (Yf d n t) ⟨m9.sk, m9.tg, m9.n, m9.kn, (m9.v.1, m9.v.2), false⟩).v.2)) ) Zr9 rfl (Zn hS _ hk hx) (hx.1) (ZE (Zd hx (mo 0 rfl)) Zp) (Za (hl.D 0 64 rfl rfl) Zc) (jo hJ hx), fun _ _ _ hx hl _ => r_eqlV eqVd rfl (hl.D 1 65 rfl rfl) (hl.D 2 66 rfl rfl) hx, fun _ _ hk hx hl hc => YC (Zq2 hJ (b := z1.1) (d := d) (f := (ge d.frames n)) (nm := z1.2.1) (xs := (Yf d n t)) (vs := z2.1) (vt := z2.2) (n := ((Zy d.frames d.vars (ge d.frames n) (Yf d n t) ⟨m9.sk, m9.tg, m9.n, m9.kn, (m9.v.1, m9.v.2), false⟩).n)) (kn := ((Zy d.frames d.vars (ge d.frames n) (Yf d n t) ⟨m9.sk, m9.tg, m9.n, m9.kn, (m9.v.1, m9.v.2), false⟩).kn)) (y1 := ((Zy d.frames d.vars (ge d.frames n) (Yf d n t) ⟨m9.sk, m9.tg, m9.n, m9.kn, (m9.v.1, m9.v.2), false⟩).v.1)) (y2 := ((Zy d.frames d.vars (ge d.frames n) (Yf d n t) ⟨m9.sk, m9.tg, m9.n, m9.kn, (m9.v.1, m9.v.2), false⟩).v.2)) (by have hc' : ((decide ((if ((Zy d.frames d.vars (ge d.frames n) (Yf d n t) ⟨m9.sk, m9.tg, m9.n, m9.kn, (m9.v.1, m9.v.2), false⟩).kn) = true then ((((Zy d.frames d.vars (ge d.frames n) (Yf d n t) ⟨m9.sk, m9.tg, m9.n, m9.kn, (m9.v.1, m9.v.2), false⟩).v.1), ((Zy d.frames d.vars (ge d.frames n) (Yf d n t) ⟨m9.sk, m9.tg, m9.n, m9.kn, (m9.v.1, m9.v.2), false⟩).v.2)) : Int × Int) else (16, (((Zy d.frames d.vars (ge d.frames n) (Yf d n t) ⟨m9.sk, m9.tg, m9.n, m9.kn, (m9.v.1, m9.v.2), false⟩).n) : Int))).1 = ((Zce d (n : Int) t).1).1) && decide ((if ((Zy d.frames d.vars (ge d.frames n) (Yf d n t) ⟨m9.sk, m9.tg, m9.n, m9.kn, (m9.v.1, m9.v.2), false⟩).kn) = true then ((((Zy d.frames d.vars (ge d.frames n) (Yf d n t) ⟨m9.sk, m9.tg, m9.n, m9.kn, (m9.v.1, m9.v.2), false⟩).v.1), ((Zy d.frames d.vars (ge d.frames n) (Yf d n t) ⟨m9.sk, m9.tg, m9.n, m9.kn, (m9.v.1, m9.v.2), false⟩).v.2)) : Int × Int) else (16, (((Zy d.frames d.vars (ge d.frames n) (Yf d n t) ⟨m9.sk, m9.tg, m9.n, m9.kn, (m9.v.1, m9.v.2), false⟩).n) : Int))).2 = ((Zce d (n : Int) t).1).2)) == true) = true := hc; (try simp at hc'); (exact e8.1))) ZmA rfl (Zn hS _ hk hx) (hx.1) (ZE (Zd hx (mo 0 rfl)) Zp) (Za (hl.D 5 69 rfl hc) Zc) (jo hJ hx), fun _ _ hk hx hl hc => YC (p_At hJ (b := z1.1) (d := d) (f := (ge d.frames n)) (nm := z1.2.1) (xs := (Yf d n t)) (vs := z2.1) (vt := z2.2) (n := ((Zy d.frames d.vars (ge d.frames n) (Yf d n t) ⟨m9.sk, m9.tg, m9.n, m9.kn, (m9.v.1, m9.v.2), false⟩).n)) (kn := ((Zy d.frames d.vars (ge d.frames n) (Yf d n t) ⟨m9.sk, m9.tg, m9.n, m9.kn, (m9.v.1, m9.v.2), false⟩).kn)) (y1 := ((Zy d.frames d.vars (ge d.frames n) (Yf d n t) ⟨m9.sk, m9.tg, m9.n, m9.kn, (m9.v.1, m9.v.2), false⟩).v.1)) (y2 := ((Zy d.frames d.vars (ge d.frames n) (Yf d n t) ⟨m9.sk, m9.tg, m9.n, m9.kn, (m9.v.1, m9.v.2), false⟩).v.2)) ) Zmz rfl (Zn hS _ hk hx) (hx.1) (ZE (Zd hx (mo 0 rfl)) Zp) (Za (hl.D 10 74 rfl hc) Zc) (jo hJ hx), fun _ _ hk hx _ hc => Zcy (ZeL hJ  (by have hc' : ((((decide ((if ((Zy d.frames d.vars (ge d.frames n) (Yf d n t) ⟨m9.sk, m9.tg, m9.n, m9.kn, (m9.v.1, m9.v.2), false⟩).kn) = true then ((((Zy d.frames d.vars (ge d.frames n) (Yf d n t) ⟨m9.sk, m9.tg, m9.n, m9.kn, (m9.v.1, m9.v.2), false⟩).v.1), ((Zy d.frames d.vars (ge d.frames n) (Yf d n t) ⟨m9.sk, m9.tg, m9.n, m9.kn, (m9.v.1, m9.v.2), false⟩).v.2)) : Int × Int) else (16, (((Zy d.frames d.vars (ge d.frames n) (Yf d n t) ⟨m9.sk, m9.tg, m9.n, m9.kn, (m9.v.1, m9.v.2), false⟩).n) : Int))).1 = ((Zce d (n : Int) t).1).1) && decide ((if ((Zy d.frames d.vars (ge d.frames n) (Yf d n t) ⟨m9.sk, m9.tg, m9.n, m9.kn, (m9.v.1, m9.v.2), false⟩).kn) = true then ((((Zy d.frames d.vars (ge d.frames n) (Yf d n t) ⟨m9.sk, m9.tg, m9.n, m9.kn, (m9.v.1, m9.v.2), false⟩).v.1), ((Zy d.frames d.vars (ge d.frames n) (Yf d n t) ⟨m9.sk, m9.tg, m9.n, m9.kn, (m9.v.1, m9.v.2), false⟩).v.2)) : Int × Int) else (16, (((Zy d.frames d.vars (ge d.frames n) (Yf d n t) ⟨m9.sk, m9.tg, m9.n, m9.kn, (m9.v.1, m9.v.2), false⟩).n) : Int))).2 = ((Zce d (n : Int) t).1).2)) && (!false)) && (decide (((((Zy d.frames d.vars (ge d.frames n) (Yf d n t) ⟨m9.sk, m9.tg, m9.n, m9.kn, (m9.v.1, m9.v.2), false⟩).n) : Nat) : Int) = (m9.n : Int)))) == true) = true := hc; (try simp at hc'); (exact hG))) ZiQ rfl (Zn hS _ hk hx) (hx.1) Zc (jo hJ hx), trivial⟩ ?_))
 exact Zi (X8 (m := 0) rfl rfl (eB (by first | rfl | exact Zng e8.1 ((ZqJ ha).trans e7) e8.2)))
theorem Zn1 {J : World → Prop} (hJ : Stab J) (d : Db) (z : Int) (t : List ByteArray) (hw : ∀ f ∈ d.frames, f.wide.length * 32 ≤ 140737488351232) (hG : XY J) : Fn Tryz.prog J 5 [.agg (dbC d), .int z, .rd (Zb t)] (.bool true) := by
 by_cases ha : YV d z = 0
 · obtain ⟨_, h0, _⟩ := Zb3 ha
   obtain ⟨n, rfl⟩ := Int.eq_ofNat_of_zero_le h0
   exact ZlD hJ d n t hw hG ha
 · exact ZlE hJ d z t hw hG ha
end Go.Proofs.YtgifeodnngodiaaGreatDoor
