/-
  CONTRACTS of the program: verdicts of theorems, of other proofs.
  THE ENGINE: rows of structs from given parts; a struct of a row and a verdict; verdicts compared.
  THE LAW's SAMPLE of verdicts, and its bounds (plain).
  CONTRACTS of the law of verdicts: its bounds, its sample, awake.
  A VERDICT DEPENDS ONLY ON WHAT STANDS AHEAD (plain).
  THE ENGINE: whole numbers of 16 bits; an append to an own row that is data at once.
-/
import Derived.Test.YtgifeodnngodiaaGreatDoorPAC
set_option maxHeartbeats 8000000
set_option maxRecDepth 100000
namespace Go.Proofs.YtgifeodnngodiaaGreatDoor
open Go.RowKit
theorem ZaU : ZdZ Tryz.prog 30 [.int .i64 0, .int .i64 0] := ⟨fun i => (#[(0, 1), (1, 1)] : Array (Nat × Nat))[i]?, fun j hj => by rcases j with _ | _ | j <;> first | rfl | (simp at hj; omega), fun parts => by kernel_rfl⟩
theorem Zli {J : World → Prop} (hJ : Stab J) (d : Db) (n : Nat) (hn : n < d.frames.length) (hck : ZcD d = 0) (hw : ∀ f ∈ d.frames, f.wide.length * 32 ≤ 140737488351232) (hpl : ∀ g ∈ d.frames, g.proof.length ≤ 100000 ∧ ZbG g.proof ≤ 1000000000) : Fn Tryz.prog J 35 [.agg (dbC d), .int (n : Nat)] (.agg (vdC (ZfC d n))) := by
 refine Zx (N := 22) Tryz.func35 rfl rfl (lb rfl) fun S w0 hS hJ0 => ?_
 refine tw Yr ?_
 refine tsq ?_
 refine sq (.ptr (dbC d)) rfl rfl (lb rfl) (fun _ _ h => Y1 rfl (h.get 0 rfl) (Zr hS _ h.keep h.x _ (Nat.le_refl _)) (jo hJ h.x)) ?_
 refine ZW Zb5 hJ rfl rfl rfl (lb rfl) fun b1 => ?_
 refine seK [0,1,3] [_,_,_] rfl ?_
 refine nx (Zo (ZN tb hJ [0,1,2,1001,1006] [_,_,_,.ptr (frC (ge d.frames n)),_,_,_] [3] [_,_,_,_,_] rfl ⟨iIx Yh, trivial⟩ ?_))
 refine ln 3 fun hl1 => ?_
 refine cj 4 (fun hb1 => ?_) fun hb1 => ?_
 ·
  try simp at hb1
  refine tsq ?_
  refine sq (.agg (vdC (⟨0, 0⟩ : Int × Int))) rfl rfl (lb rfl) (fun _ _ h => YD (ps := []) (us := [.int .i64 0, .int .i64 0]) ZaU rfl (by simp) ZfG rfl (YL (.lit _ True.intro) (YL (.lit _ True.intro) ZK)) h.x) ?_
  refine ZE (b := b1) (off := 0) (cs := [.lit (.int .i64 0), .lit (.int .i64 0)]) (es := [.lit (.int .i64 ((⟨0, 0⟩ : Int × Int).1)), .lit (.int .i64 ((⟨0, 0⟩ : Int × Int).2))]) (news := [.lit (.int .i64 ((⟨0, 0⟩ : Int × Int).1)), .lit (.int .i64 ((⟨0, 0⟩ : Int × Int).2))]) hJ hJ0 QU rfl rfl rfl (lb rfl) rfl (fun a w h => ⟨(h.get 1 rfl), (h.get 0 rfl)⟩) ?_
  refine seK [1] [_] rfl ?_
  exact nx (Zi (fun a w h => Zam (cs := [.lit (.int .i64 ((⟨0, 0⟩ : Int × Int).1)), .lit (.int .i64 ((⟨0, 0⟩ : Int × Int).2))]) (m := 0) rfl Zbb h rfl rfl (show ([.lit (.int .i64 ((⟨0, 0⟩ : Int × Int).1)), .lit (.int .i64 ((⟨0, 0⟩ : Int × Int).2))] : List CD) = [.lit (.int .i64 ((ZfC d n).1)), .lit (.int .i64 ((ZfC d n).2))] from by simp [ZfC, hb1])))
 ·
  try simp at hb1
  refine Zf (nx (Zo (fun a w h => YO (γ := Unit) (fun ix' => ([.agg (dbC d), .int (n : Nat), .ptr [Zan d.frames], .rd (Zan d.frames), .int (n : Nat), .ptr (frC (ge d.frames n)), .ptr [Zb ((ge d.frames n).proof)], .rd (Zb ((ge d.frames n).proof)), .agg (vdC (ZcX d.frames d.vars (ge d.frames n) (ZaK (d.frames.take n)) ((ge d.frames n).proof))), .any] : List AV).getD ix' .any) (fun ix' => ([true, true, true, true, true, true, true, true, true, true] : List Bool).getD ix' true) [(4, fun (g : Unit) => .at b1 0)] (fun (j' : Nat) (g : Unit) => match j' with | 0 => [OB.var b1 [.lit (.int .i64 0), .lit (.int .i64 0)]] | _ => [OB.var b1 [.lit (.int .i64 ((ZcX d.frames d.vars (ge d.frames n) (ZaK (d.frames.take n)) ((ge d.frames n).proof)).1)), .lit (.int .i64 ((ZcX d.frames d.vars (ge d.frames n) (ZaK (d.frames.take n)) ((ge d.frames n).proof)).2))]]) (fun (k' : Nat) (g : Unit) => match k' with | 0 => undef | _ => undef) [9] 0 () (fun _ => rfl) h hJ Ye rfl rfl rfl rfl rfl rfl (fun j' g hj p hp => by rcases j' with _ | _ | _ | j' <;> first | exact hp | exact List.mem_cons_of_mem _ hp | exact List.mem_cons_of_mem _ (List.mem_cons_of_mem _ hp) | (exfalso; omega)) ⟨?o3_1_0, ⟨?o3_1_1, ⟨?o3_1_2, ⟨?o3_1_3, ⟨?o3_1_4, ⟨?o3_1_5, ⟨?o3_1_6, ⟨?o3_1_7, ⟨?o3_1_8, ⟨?o3_1_9, trivial⟩⟩⟩⟩⟩⟩⟩⟩⟩⟩ ⟨?e3_1_0, trivial⟩ ⟨.old 0 4 _ rfl rfl, trivial⟩ ?n3_1)))
  exact oX rfl fun hx hl => Zbn ZcS rfl (hl.env 1 2 _ rfl rfl) (Nat.le_refl _) hx
  exact oX rfl fun hx hl => Ys rfl (hl.env 2 1 _ rfl rfl) hx
  exact oX rfl fun hx hl => ZU Qq rfl (hl.env 1 2 _ rfl rfl) hx
  exact oX rfl fun hx hl => Zy Zgk rfl (hl.D 2 15 rfl rfl) hx
  exact oX rfl fun hx hl => Ys rfl (hl.env 2 1 _ rfl rfl) hx
  exact oX rfl fun hx hl => Yc (i := (n : Int)) Yh rfl (hl.D 3 16 rfl rfl) (hl.D 4 17 rfl rfl) (Int.natCast_nonneg _) (Yo (xs := d.frames) (k := n) (by first | omega | (simp; omega) | grind [Zc])) rfl hx
  exact oX rfl fun hx hl => ZU ZjU rfl (hl.D 5 18 rfl rfl) hx
  exact oX rfl fun hx hl => Zy X1 rfl (hl.D 6 19 rfl rfl) hx
  exact oY rfl fun hk hx hl => Ze1 (Zlh hJ (d := d) (n := n) (t := ((ge d.frames n).proof)) (by first | omega | (simp; omega) | grind [Zc]) (by exact Zr0 hck) (by exact fun g hg => ⟨(ZcP hck g hg).1, (ZcP hck g hg).2.1⟩) (by exact Zey (Zdl _ (by omega)) (by omega)) (by exact (ZcP hck _ (Zc (by omega))).2.2) (by exact hw) (by exact (hpl _ (Zc hn)).1) (by exact (hpl _ (Zc hn)).2)) Zsk rfl (Zr hS _ hk hx) (hx.1) (Za (hl.D 0 13 rfl rfl) (Za (hl.D 1 14 rfl rfl) (Za (hl.D 7 20 rfl rfl) Ze))) (jo hJ hx)
  exact Zl rfl
  case e3_1_0 => exact ⟨_, rfl, rfl, rfl, rfl, fun g _ w hk hx hl _ => (by obtain ⟨us2, hv2, hr3⟩ := Zaf (cs := [.lit (.int .i64 ((ZcX d.frames d.vars (ge d.frames n) (ZaK (d.frames.take n)) ((ge d.frames n).proof)).1)), .lit (.int .i64 ((ZcX d.frames d.vars (ge d.frames n) (ZaK (d.frames.take n)) ((ge d.frames n).proof)).2))]) (hl.D 8 21 rfl rfl); exact Zs (Xm (off := 0) (cs := [.lit (.int .i64 0), .lit (.int .i64 0)]) (news := [.lit (.int .i64 ((ZcX d.frames d.vars (ge d.frames n) (ZaK (d.frames.take n)) ((ge d.frames n).proof)).1)), .lit (.int .i64 ((ZcX d.frames d.vars (ge d.frames n) (ZaK (d.frames.take n)) ((ge d.frames n).proof)).2))]) (es := [.lit (.int .i64 ((ZcX d.frames d.vars (ge d.frames n) (ZaK (d.frames.take n)) ((ge d.frames n).proof)).1)), .lit (.int .i64 ((ZcX d.frames d.vars (ge d.frames n) (ZaK (d.frames.take n)) ((ge d.frames n).proof)).2))]) (us := us2) hJ hJ0 QU rfl hk hx (hl.env 0 4 _ rfl rfl) (by rw [hv2]; rfl) hr3 (lb rfl) rfl) fun v w' hp => ⟨g, rfl, fun _ _ => rfl, fun e => (by cases e), hp⟩)⟩
  clear a w h
  intro _
  dsimp only [List.map]
  exact nx (Zi (fun a w h => Zam (cs := [.lit (.int .i64 ((ZcX d.frames d.vars (ge d.frames n) (ZaK (d.frames.take n)) ((ge d.frames n).proof)).1)), .lit (.int .i64 ((ZcX d.frames d.vars (ge d.frames n) (ZaK (d.frames.take n)) ((ge d.frames n).proof)).2))]) (m := 0) rfl Zbb h rfl rfl (show ([.lit (.int .i64 ((ZcX d.frames d.vars (ge d.frames n) (ZaK (d.frames.take n)) ((ge d.frames n).proof)).1)), .lit (.int .i64 ((ZcX d.frames d.vars (ge d.frames n) (ZaK (d.frames.take n)) ((ge d.frames n).proof)).2))] : List CD) = [.lit (.int .i64 ((ZfC d n).1)), .lit (.int .i64 ((ZfC d n).2))] from by simp [ZfC, hb1])))
theorem Zdd {J : World → Prop} (hJ : Stab J) (d : Db) (z : Int) (hw : ∀ f ∈ d.frames, f.wide.length * 32 ≤ 140737488351232) (hG : Q8 J) (hpl : ∀ g ∈ d.frames, g.proof.length ≤ 100000 ∧ ZbG g.proof ≤ 1000000000) : Fn Tryz.prog J 9 [.agg (dbC d), .int z] (.tup [.agg (vdC ((XY d z).1)), .int ((XY d z).2)]) := by
 refine Zx (N := 17) Tryz.func9 rfl rfl (lb rfl) fun S w0 hS hJ0 => ?_
 refine tw Yr ?_
 refine tsq ?_
 refine sq (.ptr (dbC d)) rfl rfl (lb rfl) (fun _ _ h => Y1 rfl (h.get 0 rfl) (Zr hS _ h.keep h.x _ (Nat.le_refl _)) (jo hJ h.x)) ?_
 refine ZW Zb5 hJ rfl rfl rfl (lb rfl) fun b1 => ?_
 refine snK 1 tb rfl ?_
 refine seK [1,2,4] [_,_,_] rfl ?_
 refine nx (Zo (ZN tb hJ [0,1,2,1003] [_,_,.int (Qz d z),_] [2] [_,_,_,_] rfl ⟨iFo hS hJ (Zlr hJ (d := d) (z := z) (by exact hw) (by exact hG)) Zsn, trivial⟩ ?_))
 refine qso tb hJ [0,1,2,3,1001] [_,_] [_,_,_,_,_] ?_
 refine cj 4 (fun hb1 => ?_) fun hb1 => ?_
 try simp at hb1
 refine tsq ?_
 refine sq (.agg (vdC (⟨0, 0⟩ : Int × Int))) rfl rfl (lb rfl) (fun _ _ h => YD (ps := []) (us := [.int .i64 0, .int .i64 0]) ZaU rfl (by simp) ZfG rfl (YL (.lit _ True.intro) (YL (.lit _ True.intro) ZK)) h.x) ?_
 refine snK 1 tb rfl ?_
 refine ZE (b := b1) (off := 0) (cs := [.lit (.int .i64 0), .lit (.int .i64 0)]) (es := [.lit (.int .i64 ((⟨0, 0⟩ : Int × Int).1)), .lit (.int .i64 ((⟨0, 0⟩ : Int × Int).2))]) (news := [.lit (.int .i64 ((⟨0, 0⟩ : Int × Int).1)), .lit (.int .i64 ((⟨0, 0⟩ : Int × Int).2))]) hJ hJ0 QU rfl rfl rfl (lb rfl) rfl (fun a w h => ⟨(h.get 2 rfl), (h.get 1 rfl)⟩) ?_
 refine snK 1 tb rfl ?_
 refine seK [0,3] [_,_] rfl ?_
 exact nx (Zi (fun a w h => Ze9 (cs := [.lit (.int .i64 ((⟨0, 0⟩ : Int × Int).1)), .lit (.int .i64 ((⟨0, 0⟩ : Int × Int).2))]) (m := 1) (q := 0) rfl Zbb h rfl rfl (show ([.lit (.int .i64 ((⟨0, 0⟩ : Int × Int).1)), .lit (.int .i64 ((⟨0, 0⟩ : Int × Int).2))] : List CD) = [.lit (.int .i64 (((XY d z).1).1)), .lit (.int .i64 (((XY d z).1).2))] from by simp [XY, hb1]) rfl (eI (by simp [XY, hb1]))))
 try simp at hb1
 have ha : Qz d z = 0 := by simpa using hb1
 obtain ⟨hck, hz0, hz1⟩ := Zfy ha
 refine tw (sa 2 rfl (show (.int z : AV) = .int (z.toNat : Nat) from congrArg AV.int (by omega))) ?_
 refine Zf (nx (tsq ?_))
 refine snK 2 tb rfl ?_
 refine sq (.agg (vdC (ZfC d z.toNat))) rfl rfl (lb rfl) (fun _ _ h => Ze1 (Zli hJ (d := d) (n := z.toNat) (by first | omega | (simp; omega) | grind [Zc]) (by exact hck) (by exact hw) (by exact hpl)) Zsm rfl (Zr hS _ h.keep h.x) (h.x.1) (Za (h.get 1 rfl) (Za (h.get 0 rfl) Ze)) (jo hJ h.x)) ?_
 refine ZE (b := b1) (off := 0) (cs := [.lit (.int .i64 0), .lit (.int .i64 0)]) (es := [.lit (.int .i64 ((ZfC d z.toNat).1)), .lit (.int .i64 ((ZfC d z.toNat).2))]) (news := [.lit (.int .i64 ((ZfC d z.toNat).1)), .lit (.int .i64 ((ZfC d z.toNat).2))]) hJ hJ0 QU rfl rfl rfl (lb rfl) rfl (fun a w h => ⟨(h.get 3 rfl), (h.get 0 rfl)⟩) ?_
 refine snK 1 tb rfl ?_
 refine seK [0,4] [_,_] rfl ?_
 exact nx (Zi (fun a w h => Ze9 (cs := [.lit (.int .i64 ((ZfC d z.toNat).1)), .lit (.int .i64 ((ZfC d z.toNat).2))]) (m := 1) (q := 0) rfl Zbb h rfl rfl (show ([.lit (.int .i64 ((ZfC d z.toNat).1)), .lit (.int .i64 ((ZfC d z.toNat).2))] : List CD) = [.lit (.int .i64 (((XY d z).1).1)), .lit (.int .i64 (((XY d z).1).2))] from by simp [XY, hb1]) rfl (eI (by simp [XY, hb1]))))
theorem Zk6 : ∀ (r : List Value) (s off : Nat) (pre old post : List Value), pre.length = off + s → old.length = r.length →
 (r.zipIdx s).foldl (fun (cs : Array Value) (x : Value × Nat) => cs.setIfInBounds (off + x.2) x.1) (pre ++ old ++ post).toArray = (pre ++ r ++ post).toArray
 | [], s, off, pre, old, post, _, h2 => by
  have : old = [] := List.length_eq_zero_iff.1 (by simpa using h2)
  subst this
  rfl
 | v :: r, s, off, pre, old, post, h1, h2 => by
  match old, h2 with
  | u :: old, h2 =>
   rw [List.zipIdx_cons, List.foldl_cons]
   have e : ((pre ++ u :: old ++ post).toArray.setIfInBounds (off + s) v) = ((pre ++ [v]) ++ old ++ post).toArray := by
    rw [List.setIfInBounds_toArray]
    congr 1
    rw [List.append_assoc, List.set_append_right _ _ (by omega), h1.symm, Nat.sub_self]
    simp
   rw [e, Zk6 r (s + 1) off (pre ++ [v]) old post (by simp; omega) (by simpa using h2)]
   simp
theorem ZgG {k : Nat} : ∀ (rows : List (List Value)) (i : Nat) (pre z : List Value), pre.length = i * k → z.length = rows.length * k → (∀ r ∈ rows, r.length = k) →
 Instr.fill (fun i => some (i * k, k)) (pre ++ z).toArray ((rows.zipIdx i).map fun p => (p.2, Value.agg p.1.toArray)) = some (pre ++ rows.flatten).toArray
 | [], i, pre, z, _, h2, _ => by
  have : z = [] := List.length_eq_zero_iff.1 (by simpa using h2)
  subst this
  simp [Instr.fill]
 | r :: rows, i, pre, z, h1, h2, h3 => by
  have hr := h3 r (by simp)
  have hz : z.length = k + rows.length * k := by rw [h2, List.length_cons, Nat.succ_mul, Nat.add_comm]
  have hcell : (Value.agg r.toArray).cells = r.toArray := rfl
  simp only [List.zipIdx_cons, List.map_cons, Instr.fill, hcell]
  rw [if_neg (by simp [hr]; omega)]
  have e : (Array.foldl (fun cs (x : Value × Nat) => cs.setIfInBounds (i * k + x.snd) x.fst) (pre ++ z).toArray r.toArray.zipIdx) = ((pre ++ r) ++ z.drop k).toArray := by
   have := Zk6 r 0 (i * k) pre (z.take k) (z.drop k) h1 (by rw [List.length_take]; omega)
   rw [List.append_assoc pre, List.take_append_drop] at this
   rw [← this]
   simp
  rw [e, ZgG rows (i + 1) (pre ++ r) (z.drop k) (by rw [List.length_append, h1, hr, Nat.succ_mul]) (by rw [List.length_drop]; omega) fun q hq => h3 q (by simp [hq])]
  simp
section
variable {n : Rn} {N : Nat} {P : Program} {J X : World → Prop} {S S' S'' : Nat → Prop} {O : List OB} {w0 : World} {env : List (Nat × AV)} {Q : Exit → Act → World → Prop}
variable {o : Oper} {a : Act} {w : World} {t e u : TypeId} {x y : Operand}
theorem ZkU {k : Nat} : ∀ {cs : List (List CD)} {vs : List Value}, RelL S w (cs.map AV.agg) vs → (∀ r ∈ cs, r.length = k) →
 ∃ us : List (List Value), vs = us.map (fun r => Value.agg r.toArray) ∧ us.length = cs.length ∧ (∀ r ∈ us, r.length = k) ∧ RdL S w cs.flatten us.flatten
 | [], vs, h, _ => by
  simp only [List.map_nil, RelL] at h
  subst h
  exact ⟨[], rfl, rfl, by simp, trivial⟩
 | c :: cs, vs, h, hk => by
  simp only [List.map_cons, RelL] at h
  obtain ⟨v, vs', rfl, h1, h2⟩ := h
  simp only [Rel] at h1
  obtain ⟨u, rfl, hr⟩ := h1
  obtain ⟨us, rfl, hl, hk2, hr2⟩ := ZkU (cs := cs) h2 fun r hr => hk r (by simp [hr])
  refine ⟨u :: us, rfl, by simp [hl], fun r hr3 => ?_, ?_⟩
  · rcases List.mem_cons.1 hr3 with rfl | hr3
    · rw [hr.length]; exact hk c (by simp)
    · exact hk2 r hr3
  · rw [List.flatten_cons, List.flatten_cons]
    exact hr.append hr2
theorem Zf5 {k m : Nat} {cs : List (List CD)} {vs : List Value} {z : Array Value} {parts : Array (Nat × Operand)} (ht : Yi P t e k) (hz : ∀ w, (zeroValue e).run P w = .ok (.agg z) w) (hop : o.op = .buildSlice t m parts) (hp : (parts.map fun (i, x) => (i, a.eval x)).toList = vs.zipIdx.map fun p => (p.2, p.1)) (h : RelL S w (cs.map AV.agg) vs) (hk : ∀ r ∈ cs, r.length = k) (hl : cs.length = m) (h1 : 1 ≤ k) (hm : 1 ≤ m * k) (hm2 : m * k ≤ 16777216)
 (hS : S w.heap.size) (hx : ∀ w', Keeps All w w' → X w') : Z5 n P o a w (Yq S X (.rd (.sl cs)) w) := by
 obtain ⟨us, rfl, hul, huk, hall⟩ := ZkU h hk
 have hfl : us.flatten.length = m * k := by
  have : ∀ us : List (List Value), (∀ r ∈ us, r.length = k) → us.flatten.length = us.length * k := by
   intro us
   induction us with
   | nil => simp
   | cons r us ih => intro h; rw [List.flatten_cons, List.length_append, h r (by simp), ih fun q hq => h q (by simp [hq]), List.length_cons, Nat.succ_mul, Nat.add_comm]
  rw [this us huk, hul, hl]
 have hf := ZgG us 0 [] ((List.range (m * k)).map (z[· % z.size]!)) (by simp) (by simp [hul, hl]) huk
 have hf2 : Instr.fill (fun i => some (i * k, k)) ((Array.range (m * k)).map (z[· % z.size]!)) (parts.map fun (i, x) => (i, a.eval x)).toList = some us.flatten.toArray := by
  rw [hp, List.zipIdx_map, List.map_map]
  have e : (Array.range (m * k)).map (z[· % z.size]!) = ([] ++ (List.range (m * k)).map (z[· % z.size]!)).toArray := by
   apply Array.ext'
   simp [Array.toList_range]
  rw [e]
  exact hf
 have hk' : Keeps All w (w.alloc (.cells us.flatten.toArray e)) := (Keeps.refl _ _).alloc _
 refine ZR (v := .slice (some ⟨w.heap.size, 0, none⟩) m m) (w' := w.alloc (.cells us.flatten.toArray e)) ?_ ⟨?_, hk', hx _ hk'⟩
 · have hcz : (Value.agg z).cells = z := rfl
   rw [execOp, hop]
   simp only [Sem.run_bind, Instr.buildSlice, run_underlying ht.1, Result.andThen_ok, ht.2 w]
   simp [newRow, newObj]
   rw [hz w]
   simp only [Result.andThen_ok, hcz]
   have hf3 := hf2
   simp only [Array.toList_map] at hf3
   simp only [hf3]
   rw [if_neg (by omega), if_neg (by omega)]
   rfl
 · simp only [Rel]
   rw [show (m : Nat) = cs.length from hl.symm]
   refine Rd.of_cells (n := k) (us := us.flatten) (Nat.le_refl _) (by rw [hl]; exact Nat.le_trans (Nat.le_mul_of_pos_right m h1) (Nat.le_trans hm2 (by decide))) (by simp) hS hk (hall.keep hk' fun _ _ _ => trivial) fun j u hj => QM j u hj
def ZmV (P : Program) (t : TypeId) : Prop := ∀ (ad : Option Addr) (k c : Nat) (p q : Int), P.built t [(0, .slice ad k c), (1, .agg #[.int .i64 p, .int .i64 q])] = some #[.slice ad k c, .int .i64 p, .int .i64 q]
theorem Zb1 {c d : Int} {v : Value} (h : Rel S w (.agg [.lit (.int .i64 c), .lit (.int .i64 d)]) v) : v = .agg #[.int .i64 c, .int .i64 d] := by
 simp only [Rel] at h
 obtain ⟨us, rfl, hr⟩ := h
 match us, hr with
 | [p, q], hr =>
  obtain rfl := hr.1.of_lit
  obtain rfl := hr.2.1.of_lit
  rfl
theorem ZaF {xs : List ByteArray} {p q : Int} (ht : ZmV P t) (hop : o.op = .build t #[(0, x), (1, y)]) (h1 : Rel S w (.rd (Zb xs)) (a.eval x)) (h2 : Rel S w (.agg [.lit (.int .i64 p), .lit (.int .i64 q)]) (a.eval y)) (hx : X w) :
 Z5 n P o a w (Yq S X (.agg [Zb xs, .lit (.int .i64 p), .lit (.int .i64 q)]) w) := by
 have v2 := Zb1 h2
 simp only [Rel] at h1
 have g1 := h1
 obtain ⟨ad, cap, e1, _, _⟩ := g1.form
 have hrun := run_build (P := P) w t #[(0, a.eval x), (1, a.eval y)] #[a.eval x, .int .i64 p, .int .i64 q] (by rw [v2, e1]; exact ht ad _ cap p q)
 refine Zv (v := .agg #[a.eval x, .int .i64 p, .int .i64 q]) ?_ ?_ hx
 · rw [execOp, hop]
   simp only [List.map_toArray, List.map_cons, List.map_nil, Sem.run_bind, hrun]
   rfl
 · simp only [Rel]
   exact ⟨[a.eval x, .int .i64 p, .int .i64 q], rfl, h1, .lit _ True.intro, .lit _ True.intro, trivial⟩
def EqVd (P : Program) (t : TypeId) : Prop := ∀ (a b c d : Int) (w : World) (x y : Operand), (eqGuard .eql t x y (.agg #[.int .i64 a, .int .i64 b]) (.agg #[.int .i64 c, .int .i64 d])).run P w = .ok () w ∧ (eqGuard .neq t x y (.agg #[.int .i64 a, .int .i64 b]) (.agg #[.int .i64 c, .int .i64 d])).run P w = .ok () w ∧
 (Op.equal t (.agg #[.int .i64 a, .int .i64 b]) (.agg #[.int .i64 c, .int .i64 d])).run P w = .ok (decide (a = c) && decide (b = d)) w
theorem r_eqlV {c d c' d' : Int} (ht : EqVd P t) (hop : o.op = .binOp .eql t x y u) (h1 : Rel S w (.agg [.lit (.int .i64 c), .lit (.int .i64 d)]) (a.eval x)) (h2 : Rel S w (.agg [.lit (.int .i64 c'), .lit (.int .i64 d')]) (a.eval y)) (hx : X w) :
 Z5 n P o a w (Yq S X (.bool (decide (c = c') && decide (d = d'))) w) := by
 obtain ⟨g1, _, g3⟩ := ht c d c' d' w x y
 refine Zv (v := .bool (decide (c = c') && decide (d = d'))) ?_ (Rel.of_lit _) hx
 rw [execOp, hop]
 simp only [Zb1 h1, Zb1 h2, Sem.run_bind, g1, Result.andThen_ok, binOp, g3]
 rfl
theorem r_neqV {c d c' d' : Int} (ht : EqVd P t) (hop : o.op = .binOp .neq t x y u) (h1 : Rel S w (.agg [.lit (.int .i64 c), .lit (.int .i64 d)]) (a.eval x)) (h2 : Rel S w (.agg [.lit (.int .i64 c'), .lit (.int .i64 d')]) (a.eval y)) (hx : X w) :
 Z5 n P o a w (Yq S X (.bool (!(decide (c = c') && decide (d = d')))) w) := by
 obtain ⟨_, g1, g3⟩ := ht c d c' d' w x y
 refine Zv (v := .bool (!(decide (c = c') && decide (d = d')))) ?_ (Rel.of_lit _) hx
 rw [execOp, hop]
 simp only [Zb1 h1, Zb1 h2, Sem.run_bind, g1, Result.andThen_ok, binOp, g3]
 rfl
end
end Go.Proofs.YtgifeodnngodiaaGreatDoor
namespace Go.Proofs.YtgifeodnngodiaaGreatDoor
structure Exm where
 proof : List ByteArray
 v : Int × Int
instance instInhExm : Inhabited Exm := ⟨⟨[], (0, 0)⟩⟩
def exC (e : Exm) : List CD := [Zb e.proof, .lit (.int .i64 e.v.1), .lit (.int .i64 e.v.2)]
def exsC (l : List Exm) : CD := .sl (l.map exC)
def Zb3 : ByteArray := ⟨#[119, 112, 104]⟩
def ZeM : ByteArray := ⟨#[119, 112, 115]⟩
def Zat : ByteArray := ⟨#[97, 120, 45, 49]⟩
def ZsF : ByteArray := ⟨#[119, 102, 102]⟩
def phT : ByteArray := ⟨#[112, 104]⟩
def psT : ByteArray := ⟨#[112, 115]⟩
def opT : ByteArray := ⟨#[40]⟩
def clT : ByteArray := ⟨#[41]⟩
def arT : ByteArray := ⟨#[45, 62]⟩
def tuT : ByteArray := ⟨#[124, 45]⟩
def exsD : List Exm := [⟨[Zb3, ZeM, Zat], (0, 0)⟩, ⟨[Zb3, Zat], (23, 1)⟩, ⟨[opT, Zat, clT, ⟨#[65, 66, 67]⟩], (0, 0)⟩, ⟨[opT, clT, ⟨#[65, 66, 68]⟩], (21, 0)⟩, ⟨[ZeM, Zb3, Zat], (28, 3)⟩]
def Zb9 : Hy := ⟨Zb3, true, [ZsF, phT]⟩
def Zb8 : Hy := ⟨ZeM, true, [ZsF, psT]⟩
def smTx : List ByteArray := [tuT, opT, phT, arT, opT, psT, arT, phT, clT, clT]
def ZsH : Fr := ⟨Zat, false, [Zb9, Zb8], [], smTx, [], [], []⟩
def ZsG (p : List ByteArray) : Fr := ⟨⟨#[116, 104]⟩, true, [Zb9, Zb8], [], smTx, [], [], p⟩
def Z3 (p : List ByteArray) : Db := ⟨[ZsF, tuT, opT, clT, arT], [phT, psT], [ZsH, ZsG p]⟩
theorem sam0 : XY (Z3 (ge exsD 0).proof) 1 = ((ge exsD 0).v, 0) := by kernel_rfl
theorem sam1 : XY (Z3 (ge exsD 1).proof) 1 = ((ge exsD 1).v, 0) := by kernel_rfl
theorem sam2 : XY (Z3 (ge exsD 2).proof) 1 = ((ge exsD 2).v, 0) := by kernel_rfl
theorem sam3 : XY (Z3 (ge exsD 3).proof) 1 = ((ge exsD 3).v, 0) := by kernel_rfl
theorem sam4 : XY (Z3 (ge exsD 4).proof) 1 = ((ge exsD 4).v, 0) := by kernel_rfl
theorem ZqE {k : Nat} (h : k < exsD.length) : XY (Z3 (ge exsD k).proof) 1 = ((ge exsD k).v, 0) := by
 have : k = 0 ∨ k = 1 ∨ k = 2 ∨ k = 3 ∨ k = 4 := by
  have : exsD.length = 5 := rfl
  omega
 rcases this with rfl | rfl | rfl | rfl | rfl
 · exact sam0
 · exact sam1
 · exact sam2
 · exact sam3
 · exact sam4

def Zhv (h : Hy) : Bool := decide ((60 : Int) < ((h.text.length : Nat) : Int))
def ZkI (s : ByteArray) : Bool := decide ((400 : Int) < ((s.size : Nat) : Int))
def Zl9 (m : Int) (f : Fr) : Bool := decide (m < ((f.proof.length : Nat) : Int)) || decide ((60 : Int) < ((f.text.length : Nat) : Int)) || decide ((60 : Int) < ((f.hyps.length : Nat) : Int)) || decide ((60 : Int) < ((f.dummies.length : Nat) : Int)) || decide ((200 : Int) < ((f.apart.length : Nat) : Int)) || decide ((300 : Int) < ((f.wide.length : Nat) : Int)) || f.hyps.any Zhv || f.dummies.any Zhv || f.proof.any ZkI
def Zc5 (d : Db) (n m : Int) : Bool := decide (((d.frames.length : Nat) : Int) ≤ n) && decide (((d.consts.length : Nat) : Int) ≤ (200 : Int)) && decide (((d.vars.length : Nat) : Int) ≤ (60 : Int)) && !(d.frames.any (Zl9 m))
theorem sum_le {l : List ByteArray} {m : Nat} (h : ∀ s ∈ l, s.size ≤ m) : ZbG l ≤ l.length * m := by
 induction l with
 | nil => simp [ZbG]
 | cons s l ih =>
  have h1 := h s (by simp)
  have h2 := ih fun x hx => h x (by simp [hx])
  simp only [ZbG, List.map_cons, List.sum_cons, List.length_cons, Nat.succ_mul] at h2 ⊢
  omega
theorem Znn {d : Db} {n m : Int} (h : Zc5 d n m = true) (hm : m ≤ 100000) : ∀ g ∈ d.frames, g.proof.length ≤ 100000 ∧ ZbG g.proof ≤ 1000000000 := fun g hg => by
 simp only [Zc5, Bool.and_eq_true, Bool.not_eq_true', List.any_eq_false] at h
 have h1 := h.2 g hg
 simp only [Zl9, Bool.or_eq_true, not_or, decide_eq_true_eq, Bool.not_eq_true, List.any_eq_false] at h1
 have h2 : ∀ s ∈ g.proof, s.size ≤ 400 := fun s hs => by
  have := h1.2 s hs
  simp [ZkI] at this
  omega
 have h3 := sum_le h2
 have h4 : g.proof.length ≤ 100000 := by have := h1.1.1.1.1.1.1.1.1; omega
 refine ⟨h4, ?_⟩
 have : g.proof.length * 400 ≤ 100000 * 400 := Nat.mul_le_mul_right _ h4
 omega
theorem ZkO {d : Db} {n m : Int} (h : Zc5 d n m = true) : ((d.frames.length : Nat) : Int) ≤ n := by
 simp only [Zc5, Bool.and_eq_true, decide_eq_true_eq] at h
 exact h.1.1.1
theorem sam_hw (p : List ByteArray) : ∀ f ∈ (Z3 p).frames, f.wide.length * 32 ≤ 140737488351232 := fun f hf => by
 have : f = ZsH ∨ f = ZsG p := by simpa [Z3] using hf
 rcases this with rfl | rfl <;> exact Nat.zero_le _
theorem sam_pl {k : Nat} (hk : k < exsD.length) : ∀ g ∈ (Z3 (ge exsD k).proof).frames, g.proof.length ≤ 100000 ∧ ZbG g.proof ≤ 1000000000 := fun g hg => by
 have : g = ZsH ∨ g = ZsG (ge exsD k).proof := by simpa [Z3] using hg
 have hk2 : k = 0 ∨ k = 1 ∨ k = 2 ∨ k = 3 ∨ k = 4 := by
  have : exsD.length = 5 := rfl
  omega
 rcases this with rfl | rfl
 · exact ⟨Nat.zero_le _, Nat.zero_le _⟩
 · rcases hk2 with rfl | rfl | rfl | rfl | rfl <;> exact ⟨of_decide_eq_true (by kernel_rfl), of_decide_eq_true (by kernel_rfl)⟩
end Go.Proofs.YtgifeodnngodiaaGreatDoor
set_option maxHeartbeats 8000000
set_option maxRecDepth 100000
namespace Go.Proofs.YtgifeodnngodiaaGreatDoor
open Go.RowKit
theorem ZgP : ZdZ Tryz.prog 37 [.string ⟨#[]⟩, .bool false, .slice none 0 0, .slice none 0 0, .slice none 0 0, .slice none 0 0, .slice none 0 0, .slice none 0 0] := ⟨fun i => (#[(0, 1), (1, 1), (2, 1), (3, 1), (4, 1), (5, 1), (6, 1), (7, 1)] : Array (Nat × Nat))[i]?, fun j hj => by rcases j with _ | _ | _ | _ | _ | _ | _ | _ | j <;> first | rfl | (simp at hj; omega), fun parts => by kernel_rfl⟩
theorem Q5 : ZmV Tryz.prog 65 := fun ad k c p q => by kernel_rfl
theorem Zqq : Tryz.prog.underlying 3 = some (.int .i64) := by kernel_rfl
theorem Zqr : Tryz.prog.underlying 28 = some (.int .i64) := by kernel_rfl
theorem Zkj : (Tryz.prog.fieldsOf 30).toList = [{ name := "Code", type := 28, offset := 0, embedded := false, tag := "", pkgPath := "", byteOffset := 0 }, { name := "Step", type := 3, offset := 1, embedded := false, tag := "", pkgPath := "", byteOffset := 8 }] := by kernel_rfl
theorem Zki : Tryz.prog.underlying 30 = some (.struct (Tryz.prog.fieldsOf 30)) := by kernel_rfl
theorem ZfW (c : Array Value) (i : Nat) (v : Value) (h : c[i]? = some v) (w : World) : (part 3 c i).run Tryz.prog w = .ok v w := by
 simp [part, Tryz.isAgg3, h]
theorem ZfX (c : Array Value) (i : Nat) (v : Value) (h : c[i]? = some v) (w : World) : (part 28 c i).run Tryz.prog w = .ok v w := by
 simp [part, Tryz.isAgg28, h]
theorem eqVd : EqVd Tryz.prog 30 := by
 intro a b c d w x y
 refine ⟨by simp [eqGuard], by simp [eqGuard], ?_⟩
 unfold Op.equal Op.maxDepth
 rw [run_equalIn_struct w 9999 30 _ _ Zki (by kernel_rfl), Zkj]
 have e1 := fun (c : Array Value) (v : Value) (i : Nat) (h : c[i]? = some v) => ZfX c i v h
 have e2 := fun (c : Array Value) (v : Value) (i : Nat) (h : c[i]? = some v) => ZfW c i v h
 have q1 : (Op.equalIn 9999 28 (.int .i64 a) (.int .i64 c)).run Tryz.prog w = .ok (decide (a = c)) w := run_equalIn_int w 9998 28 .i64 .i64 a c Zqr
 have q2 : (Op.equalIn 9999 3 (.int .i64 b) (.int .i64 d)).run Tryz.prog w = .ok (decide (b = d)) w := run_equalIn_int w 9998 3 .i64 .i64 b d Zqq
 simp only [Op.eqFields]
 rw [if_pos (by decide), if_pos (by decide)]
 simp only [Sem.run_bind]
 rw [e1 _ (.int .i64 a) 0 rfl w, Result.andThen_ok, e1 _ (.int .i64 c) 0 rfl w, Result.andThen_ok, q1, Result.andThen_ok]
 by_cases h1 : a = c
 · simp only [h1, decide_true, Bool.not_true, Bool.false_eq_true, if_false, Sem.run_bind]
   rw [e2 _ (.int .i64 b) 1 rfl w, Result.andThen_ok, e2 _ (.int .i64 d) 1 rfl w, Result.andThen_ok, q2, Result.andThen_ok]
   by_cases h2 : b = d
   · simp [h2, Sem.run_pure]
   · simp [h2, Sem.run_pure]
 · simp [h1, Sem.run_pure]
theorem ZnY {J : World → Prop} (hJ : Stab J) (xs : List Fr) (b : xs.length * 168 ≤ 140737488351232) : FnM (ι := Value) Tryz.prog J 10 [] [.rd (Zan xs)] [] (fun i' => .lit (i')) (fun i' => [OB.row i' 37 8 (xs.map frC)]) := by
 refine Z6 (N := 8) Tryz.func10 rfl rfl (lb rfl) fun S w0 R hS hJ0 hH => ?_
 refine Ya (B := St All (SO S (R)) w0 8 [(0, .rd (Zan xs))] (XO J S w0.heap.size (R))) ?_ fun a w h => h
 refine ln 0 fun hl1 => ?_
 refine qso tb hJ [0] [_] [_] ?_
 refine Zo (tsq ?_)
 refine snK 1 tb rfl ?_
 refine ZcG (f := frC) (xs := xs) XE rfl rfl rfl (lb rfl) (fun a w h => (h.get 0 rfl)) fun g1 hg1 => ?_
 refine seK [0,2] [_,_] rfl ?_
 refine nx (cj 0 (fun hb1 => ?_) fun hb1 => ?_)
 try simp at hb1
 refine qso tb hJ [1000] [_] [_] ?_
 refine tw (Yf 37 8 hJ) ?_
 refine tw (ob0 (congrArg (fun z' => OB.row (.slice none 0 0) 37 8 ((z').map frC)) (show ([] : List Fr) = xs from by first | exact (hg1 (by assumption)).symm | simp))) ?_
 exact Zi (fun a w h => ZP  (m := 0) (.slice none 0 0) rfl h rfl rfl)
 try simp at hb1
 refine Zf (nx (Zo (fun a w h => ZcJ (id := 3) (t := 23) (e := 37) (size := 8) (bytes := 168) (i0 := 0) (fol := 3) (d := 2) (ch := [(2, (xs.map frC))]) (fun ix' => ([.any, .rd (Zan xs), .any, .any] : List AV).getD ix' .any) (fun ix' => ([true, true, true, true] : List Bool).getD ix' true) [] (xs.map frC) (by simp) ?r3_1 hJ hJ0 h Ye rfl rfl rfl rfl ⟨?o3_1_0, ⟨?o3_1_1, ⟨?o3_1_2, ⟨?o3_1_3, trivial⟩⟩⟩⟩ trivial (fun v2 => ?n3_1))))
 case r3_1 =>
  refine Row.mk' ZgY ⟨_, rfl, rfl, rfl, rfl, rfl⟩ ⟨?x3_1_0, trivial⟩ ⟨_, _, _, _, rfl, rfl, rfl, rfl, rfl, rfl, rfl, rfl, rfl⟩ rfl rfl rfl
  case x3_1_0 => exact ⟨_, _, _, _, rfl, rfl, rfl, rfl, rfl, rfl, rfl, rfl, QO (f := frC) (fun _ => rfl), (by have hm : maxLen = 9223372036854775807 := rfl; simp [upto]; first | omega | (simp; omega)), (by have hm : maxLen = 9223372036854775807 := rfl; simp [upto]; first | omega | (simp; omega)), fun _ _ _ _ _ hl => (hl.D 1 6 rfl rfl)⟩
 exact fun h => Zl rfl h
 exact fun _ _ => ⟨rfl, fun _ _ _ hx hl _ => Ys rfl (hl.env 1 0 _ rfl rfl) hx⟩
 exact fun h => Zl rfl h
 exact fun h => Zl rfl h
 clear a w h
 exact nx (Zi (fun a w h => ZP  (m := 0) v2 rfl h rfl rfl))
theorem ZfL {J : World → Prop} (hJ : Stab J) (h0 : Hy)  : Fn Tryz.prog J 31 [.agg (hyC h0)] (.bool (Zhv h0)) := by
 refine Zx (N := 7) Tryz.func31 rfl rfl (lb rfl) fun S w0 hS hJ0 => ?_
 clear hJ0
 refine hqs tb hJ [1000] [.ptr (hyC h0),_] [0] [_] rfl ⟨fun _ _ hk hx hl _ => Y1 rfl (hl.env 0 0 _ rfl rfl) (hS _ hk.size) (js hJ hx), trivial⟩ ?_
 refine hqs tb hJ [1001,1004] [_,_,.int (h0.text.length : Nat),_,_] [2] [_,_] rfl ⟨YE Zw, trivial⟩ ?_
 refine ln 0 fun hl1 => ?_
 exact Zi (rtn (m := 1) rfl rfl (eB (rfl)))
theorem Zkf {J : World → Prop} (hJ : Stab J) (s : ByteArray)  : Fn Tryz.prog J 32 [.str s] (.bool (ZkI s)) := by
 refine Zx (N := 6) Tryz.func32 rfl rfl (lb rfl) fun S w0 hS hJ0 => ?_
 clear hJ0
 refine qs tb hJ [0] [_] [_] ?_
 refine hqs tb hJ [1003] [_,.int (s.size : Nat),_,_] [1] [_] rfl ⟨iLeS YX, trivial⟩ ?_
 exact Zi (rtn (m := 0) rfl rfl (eB (rfl)))
theorem Zm7 {J : World → Prop} (hJ : Stab J) (f : Fr) (m : Int)  : Fn Tryz.prog J 30 [.agg (frC f), .ptr [.lit (.int .i64 m)]] (.bool (Zl9 m f)) := by
 refine Zx (N := 57) Tryz.func30 rfl rfl (lb rfl) fun S w0 hS hJ0 => ?_
 clear hJ0
 refine hqs tb hJ [1,1000] [.ptr (frC f),_] [0] [_,_] rfl ⟨fun _ _ hk hx hl _ => Y1 rfl (hl.env 0 0 _ rfl rfl) (hS _ hk.size) (js hJ hx), trivial⟩ ?_
 refine qs tb hJ [0,1,1000] [_] [_,_,_] ?_
 refine hqs tb hJ [1001,1052] [_,_,.int (f.proof.length : Nat),_,_,_,_,_,.int (f.text.length : Nat),_,_,_,_,_,.int (f.hyps.length : Nat),_,_,_,_,_,.int (f.dummies.length : Nat),_,_,_,_,_,.int (f.apart.length : Nat),_,_,_,_,_,.int (f.wide.length : Nat),_,_,_,_,_,_,.bool (f.hyps.any Zhv),_,_,_,_,_,.bool (f.dummies.any Zhv),_,_,_,_,.bool (f.proof.any ZkI),_,_] [2,8,14,20,26,32,39,45,50] [_,_] rfl ⟨YE Zw, YE Zw, YE ZF, YE ZF, YE Z8, YE Z8, fun _ _ hk hx hl hc => YV (XS hJ (xs := f.hyps) (f := 31) (caps := []) (Os := []) (p := Zhv) (fun q' => (ZfL hJ q').rr) (ZmG)) ZdT rfl (nm hS hk) (hx) Zt (Za (hl.D 37 42 rfl hc) (Za (hl.D 38 43 rfl hc) Ze)) (js hJ hx), fun _ _ hk hx hl hc => YV (XS hJ (xs := f.dummies) (f := 31) (caps := []) (Os := []) (p := Zhv) (fun q' => (ZfL hJ q').rr) (ZmG)) ZdT rfl (nm hS hk) (hx) Zt (Za (hl.D 43 48 rfl hc) (Za (hl.D 44 49 rfl hc) Ze)) (js hJ hx), fun _ _ hk hx hl hc => YV (YC hJ (xs := f.proof) (f := 32) (caps := []) (Os := []) (p := ZkI) (fun q' => (Zkf hJ q').rr) (Zsp)) Zbv rfl (nm hS hk) (hx) Zt (Za (hl.D 49 54 rfl hc) (Za (QF 32) Ze)) (js hJ hx), trivial⟩ ?_
 refine ln 0 fun hl1 => ?_
 exact Zi (rtn (m := 1) rfl rfl (eB (rfl)))
theorem Zqh {J : World → Prop} (hJ : Stab J) (d : Db) (n : Int) (m : Int)  : Fn Tryz.prog J 7 [.agg (dbC d), .int n, .int m] (.bool (Zc5 d n m)) := by
 refine Zx (N := 31) Tryz.func7 rfl rfl (lb rfl) fun S w0 hS hJ0 => ?_
 clear hJ0
 refine hqs tb hJ [1,1000,1001] [.ptr (dbC d),.ptr [.lit (.int .i64 m)],_] [0,1] [_,_,_] rfl ⟨fun _ _ hk hx hl _ => Y1 rfl (hl.env 0 0 _ rfl rfl) (hS _ hk.size) (js hJ hx), fun _ _ hk hx hl _ => ZaG rfl (hl.env 2 2 _ rfl rfl) (hS _ hk.size) (js hJ hx), trivial⟩ ?_
 refine hqs tb hJ [1001,1024] [_,_,.int (d.frames.length : Nat),_,_,_,_,_,.int (d.consts.length : Nat),_,_,_,_,_,.int (d.vars.length : Nat),_,_,_,_,_,.fn 30 [.ptr [.lit (.int .i64 m)]],.bool (d.frames.any (Zl9 m)),_,_,_] [2,8,14,20,21] [_,_] rfl ⟨YE XE, YE Zw, YE Zw, fun _ _ _ hx hl _ => Y6 (caps := [(Go.Operand.tmp 5)]) rfl (Za (hl.env 2 5 _ rfl rfl) Ze) hx, fun _ _ hk hx hl hc => YV (Zdf hJ (xs := d.frames) (f := 30) (caps := [.ptr [.lit (.int .i64 m)]]) (Os := []) (p := (Zl9 m)) (fun q' => (Zm7 hJ q' m).rr) (Zsq)) Zsr rfl (nm hS hk) (hx) Zt (Za (hl.D 19 26 rfl hc) (Za (hl.D 20 27 rfl hc) Ze)) (js hJ hx), trivial⟩ ?_
 refine ln 0 fun hl1 => ?_
 exact Zi (rtn (m := 1) rfl rfl (eB (rfl)))
theorem Zm6 {J : World → Prop} (hJ : Stab J) (p : List ByteArray)  : Fn Tryz.prog J 33 [.rd (Zb p)] (.agg (dbC (Z3 p))) := by
 refine Zx (N := 26) Tryz.func33 rfl rfl (lb rfl) fun S w0 hS hJ0 => ?_
 refine tw Yr ?_
 refine ln 0 fun hl1 => ?_
 refine tsq ?_
 refine ZW ZcY hJ rfl rfl rfl (lb rfl) fun b1 => ?_
 refine seK [0,1] [_,_] rfl ?_
 refine nx (tsq ?_)
 refine sq (.rd (Zb ([ZsF, phT] : List ByteArray))) rfl rfl (lb rfl) (fun a _ h => Y9 (k := 2) (us := [a.eval (Go.Operand.const (Go.Value.string { data := #[119, 102, 102] })), a.eval (Go.Operand.const (Go.Value.string { data := #[112, 104] }))]) Zh Xe rfl (by simp) (Zk (Rel.of_lit (Go.Value.string { data := #[119, 102, 102] }) (lb rfl)) (Zk (Rel.of_lit (Go.Value.string { data := #[112, 104] }) (lb rfl)) ZK)) rfl (by decide) (by decide) (Zr hS _ h.keep h.x _ (Nat.le_refl _)) (jo hJ h.x)) ?_
 refine sq (.agg (hyC (Zb9))) rfl rfl (lb rfl) (fun a _ h => XP (us := [a.eval (Go.Operand.const (Go.Value.string { data := #[119, 112, 104] })), a.eval (Go.Operand.const (Go.Value.bool true)), a.eval (Go.Operand.tmp 6)]) ZeI rfl (by simp) (Zk (Rel.of_lit (Go.Value.string { data := #[119, 112, 104] }) (lb rfl)) (Zk (Rel.of_lit (Go.Value.bool true)) (Zk (h.get 0 rfl) ZK))) rfl h.x) ?_
 refine sq (.rd (Zb ([ZsF, psT] : List ByteArray))) rfl rfl (lb rfl) (fun a _ h => Y9 (k := 2) (us := [a.eval (Go.Operand.const (Go.Value.string { data := #[119, 102, 102] })), a.eval (Go.Operand.const (Go.Value.string { data := #[112, 115] }))]) Zh Xe rfl (by simp) (Zk (Rel.of_lit (Go.Value.string { data := #[119, 102, 102] }) (lb rfl)) (Zk (Rel.of_lit (Go.Value.string { data := #[112, 115] }) (lb rfl)) ZK)) rfl (by decide) (by decide) (Zr hS _ h.keep h.x _ (Nat.le_refl _)) (jo hJ h.x)) ?_
 refine sq (.agg (hyC (Zb8))) rfl rfl (lb rfl) (fun a _ h => XP (us := [a.eval (Go.Operand.const (Go.Value.string { data := #[119, 112, 115] })), a.eval (Go.Operand.const (Go.Value.bool true)), a.eval (Go.Operand.tmp 8)]) ZeI rfl (by simp) (Zk (Rel.of_lit (Go.Value.string { data := #[119, 112, 115] }) (lb rfl)) (Zk (Rel.of_lit (Go.Value.bool true)) (Zk (h.get 0 rfl) ZK))) rfl h.x) ?_
 refine ZW Yz hJ rfl rfl rfl (lb rfl) fun b2 => ?_
 refine ZW Yz hJ rfl rfl rfl (lb rfl) fun b3 => ?_
 refine kw pm1 ?_
 refine ZE (b := b2) (off := 0) (cs := [.lit (.string (⟨#[]⟩ : ByteArray)), .lit (.bool false), Zb ([] : List ByteArray)]) (es := [.lit (.string ((Zb9).label)), .lit (.bool ((Zb9).floating)), Zb ((Zb9).text)]) (news := [.lit (.string ((Zb9).label)), .lit (.bool ((Zb9).floating)), Zb ((Zb9).text)]) hJ hJ0 YS rfl rfl rfl (lb rfl) rfl (fun a w h => ⟨(h.get 1 rfl), (h.get 4 rfl)⟩) ?_
 refine kw pm1 ?_
 refine ZE (b := b3) (off := 0) (cs := [.lit (.string (⟨#[]⟩ : ByteArray)), .lit (.bool false), Zb ([] : List ByteArray)]) (es := [.lit (.string ((Zb8).label)), .lit (.bool ((Zb8).floating)), Zb ((Zb8).text)]) (news := [.lit (.string ((Zb8).label)), .lit (.bool ((Zb8).floating)), Zb ((Zb8).text)]) hJ hJ0 YS rfl rfl rfl (lb rfl) rfl (fun a w h => ⟨(h.get 0 rfl), (h.get 2 rfl)⟩) ?_
 refine seK [0,1,3,5,6,7] [_,_,_,_,_,_] rfl ?_
 refine nx (ln 2 fun hl2 => ?_)
 refine ln 3 fun hl3 => ?_
 refine ZN tb hJ [0,1,4,5,1000,1001] [.rd (Zb (smTx)),_] [0] [_,_,_,_,_,_] rfl ⟨fun a _ hk hx _ _ => Y9 (k := 10) (us := [a.eval (Go.Operand.const (Go.Value.string { data := #[124, 45] })), a.eval (Go.Operand.const (Go.Value.string { data := #[40] })), a.eval (Go.Operand.const (Go.Value.string { data := #[112, 104] })), a.eval (Go.Operand.const (Go.Value.string { data := #[45, 62] })), a.eval (Go.Operand.const (Go.Value.string { data := #[40] })), a.eval (Go.Operand.const (Go.Value.string { data := #[112, 115] })), a.eval (Go.Operand.const (Go.Value.string { data := #[45, 62] })), a.eval (Go.Operand.const (Go.Value.string { data := #[112, 104] })), a.eval (Go.Operand.const (Go.Value.string { data := #[41] })), a.eval (Go.Operand.const (Go.Value.string { data := #[41] }))]) Zh Xe rfl (by simp) (Zk (Rel.of_lit (Go.Value.string { data := #[124, 45] }) (lb rfl)) (Zk (Rel.of_lit (Go.Value.string { data := #[40] }) (lb rfl)) (Zk (Rel.of_lit (Go.Value.string { data := #[112, 104] }) (lb rfl)) (Zk (Rel.of_lit (Go.Value.string { data := #[45, 62] }) (lb rfl)) (Zk (Rel.of_lit (Go.Value.string { data := #[40] }) (lb rfl)) (Zk (Rel.of_lit (Go.Value.string { data := #[112, 115] }) (lb rfl)) (Zk (Rel.of_lit (Go.Value.string { data := #[45, 62] }) (lb rfl)) (Zk (Rel.of_lit (Go.Value.string { data := #[112, 104] }) (lb rfl)) (Zk (Rel.of_lit (Go.Value.string { data := #[41] }) (lb rfl)) (Zk (Rel.of_lit (Go.Value.string { data := #[41] }) (lb rfl)) ZK)))))))))) rfl (by decide) (by decide) (Zr hS _ hk hx _ (Nat.le_refl _)) (jo hJ hx), trivial⟩ ?_
 refine ln 4 fun hl4 => ?_
 refine tsq ?_
 refine sq (.rd (Zb ([ZsF, tuT, opT, clT, arT] : List ByteArray))) rfl rfl (lb rfl) (fun a _ h => Y9 (k := 5) (us := [a.eval (Go.Operand.const (Go.Value.string { data := #[119, 102, 102] })), a.eval (Go.Operand.const (Go.Value.string { data := #[124, 45] })), a.eval (Go.Operand.const (Go.Value.string { data := #[40] })), a.eval (Go.Operand.const (Go.Value.string { data := #[41] })), a.eval (Go.Operand.const (Go.Value.string { data := #[45, 62] }))]) Zh Xe rfl (by simp) (Zk (Rel.of_lit (Go.Value.string { data := #[119, 102, 102] }) (lb rfl)) (Zk (Rel.of_lit (Go.Value.string { data := #[124, 45] }) (lb rfl)) (Zk (Rel.of_lit (Go.Value.string { data := #[40] }) (lb rfl)) (Zk (Rel.of_lit (Go.Value.string { data := #[41] }) (lb rfl)) (Zk (Rel.of_lit (Go.Value.string { data := #[45, 62] }) (lb rfl)) ZK))))) rfl (by decide) (by decide) (Zr hS _ h.keep h.x _ (Nat.le_refl _)) (jo hJ h.x)) ?_
 refine sq (.rd (Zb ([phT, psT] : List ByteArray))) rfl rfl (lb rfl) (fun a _ h => Y9 (k := 2) (us := [a.eval (Go.Operand.const (Go.Value.string { data := #[112, 104] })), a.eval (Go.Operand.const (Go.Value.string { data := #[112, 115] }))]) Zh Xe rfl (by simp) (Zk (Rel.of_lit (Go.Value.string { data := #[112, 104] }) (lb rfl)) (Zk (Rel.of_lit (Go.Value.string { data := #[112, 115] }) (lb rfl)) ZK)) rfl (by decide) (by decide) (Zr hS _ h.keep h.x _ (Nat.le_refl _)) (jo hJ h.x)) ?_
 refine sq (.agg (hyC (Zb9))) rfl rfl (lb rfl) (fun _ _ h => Yd (cs := [.lit (.string ((Zb9).label)), .lit (.bool ((Zb9).floating)), Zb ((Zb9).text)]) (ds := [.lit (.string ((Zb9).label)), .lit (.bool ((Zb9).floating)), Zb ((Zb9).text)]) Qa rfl (Zd h.x (mo 1 rfl)) (h.get 3 rfl) rfl rfl h.x) ?_
 refine sq (.agg (hyC (Zb8))) rfl rfl (lb rfl) (fun _ _ h => Yd (cs := [.lit (.string ((Zb8).label)), .lit (.bool ((Zb8).floating)), Zb ((Zb8).text)]) (ds := [.lit (.string ((Zb8).label)), .lit (.bool ((Zb8).floating)), Zb ((Zb8).text)]) Qa rfl (Zd h.x (mo 0 rfl)) (h.get 3 rfl) rfl rfl h.x) ?_
 refine sq (.rd (Z4 ([Zb9, Zb8]))) rfl rfl (lb rfl) (fun a _ h => Zf5 (z := #[.string ⟨#[]⟩, .bool false, .slice none 0 0]) (cs := [hyC (Zb9), hyC (Zb8)]) (vs := [a.eval (Go.Operand.tmp 13), a.eval (Go.Operand.tmp 14)]) ZH (fun w => by kernel_rfl) rfl (by simp) (Za (h.get 1 rfl) (Za (h.get 0 rfl) Ze)) (of_decide_eq_true rfl) rfl (by decide) (by decide) (by decide) (Zr hS _ h.keep h.x _ (Nat.le_refl _)) (jo hJ h.x)) ?_
 refine snK 1 tb rfl ?_
 refine sq (.agg (frC (ZsH))) rfl rfl (lb rfl) (fun a _ h => YD (ps := [(0, a.eval (Go.Operand.const (Go.Value.string { data := #[97, 120, 45, 49] }))), (2, a.eval (Go.Operand.tmp 15)), (4, a.eval (Go.Operand.tmp 16))]) (us := [a.eval (Go.Operand.const (Go.Value.string { data := #[97, 120, 45, 49] })), .bool false, a.eval (Go.Operand.tmp 15), .slice none 0 0, a.eval (Go.Operand.tmp 16), .slice none 0 0, .slice none 0 0, .slice none 0 0]) ZgP rfl (by simp) (Zec (lb rfl) rfl (Zec (lb rfl) (Rel.oneC (h.get 1 rfl)) (Zec (lb rfl) (Rel.oneC (h.get 0 rfl)) ZfG))) rfl (Zk (Rel.of_lit (Go.Value.string { data := #[97, 120, 45, 49] }) (lb rfl)) (YL (.lit _ True.intro) (Zk (h.get 1 rfl) (YL (.nil _ _ (Nat.zero_le _)) (Zk (h.get 0 rfl) (YL (.nil _ _ (Nat.zero_le _)) (YL (.nil _ _ (Nat.zero_le _)) (YL (.nil _ _ (Nat.zero_le _)) ZK)))))))) h.x) ?_
 refine sq (.agg (hyC (Zb9))) rfl rfl (lb rfl) (fun _ _ h => Yd (cs := [.lit (.string ((Zb9).label)), .lit (.bool ((Zb9).floating)), Zb ((Zb9).text)]) (ds := [.lit (.string ((Zb9).label)), .lit (.bool ((Zb9).floating)), Zb ((Zb9).text)]) Qa rfl (Zd h.x (mo 1 rfl)) (h.get 8 rfl) rfl rfl h.x) ?_
 refine sq (.agg (hyC (Zb8))) rfl rfl (lb rfl) (fun _ _ h => Yd (cs := [.lit (.string ((Zb8).label)), .lit (.bool ((Zb8).floating)), Zb ((Zb8).text)]) (ds := [.lit (.string ((Zb8).label)), .lit (.bool ((Zb8).floating)), Zb ((Zb8).text)]) Qa rfl (Zd h.x (mo 0 rfl)) (h.get 8 rfl) rfl rfl h.x) ?_
 refine sq (.rd (Z4 ([Zb9, Zb8]))) rfl rfl (lb rfl) (fun a _ h => Zf5 (z := #[.string ⟨#[]⟩, .bool false, .slice none 0 0]) (cs := [hyC (Zb9), hyC (Zb8)]) (vs := [a.eval (Go.Operand.tmp 18), a.eval (Go.Operand.tmp 19)]) ZH (fun w => by kernel_rfl) rfl (by simp) (Za (h.get 1 rfl) (Za (h.get 0 rfl) Ze)) (of_decide_eq_true rfl) rfl (by decide) (by decide) (by decide) (Zr hS _ h.keep h.x _ (Nat.le_refl _)) (jo hJ h.x)) ?_
 refine snK 2 tb rfl ?_
 refine sq (.agg (frC (ZsG p))) rfl rfl (lb rfl) (fun a _ h => YD (ps := [(0, a.eval (Go.Operand.const (Go.Value.string { data := #[116, 104] }))), (1, a.eval (Go.Operand.const (Go.Value.bool true))), (2, a.eval (Go.Operand.tmp 20)), (4, a.eval (Go.Operand.tmp 21)), (7, a.eval (Go.Operand.tmp 22))]) (us := [a.eval (Go.Operand.const (Go.Value.string { data := #[116, 104] })), a.eval (Go.Operand.const (Go.Value.bool true)), a.eval (Go.Operand.tmp 20), .slice none 0 0, a.eval (Go.Operand.tmp 21), .slice none 0 0, .slice none 0 0, a.eval (Go.Operand.tmp 22)]) ZgP rfl (by simp) (Zec (lb rfl) rfl (Zec (lb rfl) rfl (Zec (lb rfl) (Rel.oneC (h.get 2 rfl)) (Zec (lb rfl) (Rel.oneC (h.get 1 rfl)) (Zec (lb rfl) (Rel.oneC (h.get 0 rfl)) ZfG))))) rfl (Zk (Rel.of_lit (Go.Value.string { data := #[116, 104] }) (lb rfl)) (Zk (Rel.of_lit (Go.Value.bool true)) (Zk (h.get 2 rfl) (YL (.nil _ _ (Nat.zero_le _)) (Zk (h.get 1 rfl) (YL (.nil _ _ (Nat.zero_le _)) (YL (.nil _ _ (Nat.zero_le _)) (Zk (h.get 0 rfl) ZK)))))))) h.x) ?_
 refine sq (.rd (Zan ([ZsH, (ZsG p)]))) rfl rfl (lb rfl) (fun a _ h => Zf5 (z := #[.string ⟨#[]⟩, .bool false, .slice none 0 0, .slice none 0 0, .slice none 0 0, .slice none 0 0, .slice none 0 0, .slice none 0 0]) (cs := [frC (ZsH), frC (ZsG p)]) (vs := [a.eval (Go.Operand.tmp 17), a.eval (Go.Operand.tmp 23)]) Yh (fun w => by kernel_rfl) rfl (by simp) (Za (h.get 6 rfl) (Za (h.get 0 rfl) Ze)) (of_decide_eq_true rfl) rfl (by decide) (by decide) (by decide) (Zr hS _ h.keep h.x _ (Nat.le_refl _)) (jo hJ h.x)) ?_
 refine sq (.agg (dbC (Z3 p))) rfl rfl (lb rfl) (fun a _ h => XP (us := [a.eval (Go.Operand.tmp 11), a.eval (Go.Operand.tmp 12), a.eval (Go.Operand.tmp 24)]) Zj3 rfl (by simp) (Zk (h.get 13 rfl) (Zk (h.get 12 rfl) (Zk (h.get 0 rfl) ZK))) rfl h.x) ?_
 refine kw pm2 ?_
 refine ZE (b := b1) (off := 0) (cs := [Zb ([] : List ByteArray), Zb ([] : List ByteArray), Zan ([] : List Fr)]) (es := [Zb ((Z3 p).consts), Zb ((Z3 p).vars), Zan ((Z3 p).frames)]) (news := [Zb ((Z3 p).consts), Zb ((Z3 p).vars), Zan ((Z3 p).frames)]) hJ hJ0 ZfT rfl rfl rfl (lb rfl) rfl (fun a w h => ⟨(h.get 17 rfl), (h.get 0 rfl)⟩) ?_
 refine seK [1,5,10,13,14,17] [_,_,_,_,_,_] rfl ?_
 refine nx (ln 0 fun hl5 => ?_)
 refine ln 1 fun hl6 => ?_
 refine ln 3 fun hl7 => ?_
 refine ln 4 fun hl8 => ?_
 exact Zi (fun a w h => Zam (cs := [Zb ((Z3 p).consts), Zb ((Z3 p).vars), Zan ((Z3 p).frames)]) (m := 5) rfl ZcS h rfl rfl (show ([Zb ((Z3 p).consts), Zb ((Z3 p).vars), Zan ((Z3 p).frames)] : List CD) = [Zb ((Z3 p).consts), Zb ((Z3 p).vars), Zan ((Z3 p).frames)] from rfl))
theorem Zg6 {J : World → Prop} (hJ : Stab J)  (hG : Q8 J) : Fn Tryz.prog J 8 [] (.bool true) := by
 refine Zx (N := 42) Tryz.func8 rfl rfl (lb rfl) fun S w0 hS hJ0 => ?_
 refine tw Yr ?_
 refine qso tb hJ [] [_] [] ?_
 refine Zo (Zo (YW tb hJ [1000,1003,1006,1009,1012,1015,1016,1017] [.rd (Zb ([Zb3, ZeM, Zat] : List ByteArray)),.agg (vdC (⟨0, 0⟩ : Int × Int)),.agg (exC (⟨([Zb3, ZeM, Zat] : List ByteArray), (⟨0, 0⟩ : Int × Int)⟩ : Exm)),.rd (Zb ([Zb3, Zat] : List ByteArray)),.agg (vdC (⟨(23 : Int), (1 : Int)⟩ : Int × Int)),.agg (exC (⟨([Zb3, Zat] : List ByteArray), (⟨(23 : Int), (1 : Int)⟩ : Int × Int)⟩ : Exm)),.rd (Zb ([opT, Zat, clT, (⟨#[65, 66, 67]⟩ : ByteArray)] : List ByteArray)),.agg (vdC (⟨0, 0⟩ : Int × Int)),.agg (exC (⟨([opT, Zat, clT, (⟨#[65, 66, 67]⟩ : ByteArray)] : List ByteArray), (⟨0, 0⟩ : Int × Int)⟩ : Exm)),.rd (Zb ([opT, clT, (⟨#[65, 66, 68]⟩ : ByteArray)] : List ByteArray)),.agg (vdC (⟨(21 : Int), 0⟩ : Int × Int)),.agg (exC (⟨([opT, clT, (⟨#[65, 66, 68]⟩ : ByteArray)] : List ByteArray), (⟨(21 : Int), 0⟩ : Int × Int)⟩ : Exm)),.rd (Zb ([ZeM, Zb3, Zat] : List ByteArray)),.agg (vdC (⟨(28 : Int), (3 : Int)⟩ : Int × Int)),.agg (exC (⟨([ZeM, Zb3, Zat] : List ByteArray), (⟨(28 : Int), (3 : Int)⟩ : Int × Int)⟩ : Exm)),.rd (exsC ([(⟨([Zb3, ZeM, Zat] : List ByteArray), (⟨0, 0⟩ : Int × Int)⟩ : Exm), (⟨([Zb3, Zat] : List ByteArray), (⟨(23 : Int), (1 : Int)⟩ : Int × Int)⟩ : Exm), (⟨([opT, Zat, clT, (⟨#[65, 66, 67]⟩ : ByteArray)] : List ByteArray), (⟨0, 0⟩ : Int × Int)⟩ : Exm), (⟨([opT, clT, (⟨#[65, 66, 68]⟩ : ByteArray)] : List ByteArray), (⟨(21 : Int), 0⟩ : Int × Int)⟩ : Exm), (⟨([ZeM, Zb3, Zat] : List ByteArray), (⟨(28 : Int), (3 : Int)⟩ : Int × Int)⟩ : Exm)])),.int (([(⟨([Zb3, ZeM, Zat] : List ByteArray), (⟨0, 0⟩ : Int × Int)⟩ : Exm), (⟨([Zb3, Zat] : List ByteArray), (⟨(23 : Int), (1 : Int)⟩ : Int × Int)⟩ : Exm), (⟨([opT, Zat, clT, (⟨#[65, 66, 67]⟩ : ByteArray)] : List ByteArray), (⟨0, 0⟩ : Int × Int)⟩ : Exm), (⟨([opT, clT, (⟨#[65, 66, 68]⟩ : ByteArray)] : List ByteArray), (⟨(21 : Int), 0⟩ : Int × Int)⟩ : Exm), (⟨([ZeM, Zb3, Zat] : List ByteArray), (⟨(28 : Int), (3 : Int)⟩ : Int × Int)⟩ : Exm)]).length : Nat),_] [0,1,2,3,4,5,6,7,8,9,10,11,12,13,14,15,16] [_,_,_,_,_,_,_,_] rfl ⟨fun a _ hk hx _ _ => Y9 (k := 3) (us := [a.eval (Go.Operand.const (Go.Value.string { data := #[119, 112, 104] })), a.eval (Go.Operand.const (Go.Value.string { data := #[119, 112, 115] })), a.eval (Go.Operand.const (Go.Value.string { data := #[97, 120, 45, 49] }))]) Zh Xe rfl (by simp) (Zk (Rel.of_lit (Go.Value.string { data := #[119, 112, 104] }) (lb rfl)) (Zk (Rel.of_lit (Go.Value.string { data := #[119, 112, 115] }) (lb rfl)) (Zk (Rel.of_lit (Go.Value.string { data := #[97, 120, 45, 49] }) (lb rfl)) ZK))) rfl (by decide) (by decide) (Zr hS _ hk hx _ (Nat.le_refl _)) (jo hJ hx), fun _ _ _ hx _ _ => YD (ps := []) (us := [.int .i64 0, .int .i64 0]) ZaU rfl (by simp) ZfG rfl (YL (.lit _ True.intro) (YL (.lit _ True.intro) ZK)) hx, fun _ _ _ hx hl _ => ZaF (xs := ([Zb3, ZeM, Zat] : List ByteArray)) Q5 rfl (hl.D 0 5 rfl rfl) (hl.D 1 6 rfl rfl) hx, fun a _ hk hx _ _ => Y9 (k := 2) (us := [a.eval (Go.Operand.const (Go.Value.string { data := #[119, 112, 104] })), a.eval (Go.Operand.const (Go.Value.string { data := #[97, 120, 45, 49] }))]) Zh Xe rfl (by simp) (Zk (Rel.of_lit (Go.Value.string { data := #[119, 112, 104] }) (lb rfl)) (Zk (Rel.of_lit (Go.Value.string { data := #[97, 120, 45, 49] }) (lb rfl)) ZK)) rfl (by decide) (by decide) (Zr hS _ hk hx _ (Nat.le_refl _)) (jo hJ hx), fun a _ _ hx _ _ => XP (us := [a.eval (Go.Operand.const (Go.Value.int Go.IntKind.i64 23)), a.eval (Go.Operand.const (Go.Value.int Go.IntKind.i64 1))]) Zcj rfl (by simp) (Zk (Rel.of_lit (Go.Value.int Go.IntKind.i64 23)) (Zk (Rel.of_lit (Go.Value.int Go.IntKind.i64 1)) ZK)) rfl hx, fun _ _ _ hx hl _ => ZaF (xs := ([Zb3, Zat] : List ByteArray)) Q5 rfl (hl.D 3 8 rfl rfl) (hl.D 4 9 rfl rfl) hx, fun a _ hk hx _ _ => Y9 (k := 4) (us := [a.eval (Go.Operand.const (Go.Value.string { data := #[40] })), a.eval (Go.Operand.const (Go.Value.string { data := #[97, 120, 45, 49] })), a.eval (Go.Operand.const (Go.Value.string { data := #[41] })), a.eval (Go.Operand.const (Go.Value.string { data := #[65, 66, 67] }))]) Zh Xe rfl (by simp) (Zk (Rel.of_lit (Go.Value.string { data := #[40] }) (lb rfl)) (Zk (Rel.of_lit (Go.Value.string { data := #[97, 120, 45, 49] }) (lb rfl)) (Zk (Rel.of_lit (Go.Value.string { data := #[41] }) (lb rfl)) (Zk (Rel.of_lit (Go.Value.string { data := #[65, 66, 67] }) (lb rfl)) ZK)))) rfl (by decide) (by decide) (Zr hS _ hk hx _ (Nat.le_refl _)) (jo hJ hx), fun _ _ _ hx _ _ => YD (ps := []) (us := [.int .i64 0, .int .i64 0]) ZaU rfl (by simp) ZfG rfl (YL (.lit _ True.intro) (YL (.lit _ True.intro) ZK)) hx, fun _ _ _ hx hl _ => ZaF (xs := ([opT, Zat, clT, (⟨#[65, 66, 67]⟩ : ByteArray)] : List ByteArray)) Q5 rfl (hl.D 6 11 rfl rfl) (hl.D 7 12 rfl rfl) hx, fun a _ hk hx _ _ => Y9 (k := 3) (us := [a.eval (Go.Operand.const (Go.Value.string { data := #[40] })), a.eval (Go.Operand.const (Go.Value.string { data := #[41] })), a.eval (Go.Operand.const (Go.Value.string { data := #[65, 66, 68] }))]) Zh Xe rfl (by simp) (Zk (Rel.of_lit (Go.Value.string { data := #[40] }) (lb rfl)) (Zk (Rel.of_lit (Go.Value.string { data := #[41] }) (lb rfl)) (Zk (Rel.of_lit (Go.Value.string { data := #[65, 66, 68] }) (lb rfl)) ZK))) rfl (by decide) (by decide) (Zr hS _ hk hx _ (Nat.le_refl _)) (jo hJ hx), fun a _ _ hx _ _ => YD (ps := [(0, a.eval (Go.Operand.const (Go.Value.int Go.IntKind.i64 21)))]) (us := [a.eval (Go.Operand.const (Go.Value.int Go.IntKind.i64 21)), .int .i64 0]) ZaU rfl (by simp) (Zec (lb rfl) rfl ZfG) rfl (Zk (Rel.of_lit (Go.Value.int Go.IntKind.i64 21)) (YL (.lit _ True.intro) ZK)) hx, fun _ _ _ hx hl _ => ZaF (xs := ([opT, clT, (⟨#[65, 66, 68]⟩ : ByteArray)] : List ByteArray)) Q5 rfl (hl.D 9 14 rfl rfl) (hl.D 10 15 rfl rfl) hx, fun a _ hk hx _ _ => Y9 (k := 3) (us := [a.eval (Go.Operand.const (Go.Value.string { data := #[119, 112, 115] })), a.eval (Go.Operand.const (Go.Value.string { data := #[119, 112, 104] })), a.eval (Go.Operand.const (Go.Value.string { data := #[97, 120, 45, 49] }))]) Zh Xe rfl (by simp) (Zk (Rel.of_lit (Go.Value.string { data := #[119, 112, 115] }) (lb rfl)) (Zk (Rel.of_lit (Go.Value.string { data := #[119, 112, 104] }) (lb rfl)) (Zk (Rel.of_lit (Go.Value.string { data := #[97, 120, 45, 49] }) (lb rfl)) ZK))) rfl (by decide) (by decide) (Zr hS _ hk hx _ (Nat.le_refl _)) (jo hJ hx), fun a _ _ hx _ _ => XP (us := [a.eval (Go.Operand.const (Go.Value.int Go.IntKind.i64 28)), a.eval (Go.Operand.const (Go.Value.int Go.IntKind.i64 3))]) Zcj rfl (by simp) (Zk (Rel.of_lit (Go.Value.int Go.IntKind.i64 28)) (Zk (Rel.of_lit (Go.Value.int Go.IntKind.i64 3)) ZK)) rfl hx, fun _ _ _ hx hl _ => ZaF (xs := ([ZeM, Zb3, Zat] : List ByteArray)) Q5 rfl (hl.D 12 17 rfl rfl) (hl.D 13 18 rfl rfl) hx, fun a w hk hx hl _ => Zf5 (z := #[.slice none 0 0, .int .i64 0, .int .i64 0]) (cs := [exC (⟨([Zb3, ZeM, Zat] : List ByteArray), (⟨0, 0⟩ : Int × Int)⟩ : Exm), exC (⟨([Zb3, Zat] : List ByteArray), (⟨(23 : Int), (1 : Int)⟩ : Int × Int)⟩ : Exm), exC (⟨([opT, Zat, clT, (⟨#[65, 66, 67]⟩ : ByteArray)] : List ByteArray), (⟨0, 0⟩ : Int × Int)⟩ : Exm), exC (⟨([opT, clT, (⟨#[65, 66, 68]⟩ : ByteArray)] : List ByteArray), (⟨(21 : Int), 0⟩ : Int × Int)⟩ : Exm), exC (⟨([ZeM, Zb3, Zat] : List ByteArray), (⟨(28 : Int), (3 : Int)⟩ : Int × Int)⟩ : Exm)]) (vs := [a.eval (Go.Operand.tmp 7), a.eval (Go.Operand.tmp 10), a.eval (Go.Operand.tmp 13), a.eval (Go.Operand.tmp 16), a.eval (Go.Operand.tmp 19)]) Zcw (fun w => by kernel_rfl) rfl (by simp) (Za (hl.D 2 7 rfl rfl) (Za (hl.D 5 10 rfl rfl) (Za (hl.D 8 13 rfl rfl) (Za (hl.D 11 16 rfl rfl) (Za (hl.D 14 19 rfl rfl) Ze))))) (of_decide_eq_true rfl) rfl (by decide) (by decide) (by decide) (Zr hS _ hk hx _ (Nat.le_refl _)) (jo hJ hx), YE Zjd, trivial⟩ ?_))
 refine kw (sa 5 rfl (show (.rd (exsC ([(⟨([Zb3, ZeM, Zat] : List ByteArray), (⟨0, 0⟩ : Int × Int)⟩ : Exm), (⟨([Zb3, Zat] : List ByteArray), (⟨(23 : Int), (1 : Int)⟩ : Int × Int)⟩ : Exm), (⟨([opT, Zat, clT, (⟨#[65, 66, 67]⟩ : ByteArray)] : List ByteArray), (⟨0, 0⟩ : Int × Int)⟩ : Exm), (⟨([opT, clT, (⟨#[65, 66, 68]⟩ : ByteArray)] : List ByteArray), (⟨(21 : Int), 0⟩ : Int × Int)⟩ : Exm), (⟨([ZeM, Zb3, Zat] : List ByteArray), (⟨(28 : Int), (3 : Int)⟩ : Int × Int)⟩ : Exm)])) : AV) = .rd (exsC exsD) from rfl)) ?_
 refine kw (sa 6 rfl (show (.int (([(⟨([Zb3, ZeM, Zat] : List ByteArray), (⟨0, 0⟩ : Int × Int)⟩ : Exm), (⟨([Zb3, Zat] : List ByteArray), (⟨(23 : Int), (1 : Int)⟩ : Int × Int)⟩ : Exm), (⟨([opT, Zat, clT, (⟨#[65, 66, 67]⟩ : ByteArray)] : List ByteArray), (⟨0, 0⟩ : Int × Int)⟩ : Exm), (⟨([opT, clT, (⟨#[65, 66, 68]⟩ : ByteArray)] : List ByteArray), (⟨(21 : Int), 0⟩ : Int × Int)⟩ : Exm), (⟨([ZeM, Zb3, Zat] : List ByteArray), (⟨(28 : Int), (3 : Int)⟩ : Int × Int)⟩ : Exm)]).length : Nat) : AV) = .int (exsD.length : Nat) from rfl)) ?_
 refine nx (ln 0 fun hl1 => ?_)
 refine ln 1 fun hl2 => ?_
 refine ln 2 fun hl3 => ?_
 refine ln 3 fun hl4 => ?_
 refine ln 4 fun hl5 => ?_
 refine ln 5 fun hl6 => ?_
 refine Zg (lpo (ι := Nat) (fun k => (k ≤ exsD.length)) (fun _ => []) (fun k => [(22, .int (k : Nat))]) (fun k => exsD.length - k) [5,6,7] [_,_] 0 (show (0 ≤ exsD.length) from Nat.zero_le _) ?_)
 rintro k hF
 have f1_1 : k ≤ exsD.length := hF
 refine qso tb hJ [0,1,2,1000] [_] [_,_,_,_] ?_
 refine cjS 3 (fun hb1 => ?_) fun hb1 => ?_
 try simp at hb1
 refine Zf (nx (Zo (Zg (tsq ?_))))
 refine sq (.ptr (exC (ge exsD k))) rfl rfl (lb rfl) (fun _ _ h => Yc (i := (k : Int)) Zcw rfl (h.get 0 rfl) (h.get 2 rfl) (Int.natCast_nonneg _) (Yo (xs := exsD) (k := k) (by first | omega | (simp; omega) | grind [Zc])) rfl h.x) ?_
 refine sq (.agg (exC (ge exsD k))) rfl rfl (lb rfl) (fun _ _ h => Zbn Zps rfl (h.get 0 rfl) (Nat.le_refl _) h.x) ?_
 refine XZ (cs := exC (ge exsD k)) Zm8 rfl rfl rfl (lb rfl) rfl rfl rfl (by decide) (m := 0) rfl rfl (fun a w h => Zr hS _ h.keep h.x _ (Nat.le_refl _)) (fun a w h w' hk' => Yl hJ _ _ hk' h.x) ?_
 refine seK [0,3,4,5] [_,_,_,_] rfl ?_
 refine nx (tsq ?_)
 refine sq (.ptr (exC (ge exsD k))) rfl rfl (lb rfl) (fun _ _ h => ZU ZjT rfl (h.get 0 rfl) h.x) ?_
 refine snK 1 tb rfl ?_
 refine sq (.agg (dbC (Z3 ((ge exsD k).proof)))) rfl rfl (lb rfl) (fun _ _ h => Ze1 (Zm6 hJ (p := ((ge exsD k).proof)) ) Zso rfl (Zr hS _ h.keep h.x) (h.x.1) (Za (h.get 0 rfl) Ze) (jo hJ h.x)) ?_
 refine sq (.tup [.agg (vdC ((XY (Z3 ((ge exsD k).proof)) (1 : Int)).1)), .int ((XY (Z3 ((ge exsD k).proof)) (1 : Int)).2)]) rfl rfl (lb rfl) (fun _ _ h => Ze1 (Zdd hJ (d := (Z3 ((ge exsD k).proof))) (z := (1 : Int)) (by exact sam_hw _) (by exact hG) (by exact sam_pl (by omega))) ZmA rfl (Zr hS _ h.keep h.x) (h.x.1) (Za (h.get 0 rfl) (Za (Rel.of_lit (Go.Value.int Go.IntKind.i64 1)) Ze)) (jo hJ h.x)) ?_
 refine snK 3 tb rfl ?_
 refine XZ (cs := vdC ((XY (Z3 ((ge exsD k).proof)) (1 : Int)).1)) ZeO rfl rfl rfl (lb rfl) rfl rfl rfl (by decide) (m := 1) rfl rfl (fun a w h => Zr hS _ h.keep h.x _ (Nat.le_refl _)) (fun a w h w' hk' => Yl hJ _ _ hk' h.x) ?_
 refine snK 1 tb rfl ?_
 refine seK [0,1,7,9,10,11,12] [_,_,_,_,_,_,_] rfl ?_
 refine nx (ln 2 fun hl7 => ?_)
 refine ZN tb hJ [4,5,6,1007] [_,_,_,_,.ptr [.lit (.int .i64 ((ge exsD k).v.1)), .lit (.int .i64 ((ge exsD k).v.2))],_,.bool (!(decide (((XY (Z3 ((ge exsD k).proof)) (1 : Int)).1).1 = ((ge exsD k).v.1)) && decide (((XY (Z3 ((ge exsD k).proof)) (1 : Int)).1).2 = ((ge exsD k).v.2)))),_] [4,6] [_,_,_,_] rfl ⟨fun _ _ _ hx hl _ => ZU ZjS rfl (hl.env 3 2 _ rfl rfl) hx, fun _ _ _ hx hl hc => r_neqV eqVd rfl (hl.D 3 36 rfl hc) (hl.D 5 38 rfl hc) hx, trivial⟩ ?_
 refine cj 3 (fun hb2 => ?_) fun hb2 => ?_
 try simp at hb2
 exact False.elim (by have h9 := ZqE (k := k) (by omega); simp [h9] at hb2)
 try simp at hb2
 refine Zf (nx (YW tb hJ [0,1,1001] [.int (k + 1 : Nat),_] [0] [_,_,_] rfl ⟨Yv, trivial⟩ ?_))
 exact Xp (k + 1) [0,1,2] (show ((k + 1) ≤ exsD.length) from by omega)
 try simp at hb1
 refine ZA (nx (qso tb hJ [1000] [_] [_] ?_))
 exact Zi (Qm (m := 0) rfl rfl rfl)
end Go.Proofs.YtgifeodnngodiaaGreatDoor
namespace Go.Proofs.YtgifeodnngodiaaGreatDoor
section
variable {fs gs : List Fr} {vars : List ByteArray} {f : Fr} {xs : List Itm} {M : List (ByteArray × Int)} {N : Nat} {d : Db} {m : Nat}
theorem Zjm (h : ∀ i, i < N → ge fs i = ge gs i) (hx : ∀ k, (ge xs k).kind = 2 → 0 ≤ (ge xs k).number ∧ (ge xs k).number < (N : Int)) (s : Ms) : ZS fs vars f xs s = ZS gs vars f xs s := by
 have hk : YJ fs vars f s.sk s.tg (ge xs s.n) = YJ gs vars f s.sk s.tg (ge xs s.n) := by
  unfold YJ
  by_cases h1 : (ge xs s.n).kind = 1
  · rw [if_pos h1, if_pos h1]
  · rw [if_neg h1, if_neg h1]
    by_cases h2 : (ge xs s.n).kind = 2
    · have h3 := hx _ h2
      rw [if_pos h2, if_pos h2, h _ (by omega)]
    · rw [if_neg h2, if_neg h2]
 unfold ZS
 rw [hk]
theorem ZfY (h : ∀ i, i < N → ge fs i = ge gs i) (hx : ∀ k, (ge xs k).kind = 2 → 0 ≤ (ge xs k).number ∧ (ge xs k).number < (N : Int)) : ∀ (j : Nat) (s : Ms), Zd1 fs vars f xs j s = Zd1 gs vars f xs j s
 | 0, _ => rfl
 | j + 1, s => by
  show Zd1 fs vars f xs j (ZS fs vars f xs s) = Zd1 gs vars f xs j (ZS gs vars f xs s)
  rw [Zjm h hx s, ZfY h hx j]
theorem Zkh (h : ∀ i, i < N → ge fs i = ge gs i) (hM : Zeb M N) (hf : Zfd f) (hN : N ≤ fs.length) (t : List ByteArray) : ZcX fs vars f M t = ZcX gs vars f M t := by
 unfold ZcX
 refine congrArg Ms.v (ZfY h (fun k hk => ?_) _ _)
 unfold Y8 at hk ⊢
 split at hk
 · rw [show ge ([] : List Itm) k = default from by simp [ge]] at hk; cases hk
 · rename_i xs hr
   have h1 := Zhi (fs := fs.take N) (by rw [List.length_take, Nat.min_eq_left hN]; exact hM) hf hr
   change (ge xs k).kind = 2 at hk
   show 0 ≤ (ge xs k).number ∧ (ge xs k).number < (N : Int)
   by_cases hlt : k < xs.length
   · have := (h1.2 k hlt).1.2.2.1 hk
     rw [List.length_take, Nat.min_eq_left hN] at this
     exact this
   · rw [show ge xs k = default from by simp [ge, List.getD_eq_getElem?_getD, List.getElem?_eq_none (Nat.le_of_not_lt hlt)]] at hk
     cases hk
theorem Zkv {z : Int} : (XY d z).2 = Qz d z := by unfold XY; split <;> simp_all
end
end Go.Proofs.YtgifeodnngodiaaGreatDoor
namespace Go.Proofs.YtgifeodnngodiaaGreatDoor
open Go.RowKit
section
variable {n : Rn} {P : Program} {X : World → Prop} {S S' : Nat → Prop} {o : Oper} {a : Act} {w : World} {s d : TypeId} {x : Operand}
end
section
variable {n : Rn} {P : Program} {J : World → Prop} {S : Nat → Prop} {O : List OB} {w0 : World}
theorem ZkC {w w' : World} {v : Value} {e : TypeId} {size : Nat} {rows : List (List CD)} {O1 : List OB} (hS : ∀ b, w0.heap.size ≤ b → S b) (h : Zaa J S w0 O1 w (OB.row v e size rows :: O) w') : Rel (SO S O) w' (.rd (.sl rows)) v ∧ Zaa J S w0 O1 w O w' := by
 obtain ⟨hk, hx, hr⟩ := h
 have hi := hx.2.1 (OB.row v e size rows) (by simp)
 have hfree : ∀ k, (OB.row v e size rows).blk k → SO S O k := fun k hk => ⟨hS k ((OB.row v e size rows).lt hi k hk).1, fun p hp => (List.pairwise_cons.1 hx.2.2).1 p hp k hk⟩
 refine ⟨ZfZ (fun k hk => hfree k hk) (OB.sub hi fun k _ hk => hk.drop), hk, ⟨hx.1, fun p hp => OB.sub (hx.2.1 p (by simp [hp])) fun _ _ hk => hk.drop, (List.pairwise_cons.1 hx.2.2).2⟩, fun av u hu => (hr av u hu).sub fun k _ hk => hk.drop⟩
theorem ZgJ {α : Type} {f : α → List CD} {o : Oper} {a : Act} {w : World} {t e : TypeId} {size bytes : Nat} {x y : Operand} {v : Value} (xs ys : List α) (hf : ∀ x, (f x).length = size) (ht : ZfI P t e size bytes) (hS : ∀ b, w0.heap.size ≤ b → S b) (hJ : Stab J) (hJ0 : J w0)
 (hop : o.op = .call { callee := .builtin .append, args := #[x, y], argTypes := #[t, t] }) (hk : Keeps All w0 w) (hx : XO J S w0.heap.size (OB.row v e size (xs.map f) :: O) w)
 (hv : a.eval x = v) (hy : Rel (SO S (OB.row v e size (xs.map f) :: O)) w (.rd (.sl (ys.map f))) (a.eval y)) (hb : (xs.length + ys.length) * bytes ≤ 140737488355328) (h63 : xs.length + ys.length ≤ 9223372036854775807) :
 Z5 n P o a w fun v' w' => Rel (SO S O) w' (.rd (.sl ((xs ++ ys).map f))) v' ∧ Zaa J S w0 (OB.row v e size (xs.map f) :: O) w O w' :=
 Zs (YQ xs ys hf ht hJ hJ0 hop hk hx hv hy hb h63) fun _ _ h => ZkC hS h
end
end Go.Proofs.YtgifeodnngodiaaGreatDoor
