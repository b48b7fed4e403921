/-
  THE ENGINE: a part of an element of an own row; a store there that changes nothing.
  CONTRACTS of the library: a row of texts is sorted; each once.
  ALL PAIRS OF A LIST (plain).
  CONTRACTS of the program: copies of a database.
  THE LAW VerifyApart returns true.
-/
import Derived.Laws.Pointers
import Derived.Test.YtgifeodnngodiaaGreatDoorPAE
namespace Go.Proofs.YtgifeodnngodiaaGreatDoor
open Go.RowKit
section
variable {n : Rn} {N : Nat} {P : Program} {J X : World → Prop} {S S' S'' : Nat → Prop} {O : List OB} {w0 : World} {env : List (Nat × AV)} {Q : Exit → Act → World → Prop}
variable {o : Oper} {a : Act} {w : World} {x y : Operand} {t e : TypeId} {v : Value} {k : Nat} {rows : List (List CD)}
end
theorem Zor {J : World → Prop} {S S' : Nat → Prop} {O : List OB} {w0 : World} {n : Rn} {P : Program} {o : Oper} {a : Act} {w : World} {x y : Operand} {t : TypeId} {b off : Nat} {cs es : List CD} {c : CD} (hJ : Stab J) (hJ0 : J w0) (hs : XD P t 1) (hop : o.op = .store t x y) (hk0 : Keeps All w0 w) (hx : XO J S w0.heap.size (OB.var b cs :: O) w) (h1 : Rel S' w (.at b off) (a.eval x))
 (h2 : Rel (SO S (OB.var b cs :: O)) w (.rd c) (a.eval y)) (hl : off + 1 ≤ cs.length) (he : cs.take off ++ [c] ++ cs.drop (off + 1) = es) : Z5 n P o a w fun _ w' => Zaa J S w0 (OB.var b cs :: O) w (OB.var b es :: O) w' := by
 have h2' := h2
 simp only [Rel] at h2'
 exact Xm (news := [c]) (us := [a.eval y]) hJ hJ0 hs hop hk0 hx h1 (by rw [ZbV h2'.one]) ⟨h2', trivial⟩ hl he
set_option maxHeartbeats 8000000
set_option maxRecDepth 100000
section
open Go.Sort Go.Shelf
theorem Zj2 (x : ByteArray) : encStr x.data.toList = .string x := by simp [encStr]
theorem Zkx {α : Type} [Inhabited α] (enc : α → Value) (cur : Array Value) (F : Array α) (h : F.size ≤ cur.size) : (putCells enc 0 F cur).toList.take F.size = F.toList.map enc := by
 apply List.ext_getElem?
 intro t
 rw [List.getElem?_take]
 split
 · rename_i h1
   have h2 : t < cur.size := by omega
   simp [putCells, h1, h2]
 · rename_i h1
   rw [List.getElem?_eq_none (by simpa using h1)]
theorem ZkG {S : Nat → Prop} {w : World} : ∀ {xs : List ByteArray} {us : List Value}, RdL S w (xs.map Xx).flatten us → us = xs.map Value.string ∧ ∀ x ∈ xs, x.size ≤ maxLen
 | [], us, h => by
  have := h.length
  simp at this
  exact ⟨by simpa using this, by simp⟩
 | x :: xs, us, h => by
  match us, h with
  | u :: us, ⟨h1, h3⟩ =>
   obtain ⟨e, hb⟩ := ZkG (xs := xs) h3
   have ok1 : x.size ≤ maxLen := by cases h1 with | lit _ hv => exact hv
   refine ⟨by rw [h1.of_lit, e]; rfl, fun q hq => ?_⟩
   rcases List.mem_cons.1 hq with rfl | hq
   · exact ok1
   · exact hb q hq
theorem st_rd {S : Nat → Prop} {w : World} : ∀ {xs : List ByteArray}, (∀ x ∈ xs, x.size ≤ maxLen) → RdL S w (xs.map Xx).flatten (xs.map Value.string)
 | [], _ => trivial
 | x :: xs, h => ⟨.lit _ (h x (by simp)), st_rd fun q hq => h q (by simp [hq])⟩
theorem Zq5 {J : World → Prop} (hJ : Stab J) (v : Value) (xs : List ByteArray) (hn : xs.length ≤ 140737488355328) : FnM (ι := {ys : List ByteArray // ys.Perm xs}) Tryz.prog J 24 [] [.lit v] [OB.row v 9 1 (xs.map Xx)] (fun _ => .tup []) (fun i => [OB.row v 9 1 (i.1.map Xx)]) := by
 intro S w0 R w vs hS hJ0 hH hk hx ha
 simp only [RelL] at ha
 obtain ⟨u, _, rfl, h1, rfl⟩ := ha
 obtain rfl := h1.lit
 have hi := hx.2.1 (OB.row u 9 1 (xs.map Xx)) (by simp)
 obtain ⟨us, ⟨hul, hrow⟩, hrd, h3⟩ := hi
 rcases hrow with ⟨rfl, hz⟩ | ⟨g, cap, cur, rfl, hb, hg, hnc, hcm, hcs, ht⟩
 · have hps : xs = [] := by simpa using hz
   subst hps
   refine (Tryz.slices_Sort_string_none none 0 w).mono ?_
   rintro e w' ⟨rfl, rfl⟩
   exact ⟨⟨[], .refl _⟩, _, rfl, by simp only [Rel, RelL]; exact ⟨[], rfl, rfl⟩, hk, hx⟩
 · obtain ⟨hus, hok⟩ := ZkG hrd
   have hlen : (xs.map Xx).length = xs.length := List.length_map _
   rw [hlen] at hnc ht hul
   have hgl : g < w.heap.size := (Array.getElem?_eq_some_iff.1 hg).1
   have hfz : ∀ j, w.frozen? ⟨g, j, none⟩ = false := fun j => by simp [World.frozen?, hg]
   obtain ⟨ss, hss⟩ : ∃ ss : List (List UInt8), ss = xs.map fun x => x.data.toList := ⟨_, rfl⟩
   have hsl : ss.length = xs.length := by rw [hss, List.length_map]
   have hsx : ss.map encStr = xs.map Value.string := by rw [hss, List.map_map]; exact List.map_congr_left fun x _ => Zj2 x
   have hH : Holds encStr w g 0 ss.toArray := fun j hj => by
    refine ⟨?_, hfz _⟩
    have hj2 : j < xs.length := by rw [← hsl]; simpa using hj
    have e1 : cur.toList[j]? = some (encStr (ss.toArray[j]!)) := by
     have e2 : (cur.toList.take (xs.length * 1))[j]? = cur.toList[j]? := by rw [List.getElem?_take, if_pos (by omega)]
     have hj3 : j < ss.length := by omega
     rw [← e2, ht, hus, ← hsx, List.getElem?_map, List.getElem?_eq_getElem hj3, getElem!_pos _ j hj]
     rfl
    rw [Nat.zero_add]
    simp only [World.cell?, hg]
    simpa using e1
   have hcall := Tryz.slices_Sort_string g 0 cap ss w hH hgl (by omega)
   rw [hsl] at hcall
   rw [hlen]
   refine hcall.mono ?_
   rintro e w' ⟨rfl, n, os, rfl⟩
   generalize hq : (ss.mergeSort fun x y => decide (x ≤ y)) = qs
   have hperm : qs.Perm ss := hq ▸ List.mergeSort_perm _ _
   obtain ⟨ys, hys⟩ : ∃ ys : List ByteArray, ys = qs.map fun l => ⟨l.toArray⟩ := ⟨_, rfl⟩
   have hyp : ys.Perm xs := by
    rw [hys]
    have h9 := hperm.map fun l : List UInt8 => (⟨l.toArray⟩ : ByteArray)
    have e9 : ss.map (fun l : List UInt8 => (⟨l.toArray⟩ : ByteArray)) = xs := by rw [hss, List.map_map]; exact (List.map_congr_left fun x _ => rfl).trans (List.map_id _)
    rw [e9] at h9
    exact h9
   have hyl : ys.length = xs.length := hyp.length_eq
   have hye : qs.map encStr = ys.map Value.string := by rw [hys, List.map_map]; rfl
   have hql : qs.length = xs.length := by rw [← hyl, hys, List.length_map]
   have hheap : (grow (putRow encStr (Sort.ahead w n) g 0 qs.toArray) os).heap[g]? = some (.cells (putCells encStr 0 qs.toArray cur) 9) := by
    rw [heap_grow_old _ _ (by simpa [Sort.ahead] using hgl)]
    show ((Sort.ahead w n).heap.modify g _)[g]? = _
    rw [Array.getElem?_modify, if_pos rfl]
    show (w.heap[g]?).map _ = _
    rw [hg]
    rfl
   have hkk : Keeps (fun k => k ≠ g) w (grow (putRow encStr (Sort.ahead w n) g 0 qs.toArray) os) := by
    refine ⟨?_, ?_, ?_, ?_, ?_⟩
    · simp [grow, putRow, mapBlock, Sort.ahead]
    · simp [grow, putRow, mapBlock, Sort.ahead]
    · simp [grow, putRow, mapBlock, Sort.ahead]
    · simp [grow, putRow, mapBlock, Sort.ahead]
    · intro k hk hne
      rw [heap_grow_old _ _ (by simpa [Sort.ahead] using hk)]
      show ((Sort.ahead w n).heap.modify g _)[k]? = _
      rw [Array.getElem?_modify, if_neg (fun e => hne e.symm)]
      rfl
   have hk0 : Keeps All w0 (grow (putRow encStr (Sort.ahead w n) g 0 qs.toArray) os) := hk.upto' hkk fun k hk0 e => by subst e; omega
   have hok' : ∀ x ∈ ys, x.size ≤ maxLen := fun x hx => hok x (hyp.mem_iff.1 hx)
   have hinv : (OB.row (.slice (some ⟨g, 0, none⟩) xs.length cap) 9 1 (ys.map Xx)).inv w0.heap.size (SO S ([OB.row (.slice (some ⟨g, 0, none⟩) xs.length cap) 9 1 (ys.map Xx)] ++ R)) (grow (putRow encStr (Sort.ahead w n) g 0 qs.toArray) os) := by
    have hl2 : (ys.map Xx).length = xs.length := by rw [List.length_map, hyl]
    refine ⟨ys.map Value.string, ⟨?_, .inr ⟨g, cap, putCells encStr 0 qs.toArray cur, by rw [hl2], hb, hheap, by rw [hl2]; exact hnc, hcm, by simpa [putCells] using hcs, ?_⟩⟩, st_rd hok', fun r hr => by obtain ⟨p, _, rfl⟩ := List.mem_map.1 hr; rfl⟩
    · rw [hl2, List.length_map, hyl, Nat.mul_one]
    · rw [hl2, ← hye]
      have := Zkx encStr cur qs.toArray (by rw [List.size_toArray, hql, hcs]; omega)
      rw [List.size_toArray, hql] at this
      rw [Nat.mul_one]
      exact this
   refine ⟨⟨ys, hyp⟩, _, rfl, by simp only [Rel, RelL]; exact ⟨[], rfl, rfl⟩, hk0, ?_⟩
   have hx1 := hx
   rw [hlen] at hx1
   have := ZfK (o' := OB.row (.slice (some ⟨g, 0, none⟩) xs.length cap) 9 1 (ys.map Xx)) hx1 (hJ _ _ hk0 hJ0) (hkk.sub fun k _ hk => fun e => hk (by show (OB.row (.slice (some ⟨g, 0, none⟩) xs.length cap) 9 1 (xs.map Xx)).blk k; rw [e]; rfl)) (fun k hk => .inl hk) hinv
   exact this.1
end
theorem ZjF {J : World → Prop} (hJ : Stab J) (v : Value) (ps : List ByteArray) (hn : ps.length ≤ 9223372036854775807) : FnM (ι := Value) Tryz.prog J 25 [] [.lit v] [OB.row v 9 1 (ps.map Xx)] (fun i' => .lit (i')) (fun i' => [OB.row i' 9 1 ((Zch ps ps.length).map Xx)]) := by
 refine Z6 (N := 61) Tryz.func25 rfl rfl (lb rfl) fun S w0 R hS hJ0 hH => ?_
 refine Ya (B := St All (SO S (OB.row v 9 1 (ps.map Xx) :: R)) w0 61 [(0, .lit v)] (XO J S w0.heap.size (OB.row v 9 1 (ps.map Xx) :: R))) ?_ fun a w h => h
 refine qso tb hJ [0] [_] [_] ?_
 refine Zo (ZN tb hJ [0,1002] [_,.int (ps.length : Nat),_] [1] [_,_] rfl ⟨fun _ _ _ hx hl _ => Za3 (by rw [List.length_map]) Zw rfl (Zd hx (mo 0 rfl)) (hl.D 0 6 rfl rfl) hx, trivial⟩ ?_)
 refine cj 1 (fun hb1 => ?_) fun hb1 => ?_
 try simp at hb1
 refine qso tb hJ [1001] [_,_] [_] ?_
 refine tw (ob0 (congrArg (fun z' => OB.row v 9 1 ((z').map Xx)) (show ps = (Zch ps ps.length) from by first | exact ZdN (by omega) | exact (f2_5.trans (by congr 1; omega)) | exact ZhH (by omega) f1_2 f1_3))) ?_
 exact Zi (fun a w h => ZP  (m := 0) v rfl h rfl rfl)
 try simp at hb1
 refine Zf (nx (Zo (qso tb hJ [0,1000] [_] [_,_] ?_)))
 refine Zg (lpo (ι := Nat) (fun k => (1 ≤ k) ∧ (k ≤ ps.length) ∧ (Zch ps k = ps.take k)) (fun _ => (OB.row v 9 1 (ps.map Xx) :: R)) (fun k => [(3, .int (k : Nat))]) (fun k => ps.length - k) [0,1] [_] 1 ⟨by omega, by omega, ZrU (by omega)⟩ ?_)
 rintro k ⟨f1_1, f1_2, f1_3⟩
 refine Zo (ZN tb hJ [0,1,1003] [_,_,.int (ps.length : Nat),_] [2] [_,_,_] rfl ⟨fun _ _ _ hx hl _ => Za3 (by rw [List.length_map]) Zw rfl (Zd hx (mo 0 rfl)) (hl.D 1 11 rfl rfl) hx, trivial⟩ ?_)
 refine cj 2 (fun hb2 => ?_) fun hb2 => ?_
 try simp at hb2
 refine Zf (nx (Zo (Zg (ZN tb hJ [0,1,1009] [_,_,.lit (Xo v (k * 1)),.str (ge ps k),_,_,.int (k - 1 : Nat),.lit (Xo v ((k - 1) * 1)),.str (ge ps (k - 1)),_] [2,3,6,7,8] [_,_,_] rfl ⟨fun _ _ _ hx hl _ => YH (i := (k : Int)) Zh rfl (Zd hx (mo 0 rfl)) (hl.D 0 16 rfl rfl) (hl.D 1 17 rfl rfl) (Int.natCast_nonneg _) (by rw [List.length_map]; exact Int.ofNat_lt.2 (by first | omega | (simp; omega) | grind [Zc])) hx, fun _ _ _ hx hl _ => YU (i := k) Qf rfl (Zd hx (mo 0 rfl)) (hl.D 2 18 rfl rfl) (X0 (xs := ps) (k := k) (by first | omega | (simp; omega) | grind [Zc])) hx, fun _ _ _ hx hl _ => Zif (i := k) (j := 1) rfl (hl.D 5 21 rfl rfl) (Rel.of_lit (Go.Value.int Go.IntKind.i64 1)) (by first | omega | (simp; omega) | grind [Zc]) (by first | omega | (simp; omega) | grind [Zc]) hx, fun _ _ _ hx hl _ => YH (i := ((k - 1 : Nat) : Int)) Zh rfl (Zd hx (mo 0 rfl)) (hl.D 4 20 rfl rfl) (hl.D 6 22 rfl rfl) (Int.natCast_nonneg _) (by rw [List.length_map]; exact Int.ofNat_lt.2 (by first | omega | (simp; omega) | grind [Zc])) hx, fun _ _ _ hx hl _ => YU (i := k - 1) Qf rfl (Zd hx (mo 0 rfl)) (hl.D 7 23 rfl rfl) (X0 (xs := ps) (k := k - 1) (by first | omega | (simp; omega) | grind [Zc])) hx, trivial⟩ ?_))))
 refine cj 2 (fun hb3 => ?_) fun hb3 => ?_
 try simp at hb3
 have e3 : ge ps k = ge ps (k - 1) := hb3
 refine ZN tb hJ [0,1,1003] [_,_,.lit (Zd0 v k 1),_] [2] [_,_,_] rfl ⟨fun _ _ _ hx hl _ => Zc9 (lo := k) Zh rfl (Zd hx (mo 0 rfl)) (hl.D 0 26 rfl rfl) (hl.D 1 27 rfl rfl) (by rw [List.length_map]; exact (by first | omega | (simp; omega) | grind [Zc])) hx, trivial⟩ ?_
 refine Zo (qso tb hJ [0,1,2,1000] [_] [_,_,_,_] ?_)
 refine Zg (lpo (ι := Nat × Nat × (List ByteArray)) (fun (m, j, rs) => (1 ≤ m) ∧ (k + m ≤ ps.length) ∧ (rs.length = ps.length) ∧ (∀ i, k + m - 1 ≤ i → i < ps.length → ge rs i = ge ps i) ∧ (rs.take j = Zch ps (k + m)) ∧ (j ≤ k + m - 1) ∧ (k ≤ j)) (fun (_, _, rs) => (OB.row v 9 1 (rs.map Xx) :: R)) (fun (m, j, _) => [(5, .int (m : Nat)), (3, .int (j : Nat))]) (fun (m, _, _) => ps.length - (k + m)) [0,2,3,1] [_,_] (1, k, ps) ⟨Nat.le_refl _, by omega, rfl, fun _ _ _ => rfl, by rw [ZdM (by omega) e3, f1_3], Nat.le_refl _, Nat.le_refl _⟩ ?_)
 rintro ⟨m, j, rs⟩ ⟨f2_1, f2_2, f2_3, f2_4, f2_5, f2_6, f2_7⟩
 refine Zo (ZN tb hJ [0,1,2,3,1003] [_,_,.int (rs.length - k : Nat),_] [2] [_,_,_,_,_] rfl ⟨fun _ _ _ hx hl _ => Zig (by rw [List.length_map]) Zw rfl (Zd hx (mo 0 rfl)) (hl.D 1 30 rfl rfl) hx, trivial⟩ ?_)
 refine cj 4 (fun hb4 => ?_) fun hb4 => ?_
 try simp at hb4
 refine Zf (nx (Zo (Zg (ZN tb hJ [0,1,2,3,1009] [_,_,.lit (Xo v ((k + m) * 1)),.str (ge rs (k + m)),_,_,.int (m - 1 : Nat),.lit (Xo v ((k + (m - 1)) * 1)),.str (ge rs (k + (m - 1))),_] [2,3,6,7,8] [_,_,_,_,_] rfl ⟨fun _ _ _ hx hl _ => XM (lo := k) (i := (m : Int)) Zh rfl (Zd hx (mo 0 rfl)) (hl.D 0 35 rfl rfl) (hl.D 1 36 rfl rfl) (Int.natCast_nonneg _) (by rw [List.length_map]; exact (by first | omega | (simp; omega) | grind [Zc])) hx, fun _ _ _ hx hl _ => YU (i := (k + m)) Qf rfl (Zd hx (mo 0 rfl)) (hl.D 2 37 rfl rfl) (X0 (xs := rs) (k := (k + m)) (by first | omega | (simp; omega) | grind [Zc])) hx, fun _ _ _ hx hl _ => Zif (i := m) (j := 1) rfl (hl.D 5 40 rfl rfl) (Rel.of_lit (Go.Value.int Go.IntKind.i64 1)) (by first | omega | (simp; omega) | grind [Zc]) (by first | omega | (simp; omega) | grind [Zc]) hx, fun _ _ _ hx hl _ => XM (lo := k) (i := ((m - 1 : Nat) : Int)) Zh rfl (Zd hx (mo 0 rfl)) (hl.D 4 39 rfl rfl) (hl.D 6 41 rfl rfl) (Int.natCast_nonneg _) (by rw [List.length_map]; exact (by first | omega | (simp; omega) | grind [Zc])) hx, fun _ _ _ hx hl _ => YU (i := (k + (m - 1))) Qf rfl (Zd hx (mo 0 rfl)) (hl.D 7 42 rfl rfl) (X0 (xs := rs) (k := (k + (m - 1))) (by first | omega | (simp; omega) | grind [Zc])) hx, trivial⟩ ?_))))
 refine cj 4 (fun hb5 => ?_) fun hb5 => ?_
 try simp at hb5
 have e4 : ¬ ge ps (k + m) = ge ps (k + m - 1) := fun e => by rw [← f2_4 _ (by omega) (by omega), ← f2_4 _ (Nat.le_refl _) (by omega)] at e; rw [show k + (m - 1) = k + m - 1 by omega, e] at hb5; simp at hb5
 refine tsq ?_
 refine snK 4 tb rfl ?_
 refine sq (.lit (Xo v ((k + m) * 1))) rfl rfl (lb rfl) (fun _ _ h => XM (lo := k) (i := (m : Int)) Zh rfl (Zd h.x (mo 0 rfl)) (h.get 1 rfl) (h.get 0 rfl) (Int.natCast_nonneg _) (by rw [List.length_map]; exact (by first | omega | (simp; omega) | grind [Zc])) h.x) ?_
 refine sq (.str (ge rs (k + m))) rfl rfl (lb rfl) (fun _ _ h => YU (i := (k + m)) Qf rfl (Zd h.x (mo 0 rfl)) (h.get 0 rfl) (X0 (xs := rs) (k := (k + m)) (by first | omega | (simp; omega) | grind [Zc])) h.x) ?_
 refine sq (.lit (Xo v (j * 1))) rfl rfl (lb rfl) (fun _ _ h => YH (i := (j : Int)) Zh rfl (Zd h.x (mo 0 rfl)) (h.get 5 rfl) (h.get 4 rfl) (Int.natCast_nonneg _) (by rw [List.length_map]; exact Int.ofNat_lt.2 (by first | omega | (simp; omega) | grind [Zc])) h.x) ?_
 refine ZfR (i := j) hJ hJ0 ZeS rfl rfl rfl (by rw [List.length_map]; exact (by first | omega | (simp; omega) | grind [Zc])) (fun a w h => ⟨(h.get 0 rfl), (h.get 1 rfl)⟩) ?_
 rw [show (rs.map Xx).set j [.lit (.string (ge rs (k + m)))] = (rs.set j (ge rs (k + m))).map Xx from List.map_set.symm]
 refine seK [7,8,9,10] [_,_,_,_] rfl ?_
 refine nx (YW tb hJ [0,1,2,1002] [_,.int (j + 1 : Nat),_] [1] [_,_,_,_] rfl ⟨Yv, trivial⟩ ?_)
 refine nx (YW tb hJ [0,1,3,1002] [_,.int (m + 1 : Nat),_] [1] [_,_,_,_] rfl ⟨Yv, trivial⟩ ?_)
 exact Xp (m + 1, j + 1, rs.set j (ge rs (k + m))) [0,1,3,2] ⟨by omega, by omega, by rw [List.length_set]; exact f2_3, fun i h1 h2 => by rw [ZrC (by omega)]; exact f2_4 i (by omega) h2, by rw [Zkw (by omega), f2_5, f2_4 _ (by omega) (by omega)]; exact (Zfi (.inr e4)).symm, by omega, by omega⟩
 try simp at hb5
 have e4 : ge ps (k + m) = ge ps (k + m - 1) := by rw [← f2_4 _ (by omega) (by omega), ← f2_4 (k + m - 1) (Nat.le_refl _) (by omega)]; rw [show k + (m - 1) = k + m - 1 by omega] at hb5; exact hb5
 refine Zf (nx (YW tb hJ [0,1,3,1002] [_,.int (m + 1 : Nat),_] [1] [_,_,_,_] rfl ⟨Yv, trivial⟩ ?_))
 exact Xp (m + 1, j, rs) [0,1,3,2] ⟨by omega, by omega, f2_3, fun i h1 h2 => f2_4 i (by omega) h2, by rw [f2_5]; exact (ZdM (by omega) e4).symm, by omega, f2_7⟩
 try simp at hb4
 refine ZA (nx (tsq ?_))
 refine snK 2 tb rfl ?_
 refine sq (.lit (Zd0 v j 1)) rfl rfl (lb rfl) (fun _ _ h => Zc9 (lo := j) Zh rfl (Zd h.x (mo 0 rfl)) (h.get 1 rfl) (h.get 0 rfl) (by rw [List.length_map]; exact (by first | omega | (simp; omega) | grind [Zc])) h.x) ?_
 refine ZcH (lo := j) Xe Zw (by decide) hJ hJ0 rfl rfl rfl (by rw [List.length_map]; exact (by first | omega | (simp; omega) | grind [Zc])) (fun a w h => (h.get 0 rfl)) ?_
 rw [← List.map_take]
 refine seK [3,6] [_,_] rfl ?_
 refine nx (ZN tb hJ [1003] [_,_,.lit (Zao v j),_] [2] [_] rfl ⟨fun _ _ _ hx hl _ => Zer (m := j) Zh rfl (Zd hx (mo 0 rfl)) (by first | rfl | (rw [List.length_map]; exact (by first | omega | (simp; omega) | grind [Zc]))) (hl.D 0 57 rfl rfl) (hl.D 1 58 rfl rfl) hx, trivial⟩ ?_)
 refine tw (ob0 (congrArg (fun z' => OB.row (Zao v j) 9 1 ((z').map Xx)) (show (rs.take j) = (Zch ps ps.length) from by first | exact ZdN (by omega) | exact (f2_5.trans (by congr 1; omega)) | exact ZhH (by omega) f1_2 f1_3))) ?_
 exact Zi (fun a w h => ZP  (m := 0) (Zao v j) rfl h rfl rfl)
 try simp at hb3
 have e3 : ¬ ge ps k = ge ps (k - 1) := hb3
 refine Zf (nx (YW tb hJ [0,1002] [_,.int (k + 1 : Nat),_] [1] [_,_] rfl ⟨Yv, trivial⟩ ?_))
 exact Xp (k + 1) [0,1] ⟨by omega, by omega, Zou (by omega) f1_3 e3⟩
 try simp at hb2
 refine ZA (nx (qso tb hJ [1001] [_,_] [_] ?_))
 refine tw (ob0 (congrArg (fun z' => OB.row v 9 1 ((z').map Xx)) (show ps = (Zch ps ps.length) from by first | exact ZdN (by omega) | exact (f2_5.trans (by congr 1; omega)) | exact ZhH (by omega) f1_2 f1_3))) ?_
 exact Zi (fun a w h => ZP  (m := 0) v rfl h rfl rfl)
end Go.Proofs.YtgifeodnngodiaaGreatDoor
namespace Go.Proofs.YtgifeodnngodiaaGreatDoor
def prK (V : List ByteArray) (k : Nat) : List Pr := (List.range k).flatMap fun i => (V.drop (i + 1)).map fun y => ⟨ge V i, y⟩
theorem ZnF {V : List ByteArray} {k : Nat} : prK V (k + 1) = prK V k ++ (V.drop (k + 1)).map fun y => ⟨ge V k, y⟩ := by simp [prK, List.range_succ]
theorem Zlv {x y : ByteArray} (h : ¬ x = y) : Q9 ⟨y, x⟩ = Q9 ⟨x, y⟩ := by
 unfold Q9
 simp only
 cases h1 : Op.bytesLess x.toList y.toList with
 | true =>
  cases h2 : Op.bytesLess y.toList x.toList with
  | true =>
   have := ZcR _ _ _ h1 h2
   rw [Qx] at this
   cases this
  | false => rfl
 | false =>
  cases h2 : Op.bytesLess y.toList x.toList with
  | true => rfl
  | false =>
   exfalso
   have h3 := Ze7 (x := ⟨x, ⟨#[]⟩⟩) (y := ⟨y, ⟨#[]⟩⟩) (by simp [ltP, h1, Qx]) (by simp [ltP, h2, Qx])
   exact h (congrArg Pr.a h3)
theorem ZsC {U V : List ByteArray} (hV : ∀ x, x ∈ V ↔ x ∈ U) : Zqa U (prK V V.length) := by
 have key : ∀ i j, i < j → j < V.length → (⟨ge V i, ge V j⟩ : Pr) ∈ prK V V.length := fun i j hij hj => by
  refine List.mem_flatMap.2 ⟨i, by simp; omega, List.mem_map.2 ⟨ge V j, ?_, rfl⟩⟩
  rw [List.mem_drop_iff_getElem]
  exact ⟨j - (i + 1), by omega, by rw [YN hj]; congr 1; omega⟩
 intro x hx y hy hne
 obtain ⟨i, hi, rfl⟩ := Y2 ((hV x).2 hx)
 obtain ⟨j, hj, rfl⟩ := Y2 ((hV y).2 hy)
 rcases Nat.lt_or_ge i j with h | h
 · exact List.mem_map.2 ⟨_, key i j h hj, rfl⟩
 · have hne2 : ¬ i = j := fun e => hne (by rw [e])
   exact List.mem_map.2 ⟨_, key j i (by omega) hi, Zlv hne⟩
theorem Zkr {hs : List Hy} {h : Hy} : QA (hs ++ [h]) = QA hs ++ if h.floating then [ge h.text 1] else [] := by
 unfold QA
 rw [List.filter_append, List.map_append]
 cases hf : h.floating <;> simp [hf]
theorem ZbD {hs : List Hy} {k : Nat} (hk : k < hs.length) : QA (hs.take (k + 1)) = QA (hs.take k) ++ if (ge hs k).floating then [ge (ge hs k).text 1] else [] := by
 rw [ZQ hk, Zkr]
theorem Zh1 (hs : List Hy) : (QA hs).length ≤ hs.length := by
 unfold QA
 rw [List.length_map]
 exact List.length_filter_le _ _
theorem hy_two {d : Db} {k : Nat} (hc : ZcD d = 0) (hk : k < d.frames.length) : ∀ y ∈ (ge d.frames k).hyps ++ (ge d.frames k).dummies, y.floating = true → y.text.length = 2 := ZiA (Zl8 (ZgN hc k hk)).2
theorem hy_len {d : Db} {k : Nat} (hc : ZcD d = 0) (hk : k < d.frames.length) : (ge d.frames k).hyps.length ≤ 40 ∧ (ge d.frames k).dummies.length ≤ 40 := Zfe (ZgN hc k hk)
theorem Zpu {d : Db} {n : Nat} {wd ap : List Pr} {g : Fr} (hg : g ∈ (wdD d n wd ap).frames) : g ∈ d.frames ∨ g = wdF (ge d.frames n) wd ap := by
 rcases List.mem_append.1 hg with h | h
 · exact .inl (List.mem_of_mem_take h)
 · exact .inr (List.mem_singleton.1 h)
theorem wd_hw {d : Db} {n : Nat} {wd ap : List Pr} (h : ∀ f ∈ d.frames, f.wide.length * 32 ≤ 140737488351232) (hw : wd.length ≤ 40000) : ∀ f ∈ (wdD d n wd ap).frames, f.wide.length * 32 ≤ 140737488351232 := fun f hf => by
 rcases Zpu hf with h1 | rfl
 · exact h f h1
 · show wd.length * 32 ≤ _
   omega
theorem wd_pl {d : Db} {n : Nat} {wd ap : List Pr} (hn : n < d.frames.length) (h : ∀ g ∈ d.frames, g.proof.length ≤ 100000 ∧ ZbG g.proof ≤ 1000000000) : ∀ g ∈ (wdD d n wd ap).frames, g.proof.length ≤ 100000 ∧ ZbG g.proof ≤ 1000000000 := fun g hg => by
 rcases Zpu hg with h1 | rfl
 · exact h g h1
 · exact (show (ge d.frames n).proof.length ≤ 100000 ∧ ZbG (ge d.frames n).proof ≤ 1000000000 from h _ (Zc hn))
theorem ZgZ {d : Db} {n : Nat} {wd ap : List Pr} (ha : Qz d ((n : Nat) : Int) = 0) (ht : (ge d.frames n).thm = true) (hv : (XY d ((n : Nat) : Int)).1.1 = 0) (hw : Zqa (QA ((ge d.frames n).hyps ++ (ge d.frames n).dummies)) wd) :
 ((!decide ((XY (wdD d n wd ap) ((n : Nat) : Int)).2 = (0 : Int)) || (decide ((XY (wdD d n wd ap) ((n : Nat) : Int)).1.1 = (XY d ((n : Nat) : Int)).1.1) && decide ((XY (wdD d n wd ap) ((n : Nat) : Int)).1.2 = (XY d ((n : Nat) : Int)).1.2))) && true) = true := by
 by_cases hg : (XY (wdD d n wd ap) ((n : Nat) : Int)).2 = 0
 · rw [thm_wd ha ht hv hw hg]
   simp
 · simp [hg]
end Go.Proofs.YtgifeodnngodiaaGreatDoor
set_option maxHeartbeats 8000000
set_option maxRecDepth 100000
namespace Go.Proofs.YtgifeodnngodiaaGreatDoor
open Go.RowKit
theorem Zcy : ZfH Tryz.prog 37 [.lit (.string ⟨#[]⟩), .lit (.bool false), .sl [], .sl [], .sl [], .sl [], .sl [], .sl []] := ⟨(.agg #[.string ⟨#[]⟩, .bool false, .slice none 0 0, .slice none 0 0, .slice none 0 0, .slice none 0 0, .slice none 0 0, .slice none 0 0]), fun w => by kernel_rfl, fun S w => (show RdL S w [.lit (.string ⟨#[]⟩), .lit (.bool false), .sl [], .sl [], .sl [], .sl [], .sl [], .sl []] [.string ⟨#[]⟩, .bool false, .slice none 0 0, .slice none 0 0, .slice none 0 0, .slice none 0 0, .slice none 0 0, .slice none 0 0] from ⟨.lit _ (Nat.zero_le _), .lit _ True.intro, .nil _ _ (Nat.zero_le _), .nil _ _ (Nat.zero_le _), .nil _ _ (Nat.zero_le _), .nil _ _ (Nat.zero_le _), .nil _ _ (Nat.zero_le _), .nil _ _ (Nat.zero_le _), trivial⟩)⟩
theorem ZkR : XD Tryz.prog 37 8 := fun w => by kernel_rfl
theorem Zss : Zp Tryz.prog 28 := Zu Tryz.func28 rfl rfl
theorem ZmH : Zp Tryz.prog 26 := Zu Tryz.func26 rfl rfl
theorem Zsu : Zp Tryz.prog 24 := Zu Tryz.func24 rfl rfl
theorem Zst : Zp Tryz.prog 25 := Zu Tryz.func25 rfl rfl
theorem Zj9 : ZdW Tryz.prog 62 := ⟨.agg #[.string ⟨#[]⟩, .string ⟨#[]⟩], fun w => by kernel_rfl⟩
theorem ZeB {S S' : Nat → Prop} {w : World} {F : FuncId} {b off : Nat} {v : Value} (h : Rel S' w (.lit (.func (.func F) #[] #[.pointer (some ⟨b, off, none⟩)])) v) : Rel S w (.fn F [.at b off]) v := by
 rw [h.lit]
 simp only [Rel]
 exact ⟨[.pointer (some ⟨b, off, none⟩)], rfl, Za (Rel.of_lit (Value.pointer (some ⟨b, off, none⟩))) Ze⟩
theorem Ze3 {J : World → Prop} (hJ : Stab J) (xs : List Hy) (f : FuncId) (caps : List AV) (Os : List OB) (p : Hy → Bool) (hf : ∀ q' ∈ xs, FnR Tryz.prog J f Os ([.agg (hyC (q'))] ++ caps) (.bool (p q'))) (hk0 : Zp Tryz.prog f) : FnR Tryz.prog J 44 Os [.rd (Z4 xs), .fn f caps] (.int (YM p xs)) := by
 refine ZV (N := 19) Tryz.func44 rfl rfl (lb rfl) fun S w0 hS hJ0 hH => ?_
 clear hJ0
 refine ln 0 fun hl1 => ?_
 refine qs tb hJ [0,1] [_] [_,_] ?_
 refine Zo (hqs tb hJ [0,1,1001,1002] [_,.int (xs.length : Nat),_] [1] [_,_,_,_] rfl ⟨YE ZF, trivial⟩ ?_)
 refine Zg (lp (ι := Nat) (fun k => (k ≤ xs.length) ∧ (∀ j, j < k → p (ge xs j) = false)) (fun k => [(8, .int (k : Nat))]) (fun k => xs.length - k) [0,1,2,3] [_,_,_] 0 ⟨Nat.zero_le _, fun j hj => by omega⟩ ?_)
 rintro k ⟨f1_1, f1_2⟩
 refine qs tb hJ [0,1,2,3,1000] [_] [_,_,_,_,_] ?_
 refine cjS 4 (fun hb1 => ?_) fun hb1 => ?_
 try simp at hb1
 refine Zf (nx (Zo (Zg (qs tb hJ [0,1,2,3,1001] [_,_] [_,_,_,_,_] ?_))))
 refine hqs tb hJ [0,1,2,3,4,1005] [_,_,_,.ptr (hyC (ge xs k)),_,.bool (p (ge xs k))] [3,5] [_,_,_,_,_,_] rfl ⟨iIx ZH, fun _ _ hk hx hl _ => Zbo (hf (ge xs k) (Zc (by omega))) hk0 rfl (hl.D 0 11 rfl rfl) (nm hS hk) (hx) (fun _ ho => YF hH hk ho) (Za (hl.D 4 15 rfl rfl) Ze) (js hJ hx), trivial⟩ ?_
 refine cj 5 (fun hb2 => ?_) fun hb2 => ?_
 try simp at hb2
 refine qs tb hJ [1001] [_,_] [_] ?_
 exact Zi (rtn (m := 0) rfl rfl (eI (by first | exact (YP hb1 hb2 f1_2).symm | exact (Yu fun j hj => f1_2 j (by omega)).symm)))
 try simp at hb2
 refine Zf (nx (hqp tb hJ [0,1,2,1001] [.int (k + 1 : Nat),_] [0] [_,_,_,_] rfl ⟨Yv, trivial⟩ ?_))
 exact lpE (k + 1) [0,1,2,3] ⟨by omega, Z2 f1_2 hb2⟩
 try simp at hb1
 refine ZA (nx (qs tb hJ [1000] [_] [_] ?_))
 exact Zi (rtn (m := 0) rfl rfl (eI (by first | exact (YP hb1 hb2 f1_2).symm | exact (Yu fun j hj => f1_2 j (by omega)).symm)))
theorem ZcC {J : World → Prop} (hJ : Stab J) (xs : List Hy) (f : FuncId) (caps : List AV) (Os : List OB) (p : Hy → Bool) (hf : ∀ q' ∈ xs, FnR Tryz.prog J f Os ([.agg (hyC (q'))] ++ caps) (.bool (p q'))) (hk0 : Zp Tryz.prog f) : FnR Tryz.prog J 27 Os [.rd (Z4 xs), .fn f caps] (.bool (xs.any p)) := by
 refine ZV (N := 9) Tryz.func27 rfl rfl (lb rfl) fun S w0 hS hJ0 hH => ?_
 clear hJ0
 refine ln 0 fun hl1 => ?_
 refine qs tb hJ [0,1] [_] [_,_] ?_
 refine hqs tb hJ [1004] [_,_,.int (YM p xs),_,_] [2] [_] rfl ⟨fun _ _ hk hx hl _ => YV (Ze3 hJ (xs := xs) (f := f) (caps := caps) (Os := Os) (p := p) (hf) (hk0)) ZhL rfl (nm hS hk) (hx) (fun _ ho => YF hH hk ho) (Za (hl.D 0 5 rfl rfl) (Za (hl.D 1 6 rfl rfl) Ze)) (js hJ hx), trivial⟩ ?_
 exact Zi (rtn (m := 0) rfl rfl (eB (by rw [← Za6])))
theorem Zkg {J : World → Prop} (hJ : Stab J) (h0 : Hy) (s : ByteArray) (hf : h0.floating = true → h0.text.length = 2) : Fn Tryz.prog J 28 [.agg (hyC h0), .ptr [.lit (.string s)]] (.bool (h0.floating && decide (ge h0.text 1 = s))) := by
 refine Zx (N := 14) Tryz.func28 rfl rfl (lb rfl) fun S w0 hS hJ0 => ?_
 clear hJ0
 refine hqs tb hJ [1,1000] [.ptr (hyC h0),_] [0] [_,_] rfl ⟨fun _ _ hk hx hl _ => Y1 rfl (hl.env 0 0 _ rfl rfl) (hS _ hk.size) (js hJ hx), trivial⟩ ?_
 refine hqs tb hJ [1010] [_,_,_,_,_,.ptr [.lit (.string (ge h0.text 1))],_,_,_,_,_] [5] [_] rfl ⟨gIx (k := 1) Zh (hk := fun (hc' : (h0.floating == true) = true) => by (try simp at hc'); have h9 := hf hc'; omega), trivial⟩ ?_
 exact Zi (rtn (m := 0) rfl rfl (eB (rfl)))
theorem ZhX {J : World → Prop} (hJ : Stab J) (b : Nat) (f : Fr) (va : Value) (vw : Value) (s : ByteArray) (hf : ∀ h ∈ f.hyps, h.floating = true → h.text.length = 2) : FnR Tryz.prog J 26 [OB.var b [.lit (.string f.label), .lit (.bool f.thm), Z4 f.hyps, .lit va, Zb f.text, Z4 f.dummies, .lit vw, Zb f.proof]] [.str s, .at b 0] (.bool (f.hyps.any (fun h' => h'.floating && decide (ge h'.text 1 = s)))) := by
 refine ZV (N := 8) Tryz.func26 rfl rfl (lb rfl) fun S w0 hS hJ0 hH => ?_
 refine tw Yr ?_
 refine ZN tb hJ [1,1000] [.ptr [.lit (.string s)],_] [0] [_,_] rfl ⟨fun _ _ hk hx hl _ => ZaG rfl (hl.env 0 0 _ rfl rfl) (Zr hS _ hk hx _ (Nat.le_refl _)) (jo hJ hx), trivial⟩ ?_
 refine ZN tb hJ [1001,1004] [.at b 2,.rd (Z4 f.hyps),.fn 28 [.ptr [.lit (.string s)]],.bool (f.hyps.any (fun h' => h'.floating && decide (ge h'.text 1 = s))),_] [0,1,2,3] [_,_] rfl ⟨fun _ _ _ hx hl _ => Zn Qp rfl (hl.env 0 1 _ rfl rfl) hx, fun _ _ hk hx hl _ => Zq (cs := [.lit (.string f.label), .lit (.bool f.thm), Z4 f.hyps, .lit va, Zb f.text, Z4 f.dummies, .lit vw, Zb f.proof]) Zcq rfl (Z9 hH hk hx (mo 0 rfl)) (hl.D 0 4 rfl rfl) rfl hx, fun _ _ _ hx hl _ => Y6 (caps := [(Go.Operand.tmp 2)]) rfl (Za (hl.env 1 2 _ rfl rfl) Ze) hx, fun _ _ hk hx hl _ => YV (ZcC hJ (xs := f.hyps) (f := 28) (caps := [.ptr [.lit (.string s)]]) (Os := []) (p := (fun h' => h'.floating && decide (ge h'.text 1 = s))) (fun q' hq' => (Zkg hJ q' s (hf q' hq')).rr) (Zss)) ZdT rfl (Zr hS _ hk hx) (hx.1) Zt (Za (hl.D 1 5 rfl rfl) (Za (hl.D 2 6 rfl rfl) Ze)) (jo hJ hx), trivial⟩ ?_
 refine ln 0 fun hl1 => ?_
 exact Zi (Qm (m := 1) rfl rfl rfl)
theorem ZlO {J : World → Prop} (hJ : Stab J) (d : Db) (ua : UInt8) (hw : ∀ f ∈ d.frames, f.wide.length * 32 ≤ 140737488351232) (hG : Q8 J) : Fn Tryz.prog J 6 [.agg (dbC d), .rd (.lit (.int .u8 (ua.toNat : Int)))] (.bool true) := by
 refine Zx (N := 160) Tryz.func6 rfl rfl (lb rfl) fun S w0 hS hJ0 => ?_
 refine tw Yr ?_
 obtain ⟨uw, huw⟩ : ∃ v, v = Value.slice none 0 0 := ⟨_, rfl⟩
 obtain ⟨up, hup⟩ : ∃ v, v = Value.slice none 0 0 := ⟨_, rfl⟩
 refine ZN tb hJ [1,1000] [.ptr (dbC d),_] [0] [_,_] rfl ⟨fun _ _ hk hx hl _ => Y1 rfl (hl.env 0 0 _ rfl rfl) (Zr hS _ hk hx _ (Nat.le_refl _)) (jo hJ hx), trivial⟩ ?_
 refine Zo (ZN tb hJ [0,1,1008] [_,.bool (Zc5 d (20 : Int) (200 : Int)),_,_,_,_,.int (d.frames.length : Nat),_,_] [1,6] [_,_,_] rfl ⟨iFo hS hJ (Zqh hJ (d := d) (n := (20 : Int)) (m := (200 : Int)) ) call_7, YE XE, trivial⟩ ?_)
 refine cj 2 (fun hb1 => ?_) fun hb1 => ?_
 ·
  refine ZN tb hJ [1001] [.bool true,_] [0] [_] rfl ⟨iFo hS hJ (Zg6 hJ  (by exact hG)) ZmC, trivial⟩ ?_
  exact Zi (Qm (m := 0) rfl rfl rfl)
 ·
  have e1 : Zc5 d 20 200 = true ∧ ¬ d.frames.length = 0 := by simp only [Bool.or_eq_false_iff, Bool.not_eq_false', decide_eq_false_iff_not] at hb1; exact ⟨hb1.1, by omega⟩
  have hpl := Znn e1.1 (by omega)
  have hln := ZkO e1.1
  obtain ⟨q, hq⟩ : ∃ q : Nat, ((ua.toNat : Int) % (d.frames.length : Int)) = (q : Int) := ⟨((ua.toNat : Int) % (d.frames.length : Int)).toNat, by rw [Int.toNat_of_nonneg (Int.emod_nonneg _ (by omega))]⟩
  have hq2 : q < d.frames.length := by have := Int.emod_lt_of_pos (ua.toNat : Int) (show (0 : Int) < (d.frames.length : Int) by omega); omega
  refine Zf (nx (Zo (YW tb hJ [1,1003,1006] [_,.int (ua.toNat : Nat),_,_,.int (d.frames.length : Nat),.int ((ua.toNat : Int) % (d.frames.length : Int)),_] [1,4,5] [_,_,_] rfl ⟨fun _ _ _ hx hl _ => Zk3 ZbC X2 rfl (hl.D 0 30 rfl rfl) hx, YE XE, fun _ _ _ hx hl _ => r_rem rfl (hl.D 1 31 rfl rfl) (hl.D 4 34 rfl rfl) (by first | omega | (simp; omega) | grind [Zc]) (by first | omega | (simp; omega) | grind [Zc]) hx, trivial⟩ ?_)))
  refine kw (sa 2 rfl (show (.int ((ua.toNat : Int) % (d.frames.length : Int)) : AV) = .int (q : Nat) from congrArg AV.int hq)) ?_
  refine nx (ln 1 fun hl1 => ?_)
  refine tsq ?_
  refine snK 2 tb rfl ?_
  refine sq (.tup [.agg (vdC ((XY d (q : Int)).1)), .int ((XY d (q : Int)).2)]) rfl rfl (lb rfl) (fun _ _ h => Ze1 (Zdd hJ (d := d) (z := (q : Int)) (by first | exact hw | exact wd_hw (n := q) (wd := ws) (ap := ps) hw (by omega)) (by exact hG) (by first | exact hpl | exact wd_pl (n := q) (wd := ws) (ap := ps) hq2 hpl)) ZmA rfl (Zr hS _ h.keep h.x) (h.x.1) (Za (h.get 1 rfl) (Za (h.get 0 rfl) Ze)) (jo hJ h.x)) ?_
  refine snK 3 tb rfl ?_
  refine XZ (cs := vdC ((XY d (q : Int)).1)) ZeO rfl rfl rfl (lb rfl) rfl rfl rfl (by decide) (m := 1) rfl rfl (fun a w h => Zr hS _ h.keep h.x _ (Nat.le_refl _)) (fun a w h w' hk' => Yl hJ _ _ hk' h.x) ?_
  refine snK 1 tb rfl ?_
  refine seK [0,1,8,10] [_,_,_,_] rfl ?_
  refine nx (Zo (ZN tb hJ [1,2,3,1015] [_,_,_,_,_,_,_,_,_,_,_,.ptr (frC (ge d.frames q)),_,_,_,_] [11] [_,_,_,_] rfl ⟨gIx Yh (hk := fun (hc' : (((!decide ((XY d (q : Int)).2 = (0 : Int))) || (!decide (((XY d (q : Int)).1).1 = (0 : Int)))) == false) = true) => by (try simp at hc'); first | omega | (simp; omega) | grind [Zc]), trivial⟩ ?_))
  refine cj 3 (fun hb2 => ?_) fun hb2 => ?_
  ·
   refine ZN tb hJ [1001] [.bool true,_] [0] [_] rfl ⟨iFo hS hJ (Zg6 hJ  (by exact hG)) ZmC, trivial⟩ ?_
   exact Zi (Qm (m := 0) rfl rfl rfl)
  ·
   have h2 : ((XY d (q : Int)).2 = 0 ∧ (XY d (q : Int)).1.1 = 0) ∧ (ge d.frames q).thm = true := by simpa using hb2
   have e2 : Qz d (q : Int) = 0 := by rw [← Zkv]; exact h2.1.1
   obtain ⟨hck, hz0, hz1⟩ := Zfy e2
   have htw := hy_two hck hq2
   have hhl := hy_len hck hq2
   have hdl : ((ge d.frames q).hyps ++ (ge d.frames q).dummies).length = (ge d.frames q).hyps.length + (ge d.frames q).dummies.length := List.length_append
   refine Zf (nx (tsq ?_))
   refine snK 3 tb rfl ?_
   refine sq (.ptr (frC (ge d.frames q))) rfl rfl (lb rfl) (fun _ _ h => Yc (i := (q : Int)) Yh rfl (h.get 1 rfl) (h.get 0 rfl) (Int.natCast_nonneg _) (Yo (xs := d.frames) (k := q) (by first | omega | (simp; omega) | grind [Zc])) rfl h.x) ?_
   refine snK 1 tb rfl ?_
   refine ZW Zcy hJ rfl rfl rfl (lb rfl) fun b1 => ?_
   refine ZE (b := b1) (off := 0) (cs := [.lit (.string (⟨#[]⟩ : ByteArray)), .lit (.bool false), Z4 ([] : List Hy), YK ([] : List Pr), Zb ([] : List ByteArray), Z4 ([] : List Hy), YK ([] : List Pr), Zb ([] : List ByteArray)]) (es := [.lit (.string ((ge d.frames q).label)), .lit (.bool ((ge d.frames q).thm)), Z4 ((ge d.frames q).hyps), YK ((ge d.frames q).apart), Zb ((ge d.frames q).text), Z4 ((ge d.frames q).dummies), YK ((ge d.frames q).wide), Zb ((ge d.frames q).proof)]) (news := [.lit (.string ((ge d.frames q).label)), .lit (.bool ((ge d.frames q).thm)), Z4 ((ge d.frames q).hyps), YK ((ge d.frames q).apart), Zb ((ge d.frames q).text), Z4 ((ge d.frames q).dummies), YK ((ge d.frames q).wide), Zb ((ge d.frames q).proof)]) hJ hJ0 ZkR rfl rfl rfl (lb rfl) rfl (fun a w h => ⟨(h.get 0 rfl), (h.get 1 rfl)⟩) ?_
   refine seK [0,6,7,8] [_,_,_,_] rfl ?_
   refine nx (qso tb hJ [0,1,2,3,1000] [_] [_,_,_,_,_] ?_)
   refine Zo (Zo (fun a w h => ZeY [OB.var b1 [.lit (.string ((ge d.frames q).label)), .lit (.bool ((ge d.frames q).thm)), Z4 ((ge d.frames q).hyps), YK ((ge d.frames q).apart), Zb ((ge d.frames q).text), Z4 ((ge d.frames q).dummies), YK ((ge d.frames q).wide), Zb ((ge d.frames q).proof)]] (γ := Value × Value) (fun ix' => ([.at b1 2, .rd (Z4 ((ge d.frames q).hyps)), .any, .at b1 5, .rd (Z4 ((ge d.frames q).dummies)), .rd (Z4 (((ge d.frames q).hyps) ++ ((ge d.frames q).dummies))), .int ((((ge d.frames q).hyps) ++ ((ge d.frames q).dummies)).length : Nat), .int (0 : Int)] : List AV).getD ix' .any) (fun _ => true) [(8, fun (g : Value × Value) => .at b1 0), (6, fun (g : Value × Value) => .ptr (vdC ((XY d (q : Int)).1))), (2, fun (g : Value × Value) => .ptr (dbC d)), (5, fun (g : Value × Value) => .int (q : Nat)), (9, fun (g : Value × Value) => .lit (.slice none 0 0)), (69, fun (g : Value × Value) => .rd (Z4 (((ge d.frames q).hyps) ++ ((ge d.frames q).dummies)))), (70, fun (g : Value × Value) => .int ((((ge d.frames q).hyps) ++ ((ge d.frames q).dummies)).length : Nat)), (71, fun (g : Value × Value) => .int (0 : Int))] (fun (D : Nat → Bool) (g : Value × Value) => (if D 1 then [] else if D 0 then [OB.row g.1 45 3 (((ge d.frames q).hyps).map hyC)] else []) ++ [OB.var b1 [.lit (.string ((ge d.frames q).label)), .lit (.bool ((ge d.frames q).thm)), Z4 ((ge d.frames q).hyps), YK ((ge d.frames q).apart), Zb ((ge d.frames q).text), Z4 ((ge d.frames q).dummies), YK ((ge d.frames q).wide), Zb ((ge d.frames q).proof)]]) (fun (k' : Nat) (g : Value × Value) => match k' with | 0 => g.1 | 1 => g.2 | _ => undef) [2, 5] (undef, undef) (fun _ => rfl) h hJ Ye rfl rfl rfl rfl (fun D g p hp => List.mem_append_right _ hp) ⟨?o9_0, ⟨?o9_1, ⟨?o9_2, ⟨?o9_3, ⟨?o9_4, ⟨?o9_5, ⟨?o9_6, ⟨?o9_7, trivial⟩⟩⟩⟩⟩⟩⟩⟩ ⟨?e9_0, ⟨?e9_1, trivial⟩⟩ ⟨.old 0 8 _ rfl rfl, ⟨.old 1 6 _ rfl rfl, ⟨.old 2 2 _ rfl rfl, ⟨.old 3 5 _ rfl rfl, ⟨.old 4 9 _ rfl rfl, ⟨.new 5 69 _ rfl rfl rfl, ⟨.new 6 70 _ rfl rfl rfl, ⟨.new 7 71 _ rfl rfl rfl, trivial⟩⟩⟩⟩⟩⟩⟩⟩ ?n9))
   exact oX rfl fun hx hl => Zn Qp rfl (hl.env 0 8 _ rfl rfl) hx
   exact fun _ O' hO' => ⟨rfl, fun _ _ _ hx hl _ => Zq (cs := [.lit (.string ((ge d.frames q).label)), .lit (.bool ((ge d.frames q).thm)), Z4 ((ge d.frames q).hyps), YK ((ge d.frames q).apart), Zb ((ge d.frames q).text), Z4 ((ge d.frames q).dummies), YK ((ge d.frames q).wide), Zb ((ge d.frames q).proof)]) Zcq rfl (Zd hx (hO' _ (mo 0 rfl))) (hl.D 0 64 rfl rfl) rfl hx⟩
   exact Zl rfl
   exact oX rfl fun hx hl => Zn ZjV rfl (hl.env 0 8 _ rfl rfl) hx
   exact fun _ O' hO' => ⟨rfl, fun _ _ _ hx hl _ => Zq (cs := [.lit (.string ((ge d.frames q).label)), .lit (.bool ((ge d.frames q).thm)), Z4 ((ge d.frames q).hyps), YK ((ge d.frames q).apart), Zb ((ge d.frames q).text), Z4 ((ge d.frames q).dummies), YK ((ge d.frames q).wide), Zb ((ge d.frames q).proof)]) Zcq rfl (Zd hx (hO' _ (mo 0 rfl))) (hl.D 3 67 rfl rfl) rfl hx⟩
   exact Zl rfl
   exact oX rfl fun hx hl => Zbg ZF rfl (hl.D 5 69 rfl rfl) hx
   exact fun _ O' _ => ⟨rfl, fun _ _ _ hx _ _ => Ys rfl (Rel.of_lit (Go.Value.int Go.IntKind.i64 0)) hx⟩
   case e9_0 =>
    refine ⟨_, rfl, rfl, rfl, fun D g a w hD hpre hcl hk hx hl hs => ?_⟩
    have d0 := hD
    have d1 : D 1 = false := by cases hq : D 1 with | false => rfl | true => exact absurd (hcl 1 0 5 2 rfl rfl hq (by decide)) (by simp [d0])
    simp only [ZfD, d0, d1, if_true, if_false, Bool.false_eq_true, List.nil_append, Nat.reduceEqDiff, List.cons_append] at hx hl ⊢
    exact Zs (ZrR (O := []) (R := [OB.var b1 [.lit (.string ((ge d.frames q).label)), .lit (.bool ((ge d.frames q).thm)), Z4 ((ge d.frames q).hyps), YK ((ge d.frames q).apart), Zb ((ge d.frames q).text), Z4 ((ge d.frames q).dummies), YK ((ge d.frames q).wide), Zb ((ge d.frames q).proof)]]) (Zir hJ (xs := ((ge d.frames q).hyps)) (by first | omega | (simp; omega) | grind [Zc])) ZmI rfl hS hJ0 Zt hk hx (Za (hl.D 1 65 rfl rfl) Ze)) fun v w' ⟨i, hp, hv⟩ => ⟨(i, g.2), (fun k' hk' => by rcases k' with _ | _ | k' <;> first | rfl | simp_all), fun _ => hv.lit, by simp only [List.getD_eq_getElem?_getD, List.getElem?_cons_succ, List.getElem?_cons_zero, Option.getD_some, Rel], hp⟩
   case e9_1 =>
    refine ⟨_, rfl, rfl, rfl, fun D g a w hD hpre hcl hk hx hl hs => ?_⟩
    have d1 := hD
    have d0 : D 0 = true := hpre 0 2 rfl (by decide)
    simp only [ZfD, d0, d1, if_true, if_false, Bool.false_eq_true, List.nil_append, Nat.reduceEqDiff, List.cons_append] at hx hl ⊢
    exact Zs (ZgJ (f := hyC) ((ge d.frames q).hyps) ((ge d.frames q).dummies) (fun _ => rfl) ZbZ hS hJ hJ0 rfl hk hx (hs 0 2 _ 66 d0 rfl rfl rfl) (hl.D 4 68 rfl rfl) (by first | omega | (simp; omega) | grind [Zc]) (by first | omega | (simp; omega) | grind [Zc])) fun v w' ⟨hr, hp⟩ => ⟨(g.1, v), (fun k' hk' => by rcases k' with _ | _ | k' <;> first | rfl | simp_all), fun _ => rfl, hr, hp⟩
   clear a w h
   intro _
   dsimp only [List.map]
   refine nx (ln 5 fun hl2 => ?_)
   refine Zg (tw (Yf 9 1 hJ) ?_)
   refine lpo (ι := Nat × (List ByteArray) × Value) (fun (k, us, _) => (k ≤ ((ge d.frames q).hyps ++ (ge d.frames q).dummies).length) ∧ (us = QA (((ge d.frames q).hyps ++ (ge d.frames q).dummies).take k))) (fun (_, us, v) => [OB.row v 9 1 (us.map Xx), OB.var b1 [.lit (.string ((ge d.frames q).label)), .lit (.bool ((ge d.frames q).thm)), Z4 ((ge d.frames q).hyps), YK ((ge d.frames q).apart), Zb ((ge d.frames q).text), Z4 ((ge d.frames q).dummies), YK ((ge d.frames q).wide), Zb ((ge d.frames q).proof)]]) (fun (k, _, v) => [(71, .int (k : Nat)), (9, .lit v)]) (fun (k, _, _) => ((ge d.frames q).hyps ++ (ge d.frames q).dummies).length - k) [0,1,2,3,5,6,7,4] [_,_,_,_,_,_] (0, [], (.slice none 0 0)) ⟨Nat.zero_le _, rfl⟩ ?_
   rintro ⟨k, us, v⟩ ⟨f1_1, f1_2⟩
   refine qso tb hJ [0,1,2,3,4,5,6,7,1000] [_] [_,_,_,_,_,_,_,_,_] ?_
   refine cjS 8 (fun hb3 => ?_) fun hb3 => ?_
   ·
    try simp at hb3
    have hul : us.length ≤ 80 := by have h9 := Zh1 (((ge d.frames q).hyps ++ (ge d.frames q).dummies).take k); rw [← f1_2, List.length_take] at h9; omega
    refine Zf (nx (Zo (Zg (tsq ?_))))
    refine sq (.ptr (hyC (ge (((ge d.frames q).hyps) ++ ((ge d.frames q).dummies)) k))) rfl rfl (lb rfl) (fun _ _ h => Yc (i := (k : Int)) ZH rfl (h.get 4 rfl) (h.get 6 rfl) (Int.natCast_nonneg _) (Yo (xs := ((ge d.frames q).hyps) ++ ((ge d.frames q).dummies)) (k := k) (by first | omega | (simp; omega) | grind [Zc])) rfl h.x) ?_
    refine snK 1 tb rfl ?_
    refine XZ (cs := hyC (ge (((ge d.frames q).hyps) ++ ((ge d.frames q).dummies)) k)) Zad rfl rfl rfl (lb rfl) rfl rfl rfl (by decide) (m := 0) rfl rfl (fun a w h => Zr hS _ h.keep h.x _ (Nat.le_refl _)) (fun a w h w' hk' => Yl hJ _ _ hk' h.x) ?_
    refine seK [0,3,4,5,6,7,8,9,10] [_,_,_,_,_,_,_,_,_] rfl ?_
    refine nx (qso tb hJ [0,1,2,3,4,5,6,7,8,1001] [_,_] [_,_,_,_,_,_,_,_,_,_] ?_)
    refine cj 9 (fun hb4 => ?_) fun hb4 => ?_
    ·
     try simp at hb4
     refine Zz (snK 3 tb rfl ?_)
     refine sq (.ptr [.lit (.string (ge ((ge (((ge d.frames q).hyps) ++ ((ge d.frames q).dummies)) k).text) 1))]) rfl rfl (lb rfl) (fun _ _ h => Yc (i := ((1 : Nat) : Int)) Zh rfl (h.get 0 rfl) (Rel.of_lit (Go.Value.int Go.IntKind.i64 1)) (Int.natCast_nonneg _) (Yo (xs := (ge (((ge d.frames q).hyps) ++ ((ge d.frames q).dummies)) k).text) (k := 1) (by have h9 := htw _ (Zc (xs := ((ge d.frames q).hyps ++ (ge d.frames q).dummies)) (k := k) (by omega)) hb4; omega)) rfl h.x) ?_
     refine snK 1 tb rfl ?_
     refine sq (.rd (Zb ([(ge ((ge (((ge d.frames q).hyps) ++ ((ge d.frames q).dummies)) k).text) 1)]))) rfl rfl (lb rfl) (fun _ _ h => Xa Zh Zby rfl (h.get 0 rfl) (Zr hS _ h.keep h.x _ (Nat.le_refl _)) (jo hJ h.x)) ?_
     refine YR (f := Xx) (m := 5) (s := 77) us ([(ge ((ge (((ge d.frames q).hyps) ++ ((ge d.frames q).dummies)) k).text) 1)]) (fun _ => rfl) XX hJ hJ0 rfl rfl rfl (lb rfl) rfl rfl (fun a w h => (h.get 0 rfl)) (by first | omega | (simp; omega) | grind [Zc]) (by first | omega | (simp; omega) | grind [Zc]) fun v2 => ?_
     refine snK 1 tb rfl ?_
     refine seK [0,2,5,9,10,11,12,13,14,15] [_,_,_,_,_,_,_,_,_,_] rfl ?_
     refine nx (ln 1 fun hl3 => ?_)
     refine ln 2 fun hl4 => ?_
     refine YW tb hJ [0,3,4,5,6,7,8,1001] [.int (k + 1 : Nat),_] [0] [_,_,_,_,_,_,_,_] rfl ⟨Yv, trivial⟩ ?_
     exact Xp (k + 1, us ++ ([(ge ((ge (((ge d.frames q).hyps) ++ ((ge d.frames q).dummies)) k).text) 1)]), v2) [1,2,3,4,5,6,7,0] ⟨by omega, by first | (rw [ZbD (by omega), if_pos hb4, ← f1_2]; done) | (rw [ZbD (by omega), if_neg (by simp [hb4]), List.append_nil]; exact f1_2)⟩
    ·
     try simp at hb4
     refine Zf (nx (YW tb hJ [1,2,3,4,5,6,8,1001] [.int (k + 1 : Nat),_] [0] [_,_,_,_,_,_,_,_] rfl ⟨Yv, trivial⟩ ?_))
     exact Xp (k + 1, us, v) [0,1,2,3,4,5,7,6] ⟨by omega, by first | (rw [ZbD (by omega), if_pos hb4, ← f1_2]; done) | (rw [ZbD (by omega), if_neg (by simp [hb4]), List.append_nil]; exact f1_2)⟩
   ·
    try simp at hb3
    have e5 : us = QA ((ge d.frames q).hyps ++ (ge d.frames q).dummies) := by rw [f1_2, ZJ (by omega)]
    have hul : us.length ≤ 80 := by rw [e5]; have h9 := Zh1 ((ge d.frames q).hyps ++ (ge d.frames q).dummies); omega
    refine ZA (nx (tsq ?_))
    refine snK 1 tb rfl ?_
    refine Xr (O := [OB.row v 9 1 (us.map Xx)]) (R := [OB.var b1 [.lit (.string ((ge d.frames q).label)), .lit (.bool ((ge d.frames q).thm)), Z4 ((ge d.frames q).hyps), YK ((ge d.frames q).apart), Zb ((ge d.frames q).text), Z4 ((ge d.frames q).dummies), YK ((ge d.frames q).wide), Zb ((ge d.frames q).proof)]]) (Zq5 hJ (v := v) (xs := us) (by omega)) Zsu rfl rfl rfl (lb rfl) hS hJ0 Zt (fun a w h => (Za (h.get 0 rfl) Ze)) fun z3 => ?_
    refine seK [2,3,4,5,9] [_,_,_,_,_] rfl ?_
    refine nx (Zo (Zz (snK 1 tb rfl ?_)))
    refine Xr (O := [OB.row v 9 1 (z3.1.map Xx)]) (R := [OB.var b1 [.lit (.string ((ge d.frames q).label)), .lit (.bool ((ge d.frames q).thm)), Z4 ((ge d.frames q).hyps), YK ((ge d.frames q).apart), Zb ((ge d.frames q).text), Z4 ((ge d.frames q).dummies), YK ((ge d.frames q).wide), Zb ((ge d.frames q).proof)]]) (ZjF hJ (v := v) (ps := z3.1) (by have h8 := z3.2.length_eq; omega)) Zst rfl rfl rfl (lb rfl) hS hJ0 Zt (fun a w h => (Za (h.get 0 rfl) Ze)) fun z4 => ?_
    refine snK 1 tb rfl ?_
    refine seK [0,3,4,5,6] [_,_,_,_,_] rfl ?_
    obtain ⟨V, hV⟩ : ∃ V, V = (Zch z3.1 z3.1.length) := ⟨_, rfl⟩
    have hVm : ∀ x, x ∈ V ↔ x ∈ QA ((ge d.frames q).hyps ++ (ge d.frames q).dummies) := fun x => by rw [hV, ZiU _ (Nat.le_refl _), List.take_length, z3.2.mem_iff, e5]
    have hVl : V.length ≤ 80 := by have h9 := ZiV z3.1 z3.1.length; have h8 := z3.2.length_eq; rw [← hV] at h9; omega
    refine kw (ob0 (show OB.row z4 9 1 ((Zch z3.1 z3.1.length).map Xx) = OB.row z4 9 1 (V.map Xx) from by rw [hV])) ?_
    refine nx (ZN tb hJ [0,1,2,3,4,1001] [.lit (.func (.func 26) #[] #[.pointer (some ⟨b1, 0, none⟩)]),_] [0] [_,_,_,_,_,_] rfl ⟨fun _ _ _ hx hl _ => Zda (caps := [(Go.Operand.tmp 8)]) rfl (map_cons (hl.env 1 8 _ rfl rfl).lit map_nil) hx, trivial⟩ ?_)
    refine Zo (Zz (sq (.at b1 6) rfl rfl (lb rfl) (fun _ _ h => Zn Za8 rfl (h.get 1 rfl) h.x) ?_))
    refine kw pm1 ?_
    refine ZI (b := b1) (off := 6) (cs := [.lit (.string ((ge d.frames q).label)), .lit (.bool ((ge d.frames q).thm)), Z4 ((ge d.frames q).hyps), YK ((ge d.frames q).apart), Zb ((ge d.frames q).text), Z4 ((ge d.frames q).dummies), YK ((ge d.frames q).wide), Zb ((ge d.frames q).proof)]) (es := [.lit (.string ((ge d.frames q).label)), .lit (.bool ((ge d.frames q).thm)), Z4 ((ge d.frames q).hyps), YK ((ge d.frames q).apart), Zb ((ge d.frames q).text), Z4 ((ge d.frames q).dummies), .lit (.slice none 0 0), Zb ((ge d.frames q).proof)]) hJ hJ0 ZaB rfl rfl rfl (lb rfl) rfl (fun a w h => ⟨(h.get 0 rfl), (Rel.of_lit (Go.Value.slice none 0 0))⟩) ?_
    refine sq (.at b1 3) rfl rfl (lb rfl) (fun _ _ h => Zn Za9 rfl (h.get 2 rfl) h.x) ?_
    refine ZI (b := b1) (off := 3) (cs := [.lit (.string ((ge d.frames q).label)), .lit (.bool ((ge d.frames q).thm)), Z4 ((ge d.frames q).hyps), YK ((ge d.frames q).apart), Zb ((ge d.frames q).text), Z4 ((ge d.frames q).dummies), .lit (.slice none 0 0), Zb ((ge d.frames q).proof)]) (es := [.lit (.string ((ge d.frames q).label)), .lit (.bool ((ge d.frames q).thm)), Z4 ((ge d.frames q).hyps), .lit (.slice none 0 0), Zb ((ge d.frames q).text), Z4 ((ge d.frames q).dummies), .lit (.slice none 0 0), Zb ((ge d.frames q).proof)]) hJ hJ0 ZaB rfl rfl rfl (lb rfl) rfl (fun a w h => ⟨(h.get 0 rfl), (Rel.of_lit (Go.Value.slice none 0 0))⟩) ?_
    refine seK [2,3,4,5,6,7] [_,_,_,_,_,_] rfl ?_
    refine kw (ob0 (show OB.var b1 [.lit (.string ((ge d.frames q).label)), .lit (.bool ((ge d.frames q).thm)), Z4 ((ge d.frames q).hyps), .lit (.slice none 0 0), Zb ((ge d.frames q).text), Z4 ((ge d.frames q).dummies), .lit (.slice none 0 0), Zb ((ge d.frames q).proof)] = OB.var b1 [.lit (.string ((ge d.frames q).label)), .lit (.bool ((ge d.frames q).thm)), Z4 ((ge d.frames q).hyps), .lit (.slice none 0 0), Zb ((ge d.frames q).text), Z4 ((ge d.frames q).dummies), .lit uw, Zb ((ge d.frames q).proof)] from by rw [huw])) ?_
    refine kw (Yf 62 2 hJ) ?_
    refine kw (ob0 (show OB.row (.slice none 0 0) 62 2 [] = OB.row uw 62 2 (([] : List Pr).map prC) from by rw [huw]; rfl)) ?_
    refine kw pm1 ?_
    refine kw (ob0 (show OB.var b1 [.lit (.string ((ge d.frames q).label)), .lit (.bool ((ge d.frames q).thm)), Z4 ((ge d.frames q).hyps), .lit (.slice none 0 0), Zb ((ge d.frames q).text), Z4 ((ge d.frames q).dummies), .lit uw, Zb ((ge d.frames q).proof)] = OB.var b1 [.lit (.string ((ge d.frames q).label)), .lit (.bool ((ge d.frames q).thm)), Z4 ((ge d.frames q).hyps), .lit up, Zb ((ge d.frames q).text), Z4 ((ge d.frames q).dummies), .lit uw, Zb ((ge d.frames q).proof)] from by rw [hup])) ?_
    refine kw (Yf 62 2 hJ) ?_
    refine kw (ob0 (show OB.row (.slice none 0 0) 62 2 [] = OB.row up 62 2 (([] : List Pr).map prC) from by rw [hup]; rfl)) ?_
    refine nx (Zo (tw pm3 ?_))
    refine tw (fun h => YB hS h (m := 0) (s := 9) rfl) ?_
    refine ZN tb hJ [0,1,2,3,4,5,1000,1001,1002] [_,.int (V.length : Nat),_] [1] [_,_,_,_,_,_,_,_,_] rfl ⟨YE Zw, trivial⟩ ?_
    refine ln 0 fun hl5 => ?_
    refine Zg (lpo (ι := Nat × (List Pr) × (List Pr) × Value × Value) (fun (k, ws, ps, _, _) => (k ≤ V.length) ∧ (ws = prK V k) ∧ (ws.length ≤ 200 * k) ∧ (ps.length ≤ ws.length)) (fun (_, ws, ps, vw, vp) => [OB.row vp 62 2 (ps.map prC), OB.var b1 [.lit (.string ((ge d.frames q).label)), .lit (.bool ((ge d.frames q).thm)), Z4 ((ge d.frames q).hyps), .lit vp, Zb ((ge d.frames q).text), Z4 ((ge d.frames q).dummies), .lit vw, Zb ((ge d.frames q).proof)], OB.row vw 62 2 (ws.map prC)]) (fun (k, _, _, _, _) => [(94, .int (k : Nat))]) (fun (k, _, _, _, _) => V.length - k) [0,1,2,3,4,5,6,7,8] [_,_,_,_,_,_,_,_] (0, [], [], uw, up) ⟨Nat.zero_le _, rfl, Nat.zero_le _, Nat.zero_le _⟩ ?_)
    rintro ⟨k, ws, ps, vw, vp⟩ ⟨f2_1, f2_2, f2_3, f2_4⟩
    refine qso tb hJ [0,1,2,3,4,5,6,7,8,1000] [_] [_,_,_,_,_,_,_,_,_,_] ?_
    refine cjS 9 (fun hb5 => ?_) fun hb5 => ?_
    ·
     try simp at hb5
     have hdr : (V.drop (k + 1)).length = V.length - (k + 1) := List.length_drop
     refine Zf (nx (Zo (Zg (ZN tb hJ [0,1,2,3,4,5,6,7,8,1003,1004] [_,.ptr [.lit (.string (ge V k))],_,_,_] [1] [_,_,_,_,_,_,_,_,_,_,_] rfl ⟨iIx Zh, trivial⟩ ?_))))
     refine ZN tb hJ [0,1,2,3,4,5,6,7,8,10,1003,1004,1005] [_,_,.int (k + 1 : Nat),.rd (Zb (V.drop (k + 1))),.int ((V.drop (k + 1)).length : Nat),_] [2,3,4] [_,_,_,_,_,_,_,_,_,_,_,_,_] rfl ⟨Yv, fun _ _ _ hx hl _ => Za2 (ys := V.drop (k + 1)) (lo := k + 1) (hi := V.length) (by rw [List.take_length]) Zh (fun _ => rfl) rfl (hl.D 0 99 rfl rfl) (hl.D 2 101 rfl rfl) rfl (by first | omega | (simp; omega) | grind [Zc]) (by first | omega | (simp; omega) | grind [Zc]) hx, YE Zw, trivial⟩ ?_
     refine ln 10 fun hl6 => ?_
     refine Zg (lpo (ι := Nat × (List Pr) × (List Pr) × Value × Value) (fun (j, ws3, ps3, _, _) => (j ≤ (V.drop (k + 1)).length) ∧ (ws3 = prK V k ++ ((V.drop (k + 1)).take j).map (fun y => ⟨ge V k, y⟩)) ∧ (ws3.length ≤ 200 * k + j) ∧ (ps3.length ≤ ws3.length)) (fun (_, ws3, ps3, vw3, vp3) => [OB.row vp3 62 2 (ps3.map prC), OB.var b1 [.lit (.string ((ge d.frames q).label)), .lit (.bool ((ge d.frames q).thm)), Z4 ((ge d.frames q).hyps), .lit vp3, Zb ((ge d.frames q).text), Z4 ((ge d.frames q).dummies), .lit vw3, Zb ((ge d.frames q).proof)], OB.row vw3 62 2 (ws3.map prC)]) (fun (j, _, _, _, _) => [(104, .int (j : Nat))]) (fun (j, _, _, _, _) => (V.drop (k + 1)).length - j) [0,1,2,3,4,5,6,7,8,9,10,11,12] [_,_,_,_,_,_,_,_,_,_,_,_] (0, ws, ps, vw, vp) ⟨Nat.zero_le _, by rw [List.take_zero, List.map_nil, List.append_nil]; exact f2_2, by omega, f2_4⟩ ?_)
     rintro ⟨j, ws3, ps3, vw3, vp3⟩ ⟨f3_1, f3_2, f3_3, f3_4⟩
     refine qso tb hJ [0,1,2,3,4,5,6,7,8,9,10,11,12,1000] [_] [_,_,_,_,_,_,_,_,_,_,_,_,_,_] ?_
     refine cjS 13 (fun hb6 => ?_) fun hb6 => ?_
     ·
      try simp at hb6
      refine Zf (nx (Zo (Zg (ZN tb hJ [0,1,2,3,4,5,6,7,8,9,10,11,12,1002] [.ptr [.lit (.string (ge (V.drop (k + 1)) j))],_,_] [0] [_,_,_,_,_,_,_,_,_,_,_,_,_,_] rfl ⟨iIx Zh, trivial⟩ ?_))))
      refine tsq ?_
      refine sq (.at b1 6) rfl rfl (lb rfl) (fun _ _ h => Zn Za8 rfl (h.get 1 rfl) h.x) ?_
      refine sq (.lit vw3) rfl rfl (lb rfl) (fun _ _ h => Zq (cs := [.lit (.string ((ge d.frames q).label)), .lit (.bool ((ge d.frames q).thm)), Z4 ((ge d.frames q).hyps), .lit vp3, Zb ((ge d.frames q).text), Z4 ((ge d.frames q).dummies), .lit vw3, Zb ((ge d.frames q).proof)]) Zit rfl (Zd h.x (mo 1 rfl)) (h.get 0 rfl) rfl h.x) ?_
      refine snK 2 tb rfl ?_
      refine sq (.agg (prC (⟨(ge V k), (ge (V.drop (k + 1)) j)⟩ : Pr))) rfl rfl (lb rfl) (fun a _ h => XP (us := [a.eval (Go.Operand.tmp 110), a.eval (Go.Operand.tmp 111)]) Zci rfl (by simp) (Zk (h.get 1 rfl) (Zk (h.get 0 rfl) ZK)) rfl h.x) ?_
      refine sq (.rd (YK ([(⟨(ge V k), (ge (V.drop (k + 1)) j)⟩ : Pr)]))) rfl rfl (lb rfl) (fun _ _ h => Zdb ZC Zj9 (by decide) rfl rfl (h.get 0 rfl) (Zr hS _ h.keep h.x _ (Nat.le_refl _)) (jo hJ h.x)) ?_
      refine kw pm2 ?_
      refine YR (f := prC) (m := 4) (s := 109) ws3 ([(⟨(ge V k), (ge (V.drop (k + 1)) j)⟩ : Pr)]) (fun _ => rfl) ZdU hJ hJ0 rfl rfl rfl (lb rfl) rfl rfl (fun a w h => (h.get 0 rfl)) (by first | omega | (simp; omega) | grind [Zc]) (by first | omega | (simp; omega) | grind [Zc]) fun v5 => ?_
      refine sq (.at b1 6) rfl rfl (lb rfl) (fun _ _ h => Zn Za8 rfl (h.get 8 rfl) h.x) ?_
      refine kw pm2 ?_
      refine ZI (b := b1) (off := 6) (cs := [.lit (.string ((ge d.frames q).label)), .lit (.bool ((ge d.frames q).thm)), Z4 ((ge d.frames q).hyps), .lit vp3, Zb ((ge d.frames q).text), Z4 ((ge d.frames q).dummies), .lit vw3, Zb ((ge d.frames q).proof)]) (es := [.lit (.string ((ge d.frames q).label)), .lit (.bool ((ge d.frames q).thm)), Z4 ((ge d.frames q).hyps), .lit vp3, Zb ((ge d.frames q).text), Z4 ((ge d.frames q).dummies), .lit v5, Zb ((ge d.frames q).proof)]) hJ hJ0 ZaB rfl rfl rfl (lb rfl) rfl (fun a w h => ⟨(h.get 0 rfl), (h.get 1 rfl)⟩) ?_
      refine seK [2,8,9,10,11,12,13,14,15,16,17,18,19,20,21] [_,_,_,_,_,_,_,_,_,_,_,_,_,_,_] rfl ?_
      refine nx (ln 0 fun hl7 => ?_)
      refine ZN tb hJ [1,2,3,4,5,6,7,8,9,10,11,12,13,14,1007] [_,_,.bool ((ge d.frames q).hyps.any (fun h' => h'.floating && decide (ge h'.text 1 = (ge V k)))),_,_,_,.bool ((ge d.frames q).hyps.any (fun h' => h'.floating && decide (ge h'.text 1 = (ge (V.drop (k + 1)) j)))),_] [2,6] [_,_,_,_,_,_,_,_,_,_,_,_,_,_,_] rfl ⟨fun _ _ hk hx hl _ => Zbo (ZhX hJ _ _ _ _ (ge V k) (fun h hh => htw h (List.mem_append_left _ hh))) ZmH rfl (ZeB (hl.D 0 116 rfl rfl)) (Zr hS _ hk hx) (hx.1) (ZG (Zd hx (mo 0 rfl)) Zt) (Za (hl.D 1 117 rfl rfl) Ze) (jo hJ hx), fun _ _ hk hx hl hc => Zbo (ZhX hJ _ _ _ _ (ge (V.drop (k + 1)) j) (fun h hh => htw h (List.mem_append_left _ hh))) ZmH rfl (ZeB (hl.D 4 120 rfl hc)) (Zr hS _ hk hx) (hx.1) (ZG (Zd hx (mo 0 rfl)) Zt) (Za (hl.D 5 121 rfl hc) Ze) (jo hJ hx), trivial⟩ ?_
      refine cj 14 (fun hb7 => ?_) fun hb7 => ?_
      ·
       try simp at hb7
       refine Zz (sq (.at b1 3) rfl rfl (lb rfl) (fun _ _ h => Zn Za9 rfl (h.get 1 rfl) h.x) ?_)
       refine sq (.lit vp3) rfl rfl (lb rfl) (fun _ _ h => Zq (cs := [.lit (.string ((ge d.frames q).label)), .lit (.bool ((ge d.frames q).thm)), Z4 ((ge d.frames q).hyps), .lit vp3, Zb ((ge d.frames q).text), Z4 ((ge d.frames q).dummies), .lit v5, Zb ((ge d.frames q).proof)]) Zit rfl (Zd h.x (mo 0 rfl)) (h.get 0 rfl) rfl h.x) ?_
       refine snK 2 tb rfl ?_
       refine sq (.agg (prC (⟨(ge V k), (ge (V.drop (k + 1)) j)⟩ : Pr))) rfl rfl (lb rfl) (fun a _ h => XP (us := [a.eval (Go.Operand.tmp 126), a.eval (Go.Operand.tmp 127)]) Zci rfl (by simp) (Zk (h.get 1 rfl) (Zk (h.get 0 rfl) ZK)) rfl h.x) ?_
       refine sq (.rd (YK ([(⟨(ge V k), (ge (V.drop (k + 1)) j)⟩ : Pr)]))) rfl rfl (lb rfl) (fun _ _ h => Zdb ZC Zj9 (by decide) rfl rfl (h.get 0 rfl) (Zr hS _ h.keep h.x _ (Nat.le_refl _)) (jo hJ h.x)) ?_
       refine kw pm2 ?_
       refine YR (f := prC) (m := 4) (s := 125) ps3 ([(⟨(ge V k), (ge (V.drop (k + 1)) j)⟩ : Pr)]) (fun _ => rfl) ZdU hJ hJ0 rfl rfl rfl (lb rfl) rfl rfl (fun a w h => (h.get 0 rfl)) (by first | omega | (simp; omega) | grind [Zc]) (by first | omega | (simp; omega) | grind [Zc]) fun v6 => ?_
       refine sq (.at b1 3) rfl rfl (lb rfl) (fun _ _ h => Zn Za9 rfl (h.get 8 rfl) h.x) ?_
       refine kw pm1 ?_
       refine ZI (b := b1) (off := 3) (cs := [.lit (.string ((ge d.frames q).label)), .lit (.bool ((ge d.frames q).thm)), Z4 ((ge d.frames q).hyps), .lit vp3, Zb ((ge d.frames q).text), Z4 ((ge d.frames q).dummies), .lit v5, Zb ((ge d.frames q).proof)]) (es := [.lit (.string ((ge d.frames q).label)), .lit (.bool ((ge d.frames q).thm)), Z4 ((ge d.frames q).hyps), .lit v6, Zb ((ge d.frames q).text), Z4 ((ge d.frames q).dummies), .lit v5, Zb ((ge d.frames q).proof)]) hJ hJ0 ZaB rfl rfl rfl (lb rfl) rfl (fun a w h => ⟨(h.get 0 rfl), (h.get 1 rfl)⟩) ?_
       refine seK [8,9,10,11,12,13,14,15,16,17,18,19,20] [_,_,_,_,_,_,_,_,_,_,_,_,_] rfl ?_
       refine nx (YW tb hJ [0,1,2,3,4,5,6,7,8,9,10,11,1001] [.int (j + 1 : Nat),_] [0] [_,_,_,_,_,_,_,_,_,_,_,_,_] rfl ⟨Yv, trivial⟩ ?_)
       refine kw pm2 ?_
       refine kw pm1 ?_
       refine kw pm2 ?_
       exact Xp (j + 1, ws3 ++ ([(⟨(ge V k), (ge (V.drop (k + 1)) j)⟩ : Pr)]), ps3 ++ ([(⟨(ge V k), (ge (V.drop (k + 1)) j)⟩ : Pr)]), v5, v6) [0,1,2,3,4,5,6,7,8,9,10,11,12] ⟨by omega, by rw [XT (by omega), ← List.append_assoc, ← f3_2], by first | (simp; omega) | omega, by first | (simp; omega) | omega⟩
      ·
       try simp at hb7
       refine Zf (nx (YW tb hJ [0,1,2,3,4,5,6,7,8,9,10,11,1001] [.int (j + 1 : Nat),_] [0] [_,_,_,_,_,_,_,_,_,_,_,_,_] rfl ⟨Yv, trivial⟩ ?_))
       refine kw pm1 ?_
       refine kw pm1 ?_
       refine kw pm2 ?_
       exact Xp (j + 1, ws3 ++ ([(⟨(ge V k), (ge (V.drop (k + 1)) j)⟩ : Pr)]), ps3, v5, vp3) [0,1,2,3,4,5,6,7,8,9,10,11,12] ⟨by omega, by rw [XT (by omega), ← List.append_assoc, ← f3_2], by first | (simp; omega) | omega, by first | (simp; omega) | omega⟩
     ·
      try simp at hb6
      refine ZA (nx (YW tb hJ [0,1,2,3,4,5,6,7,1001] [.int (k + 1 : Nat),_] [0] [_,_,_,_,_,_,_,_,_] rfl ⟨Yv, trivial⟩ ?_))
      exact Xp (k + 1, ws3, ps3, vw3, vp3) [0,1,2,3,4,5,6,7,8] ⟨by omega, by rw [ZnF, f3_2, ZJ (by omega)], by omega, f3_4⟩
    ·
     try simp at hb5
     have e8 : ws = prK V V.length := by rw [f2_2, show k = V.length by omega]
     have e9 : Zqa (QA ((ge d.frames q).hyps ++ (ge d.frames q).dummies)) ws := e8 ▸ ZsC hVm
     refine ZA (nx (tw pm1 ?_))
     refine tw pm2 ?_
     refine tw (fun h => Zae (j := 6) (cs' := [.lit (.string ((ge d.frames q).label)), .lit (.bool ((ge d.frames q).thm)), Z4 ((ge d.frames q).hyps), .lit vp, Zb ((ge d.frames q).text), Z4 ((ge d.frames q).dummies), YK ws, Zb ((ge d.frames q).proof)]) hS rfl rfl h) ?_
     refine tsq ?_
     refine snK 1 tb rfl ?_
     refine ZW ZcY hJ rfl rfl rfl (lb rfl) fun b7 => ?_
     refine ZE (b := b7) (off := 0) (cs := [Zb ([] : List ByteArray), Zb ([] : List ByteArray), Zan ([] : List Fr)]) (es := [Zb d.consts, Zb d.vars, Zan d.frames]) (news := [Zb d.consts, Zb d.vars, Zan d.frames]) hJ hJ0 ZfT rfl rfl rfl (lb rfl) rfl (fun a w h => ⟨(h.get 0 rfl), (h.get 1 rfl)⟩) ?_
     refine seK [0,3,4,5,6] [_,_,_,_,_] rfl ?_
     refine nx (tw pm1 ?_)
     refine tw pm2 ?_
     refine tw (fun h => Zae (j := 3) (cs' := [.lit (.string ((ge d.frames q).label)), .lit (.bool ((ge d.frames q).thm)), Z4 ((ge d.frames q).hyps), YK ps, Zb ((ge d.frames q).text), Z4 ((ge d.frames q).dummies), YK ws, Zb ((ge d.frames q).proof)]) hS rfl rfl h) ?_
     refine Zo (tw pm1 ?_)
     refine fun a w h => ZeY [OB.var b1 [.lit (.string ((ge d.frames q).label)), .lit (.bool ((ge d.frames q).thm)), Z4 ((ge d.frames q).hyps), YK ps, Zb ((ge d.frames q).text), Z4 ((ge d.frames q).dummies), YK ws, Zb ((ge d.frames q).proof)]] (γ := Value × Value) (fun ix' => ([.ptr [Zan d.frames], .rd (Zan d.frames), .int (q : Nat), .rd (Zan (d.frames.take q)), .any, .agg (frC (wdF (ge d.frames q) ws ps)), .rd (Zan ([(wdF (ge d.frames q) ws ps)])), .rd (Zan ((d.frames.take q) ++ ([(wdF (ge d.frames q) ws ps)]))), .at b7 2, .any] : List AV).getD ix' .any) (fun _ => true) [(17, fun (g : Value × Value) => .at b7 0), (6, fun (g : Value × Value) => .ptr (vdC ((XY d (q : Int)).1))), (5, fun (g : Value × Value) => .int (q : Nat))] (fun (D : Nat → Bool) (g : Value × Value) => (if D 1 then [] else if D 0 then [OB.row g.1 37 8 ((d.frames.take q).map frC)] else []) ++ (if D 2 then [OB.var b7 [Zb d.consts, Zb d.vars, Zan ((d.frames.take q) ++ ([(wdF (ge d.frames q) ws ps)]))], OB.var b1 [.lit (.string ((ge d.frames q).label)), .lit (.bool ((ge d.frames q).thm)), Z4 ((ge d.frames q).hyps), YK ps, Zb ((ge d.frames q).text), Z4 ((ge d.frames q).dummies), YK ws, Zb ((ge d.frames q).proof)]] else [OB.var b7 [Zb d.consts, Zb d.vars, Zan d.frames], OB.var b1 [.lit (.string ((ge d.frames q).label)), .lit (.bool ((ge d.frames q).thm)), Z4 ((ge d.frames q).hyps), YK ps, Zb ((ge d.frames q).text), Z4 ((ge d.frames q).dummies), YK ws, Zb ((ge d.frames q).proof)]])) (fun (k' : Nat) (g : Value × Value) => match k' with | 0 => g.1 | 1 => g.2 | _ => undef) [4, 7, 9] (undef, undef) (fun _ => rfl) h hJ Ye rfl rfl rfl rfl (fun D g p hp => List.mem_append_right _ (by cases D 2 <;> exact List.mem_cons_of_mem _ hp)) ⟨?_, ⟨?_, ⟨?_, ⟨?_, ⟨?_, ⟨?_, ⟨?_, ⟨?_, ⟨?_, ⟨?_, trivial⟩⟩⟩⟩⟩⟩⟩⟩⟩⟩ ⟨?e31_0, ⟨?e31_1, ⟨?e31_2, trivial⟩⟩⟩ ⟨.old 0 17 _ rfl rfl, ⟨.old 2 6 _ rfl rfl, ⟨.old 4 5 _ rfl rfl, trivial⟩⟩⟩ ?n31
     exact oX rfl fun hx hl => ZU Qq rfl (hl.env 3 2 _ rfl rfl) hx
     exact oX rfl fun hx hl => Zy Zgk rfl (hl.D 0 135 rfl rfl) hx
     exact oX rfl fun hx hl => Ys rfl (hl.env 4 5 _ rfl rfl) hx
     exact oX rfl fun hx hl => Za2 (ys := d.frames.take q) (lo := 0) (hi := q) List.drop_zero Yh (fun _ => rfl) rfl (hl.D 1 136 rfl rfl) rfl (hl.D 2 137 rfl rfl) (by first | omega | (simp; omega) | grind [Zc]) (by first | omega | (simp; omega) | grind [Zc]) hx
     exact Zl rfl
     exact fun _ O' hO' => ⟨rfl, fun _ _ _ hx hl _ => Yd (cs := [.lit (.string ((ge d.frames q).label)), .lit (.bool ((ge d.frames q).thm)), Z4 ((ge d.frames q).hyps), YK ps, Zb ((ge d.frames q).text), Z4 ((ge d.frames q).dummies), YK ws, Zb ((ge d.frames q).proof)]) (ds := [.lit (.string ((ge d.frames q).label)), .lit (.bool ((ge d.frames q).thm)), Z4 ((ge d.frames q).hyps), YK ps, Zb ((ge d.frames q).text), Z4 ((ge d.frames q).dummies), YK ws, Zb ((ge d.frames q).proof)]) ZfA rfl (Zd hx (hO' _ (mo 0 rfl))) (hl.env 1 8 _ rfl rfl) rfl rfl hx⟩
     exact fun _ O' _ => ⟨rfl, fun a w hk hx hl _ => Zf5 (z := #[.string ⟨#[]⟩, .bool false, .slice none 0 0, .slice none 0 0, .slice none 0 0, .slice none 0 0, .slice none 0 0, .slice none 0 0]) (cs := [frC (wdF (ge d.frames q) ws ps)]) (vs := [a.eval (Go.Operand.tmp 140)]) Yh (fun w => by kernel_rfl) rfl (by simp) (Za (hl.D 5 140 rfl rfl) Ze) (of_decide_eq_true rfl) rfl (by decide) (by decide) (by decide) (Zr hS _ hk hx _ (Nat.le_refl _)) (jo hJ hx)⟩
     exact Zl rfl
     exact oX rfl fun hx hl => Zn Qq rfl (hl.env 0 17 _ rfl rfl) hx
     exact Zl rfl
     case e31_0 =>
      refine ⟨_, rfl, rfl, rfl, fun D g a w hD hpre hcl hk hx hl hs => ?_⟩
      have d0 := hD
      have d1 : D 1 = false := by cases hq : D 1 with | false => rfl | true => exact absurd (hcl 1 0 7 4 rfl rfl hq (by decide)) (by simp [d0])
      have d2 : D 2 = false := by cases hq : D 2 with | false => rfl | true => exact absurd (hcl 2 0 9 4 rfl rfl hq (by decide)) (by simp [d0])
      simp only [ZfD, d0, d1, d2, if_true, if_false, Bool.false_eq_true, List.nil_append, Nat.reduceEqDiff, List.cons_append] at hx hl ⊢
      exact Zs (ZrR (O := []) (R := [OB.var b7 [Zb d.consts, Zb d.vars, Zan d.frames], OB.var b1 [.lit (.string ((ge d.frames q).label)), .lit (.bool ((ge d.frames q).thm)), Z4 ((ge d.frames q).hyps), YK ps, Zb ((ge d.frames q).text), Z4 ((ge d.frames q).dummies), YK ws, Zb ((ge d.frames q).proof)]]) (ZnY hJ (xs := (d.frames.take q)) (by first | omega | (simp; omega) | grind [Zc])) Zsv rfl hS hJ0 Zt hk hx (Za (hl.D 3 138 rfl rfl) Ze)) fun v w' ⟨i, hp, hv⟩ => ⟨(i, g.2), (fun k' hk' => by rcases k' with _ | _ | k' <;> first | rfl | simp_all), fun _ => hv.lit, by simp only [List.getD_eq_getElem?_getD, List.getElem?_cons_succ, List.getElem?_cons_zero, Option.getD_some, Rel], hp⟩
     case e31_1 =>
      refine ⟨_, rfl, rfl, rfl, fun D g a w hD hpre hcl hk hx hl hs => ?_⟩
      have d1 := hD
      have d0 : D 0 = true := hpre 0 4 rfl (by decide)
      have d2 : D 2 = false := by cases hq : D 2 with | false => rfl | true => exact absurd (hcl 2 1 9 7 rfl rfl hq (by decide)) (by simp [d1])
      simp only [ZfD, d0, d1, d2, if_true, if_false, Bool.false_eq_true, List.nil_append, Nat.reduceEqDiff, List.cons_append] at hx hl ⊢
      exact Zs (ZgJ (f := frC) (d.frames.take q) ([(wdF (ge d.frames q) ws ps)]) (fun _ => rfl) ZgY hS hJ hJ0 rfl hk hx (hs 0 4 _ 139 d0 rfl rfl rfl) (hl.D 6 141 rfl rfl) (by first | omega | (simp; omega) | grind [Zc]) (by first | omega | (simp; omega) | grind [Zc])) fun v w' ⟨hr, hp⟩ => ⟨(g.1, v), (fun k' hk' => by rcases k' with _ | _ | k' <;> first | rfl | simp_all), fun _ => rfl, hr, hp⟩
     case e31_2 =>
      refine ⟨_, rfl, rfl, rfl, fun D g a w hD hpre hcl hk hx hl hs => ?_⟩
      have d2 := hD
      have d1 : D 1 = true := hpre 1 7 rfl (by decide)
      have d0 : D 0 = true := hpre 0 4 rfl (by decide)
      simp only [ZfD, d0, d1, d2, if_true, if_false, Bool.false_eq_true, List.nil_append, Nat.reduceEqDiff] at hx hl ⊢
      exact Zs (Zor (off := 2) (cs := [Zb d.consts, Zb d.vars, Zan d.frames]) (es := [Zb d.consts, Zb d.vars, Zan ((d.frames.take q) ++ ([(wdF (ge d.frames q) ws ps)]))]) (c := Zan ((d.frames.take q) ++ ([(wdF (ge d.frames q) ws ps)]))) hJ hJ0 ZkT rfl hk hx (hl.D 8 143 rfl rfl) (hl.D 7 142 rfl rfl) (lb rfl) rfl) fun v w' hp => ⟨g, fun _ _ => rfl, fun e => (by cases e), by simp only [List.getD_eq_getElem?_getD, List.getElem?_cons_succ, List.getElem?_cons_zero, Option.getD_some, Rel], hp⟩
     clear a w h
     intro _
     dsimp only [List.map]
     refine nx (tsq ?_)
     refine sq (.agg (dbC (wdD d q ws ps))) rfl rfl (lb rfl) (fun _ _ h => Yd (cs := [Zb d.consts, Zb d.vars, Zan ((d.frames.take q) ++ ([(wdF (ge d.frames q) ws ps)]))]) (ds := [Zb d.consts, Zb d.vars, Zan ((d.frames.take q) ++ ([(wdF (ge d.frames q) ws ps)]))]) ZcS rfl (Zd h.x (mo 0 rfl)) (h.get 0 rfl) rfl rfl h.x) ?_
     refine snK 1 tb rfl ?_
     refine sq (.tup [.agg (vdC ((XY (wdD d q ws ps) (q : Int)).1)), .int ((XY (wdD d q ws ps) (q : Int)).2)]) rfl rfl (lb rfl) (fun _ _ h => Ze1 (Zdd hJ (d := (wdD d q ws ps)) (z := (q : Int)) (by first | exact hw | exact wd_hw (n := q) (wd := ws) (ap := ps) hw (by omega)) (by exact hG) (by first | exact hpl | exact wd_pl (n := q) (wd := ws) (ap := ps) hq2 hpl)) ZmA rfl (Zr hS _ h.keep h.x) (h.x.1) (Za (h.get 1 rfl) (Za (h.get 0 rfl) Ze)) (jo hJ h.x)) ?_
     refine snK 3 tb rfl ?_
     refine XZ (cs := vdC ((XY (wdD d q ws ps) (q : Int)).1)) ZeO rfl rfl rfl (lb rfl) rfl rfl rfl (by decide) (m := 1) rfl rfl (fun a w h => Zr hS _ h.keep h.x _ (Nat.le_refl _)) (fun a w h w' hk' => Yl hJ _ _ hk' h.x) ?_
     refine snK 1 tb rfl ?_
     refine seK [0,1,9] [_,_,_] rfl ?_
     refine nx (ZN tb hJ [1010] [_,_,_,_,_,.bool (decide (((XY (wdD d q ws ps) (q : Int)).1).1 = ((XY d (q : Int)).1).1) && decide (((XY (wdD d q ws ps) (q : Int)).1).2 = ((XY d (q : Int)).1).2)),_,_,.bool true,_,_] [5,8] [_] rfl ⟨fun _ _ _ hx hl hc => r_eqlV eqVd rfl (hl.D 3 153 rfl hc) (hl.D 4 154 rfl hc) hx, fun _ _ hk hx _ hc => Ze1 (Zg6 hJ  (by have hc' : (((!decide ((XY (wdD d q ws ps) (q : Int)).2 = (0 : Int))) || (decide (((XY (wdD d q ws ps) (q : Int)).1).1 = ((XY d (q : Int)).1).1) && decide (((XY (wdD d q ws ps) (q : Int)).1).2 = ((XY d (q : Int)).1).2))) == true) = true := hc; (try simp at hc'); (exact hG))) ZmC rfl (Zr hS _ hk hx) (hx.1) Ze (jo hJ hx), trivial⟩ ?_)
     exact Zi (Qm (m := 0) rfl rfl (eB (by first | rfl | exact ZgZ (wd := ws) (ap := ps) e2 h2.2 h2.1.2 e9 | simpa using ZgZ (wd := ws) (ap := ps) e2 h2.2 h2.1.2 e9)))
end Go.Proofs.YtgifeodnngodiaaGreatDoor
