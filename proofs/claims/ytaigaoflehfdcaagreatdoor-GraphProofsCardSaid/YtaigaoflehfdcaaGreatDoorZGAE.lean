/-
  BLOCKS OF THE CALL'S OWN: rows of integers and of bools, boxes; what a store makes of them.
-/
import Derived.Test.YtaigaoflehfdcaaGreatDoorZGB
import Derived.Deep.OwnRows
namespace Go.Proofs.YtaigaoflehfdcaaGreatDoor
open Go.RowKit
def IsRow (w:World) (b:Nat) (e:TypeId) (L:List Value):Prop:=w.heap[b]?=some (.cells L.toArray e (0,0))
theorem IsRow.lt {w:World} {b:Nat} {e:TypeId} {L:List Value} (h:IsRow w b e L):b<w.heap.size:=(Array.getElem?_eq_some_iff.1 h).1
theorem IsRow.cell {w:World} {b:Nat} {e:TypeId} {L:List Value} (h:IsRow w b e L) (k:Nat):w.cell? ⟨b,k,none⟩=L[k]?:=by
 unfold IsRow at h
 simp[World.cell?,h]
theorem IsRow.frozen {w:World} {b:Nat} {e:TypeId} {L:List Value} (h:IsRow w b e L) (k:Nat):w.frozen? ⟨b,k,none⟩=false:=by
 unfold IsRow at h
 simp[World.frozen?,h]
theorem IsRow.keep {S:Nat→Prop} {w w':World} {b:Nat} {e:TypeId} {L:List Value} (h:IsRow w b e L) (hk:Keeps S w w') (hs:S b):IsRow w' b e L:=
 (hk.block b h.lt hs).trans h
theorem IsRow.set {w:World} {b:Nat} {e:TypeId} {L:List Value} (h:IsRow w b e L) (k:Nat) (v:Value):IsRow (w.setCell ⟨b,k,none⟩ v) b e (L.set k v):=by
 unfold IsRow at h ⊢
 simp[World.setCell,Array.getElem?_modify,h]
theorem IsRow.other {w:World} {b:Nat} {e:TypeId} {L:List Value} (h:IsRow w b e L) {b':Nat} (hne:b≠b') (k:Nat) (v:Value):IsRow (w.setCell ⟨b',k,none⟩ v) b e L:=by
 unfold IsRow at h ⊢
 rw[Below.heap_setCell _ _ _ _ hne];exact h
theorem IsRow.alloc {w:World} {b:Nat} {e:TypeId} {L:List Value} (h:IsRow w b e L) (o:Obj):IsRow (w.alloc o) b e L:=by
 unfold IsRow at h ⊢
 rw[Below.heap_alloc _ _ _ (Array.getElem?_eq_some_iff.1 h).1];exact h
theorem IsRow.drew {w:World} {b:Nat} {e:TypeId} {L:List Value} (h:IsRow w b e L):IsRow w.drew b e L:=h
theorem IsRow.new (w:World) (e:TypeId) (L:List Value):IsRow (w.alloc (.cells L.toArray e)) w.heap.size e L:=by
 unfold IsRow
 show(w.heap.push _)[w.heap.size]?=_
 simp
theorem IsRow.newAt {w:World} {e:TypeId} {L:List Value} {b:Nat} (hb:b=w.heap.size):IsRow (w.alloc (.cells L.toArray e)) b e L:=hb▸IsRow.new w e L
theorem IsRow.two {w:World} {b:Nat} {e:TypeId} {x y:Value} (h:IsRow w b e [x,y]):
 w.cell? ⟨b,0,none⟩=some x∧w.cell? ⟨b,1,none⟩=some y∧w.frozen? ⟨b,0,none⟩=false∧w.frozen? ⟨b,1,none⟩=false:=
 ⟨h.cell 0,h.cell 1,h.frozen 0,h.frozen 1⟩
theorem IsRow.one {w:World} {b:Nat} {e:TypeId} {x:Value} (h:IsRow w b e [x]):w.cell? ⟨b,0,none⟩=some x∧w.frozen? ⟨b,0,none⟩=false:=⟨h.cell 0,h.frozen 0⟩
def ints (xs:List Int):List Value:=xs.map (Value.int .i64)
@[simp] theorem ints_length (xs:List Int):(ints xs).length=xs.length:=by simp[ints]
theorem Q9 (xs:List Int) (k:Nat):(ints xs)[k]?=xs[k]?.map (Value.int .i64):=by simp[ints]
theorem ZdS (xs:List Int) (k:Nat) (x:Int):(ints xs).set k (.int .i64 x)=ints (xs.set k x):=by simp[ints,List.map_set]
def bools (xs:List Bool):List Value:=xs.map Value.bool
@[simp] theorem bools_length (xs:List Bool):(bools xs).length=xs.length:=by simp[bools]
theorem ZoF (xs:List Bool) (k:Nat):(bools xs)[k]?=xs[k]?.map Value.bool:=by simp[bools]
theorem ZoE (xs:List Bool) (k:Nat) (x:Bool):(bools xs).set k (.bool x)=bools (xs.set k x):=by simp[bools,List.map_set]
theorem IsRow.ints_cell {w:World} {b:Nat} {e:TypeId} {xs:List Int} (h:IsRow w b e (ints xs)) {k:Nat} (hk:k<xs.length):w.cell? ⟨b,k,none⟩=some (.int .i64 xs[k]):=by
 rw[h.cell,Q9,List.getElem?_eq_getElem hk];rfl
theorem IsRow.isInts {w:World} {b:Nat} {e:TypeId} {xs:List Int} (h:IsRow w b e (ints xs)) (S:Nat→Prop) (hS:S b) (hl:xs.length≤140737488351232)
 (hx:∀ x∈xs, -9223372036854775808≤x∧x≤9223372036854775807) (cap:Nat):IsInts S w (.slice (some ⟨b,0,none⟩) xs.length cap) xs:=
 ⟨_,cap,rfl,hl,hx,Or.inr ⟨b,0,rfl,h.lt,hS,fun i hi=>by rw[Nat.zero_add];exact h.ints_cell hi⟩⟩
theorem Zni (n:Nat):(madeCells #[.int .i64 0] n)=(ints (List.replicate n 0)).toArray:=by
 apply Array.toList_inj.1
 rw[toList_madeCells_one];simp[ints]
theorem Zln (n:Nat):(madeCells #[.bool false] n)=(bools (List.replicate n false)).toArray:=by
 apply Array.toList_inj.1
 rw[toList_madeCells_one];simp[bools]
theorem Zj9:(Tryz.prog.info? 3).map (fun i=>(i.zero,i.size,i.bytes))=some (some (.int .i64 0),1,8):=by kernel_rfl
theorem ZnD:(Tryz.prog.info? 4).map (fun i=>(i.zero,i.size,i.bytes))=some (some (.bool false),1,1):=by kernel_rfl
theorem ZhO:(Tryz.prog.info? 69).map (fun i=>(i.zero,i.size,i.bytes))=some (some (.agg #[.string ⟨#[]⟩,.slice none 0 0]),2,40):=by kernel_rfl
theorem Zey (n:Nat) (hn:n≤2000) (w:World):(Instr.makeSlice 67 (.int .i64 (n:Int)) (.int .i64 (n:Int))).run Tryz.prog w=
 .ok (.slice (some ⟨w.heap.size,0,none⟩) n n) (w.alloc (.cells (ints (List.replicate n 0)).toArray 3)):=by
 rw[←Zni]
 exact run_make_row' 67 3 (.int .i64 0) 8 Tryz.underlying67 Zj9 rfl .i64 .i64 n (by omega) (by omega) w
theorem Zll (n:Nat) (hn:n≤2000) (w:World):(Instr.makeSlice 138 (.int .i64 (n:Int)) (.int .i64 (n:Int))).run Tryz.prog w=
 .ok (.slice (some ⟨w.heap.size,0,none⟩) n n) (w.alloc (.cells (bools (List.replicate n false)).toArray 4)):=by
 rw[←Zln]
 exact run_make_row' 138 4 (.bool false) 1 Tryz.underlying138 ZnD rfl .i64 .i64 n (by omega) (by omega) w
end Go.Proofs.YtaigaoflehfdcaaGreatDoor
