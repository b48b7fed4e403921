/-
  Part of the proof that MinimizeChecks returns true. Conditions: none.
-/
import Derived.Test.YtdfadihhfppjaaaGreatDoorRows
import Derived.Test.YtdfadihhfppjaaaGreatDoorBEA
import Derived.WalkKit
import Derived.WalkSpells
import Derived.WalkLawsBesides
namespace Go.Proofs.YtdfadihhfppjaaaGreatDoor
open Go.RowKit
theorem hid {p:Prop} (h:p):Hid p:=h
structure Keeps (S:Nat->Prop) (A B:World):Prop where
 os:B.os=A.os
 tape:B.tape=A.tape
 output:B.output=A.output
 size:A.heap.size<=B.heap.size
 block:∀ k,k<A.heap.size->S k->B.heap[k]?=A.heap[k]?
theorem Keeps.refl (S:Nat->Prop) (A:World):Keeps S A A:=⟨rfl,rfl,rfl,Nat.le_refl _,λ_ _ _=>rfl⟩
theorem Keeps.trans {S:Nat->Prop} {A B C:World} (h:Keeps S A B) (k:Keeps S B C):Keeps S A C:=
 ⟨k.os.trans h.os,k.tape.trans h.tape,k.output.trans h.output,Nat.le_trans h.size k.size,λi hi hs=>(k.block i (Nat.lt_of_lt_of_le hi h.size) hs).trans (h.block i hi hs)⟩
theorem Keeps.sub {S T:Nat->Prop} {A B:World} (h:Keeps S A B) (hs:∀ k,k<A.heap.size->T k->S k):Keeps T A B:=
 ⟨h.os,h.tape,h.output,h.size,λk hk ht=>h.block k hk (hs k hk ht)⟩
theorem Keeps.below {S:Nat->Prop} {A B:World} (h:Keeps S A B) {n:Nat} (hn:n<=A.heap.size) (hs:∀ k,k<n->S k):Below n A B:=
 ⟨h.os,h.tape,h.output,h.size,λk hk=>h.block k (by omega) (hs k hk)⟩
theorem Keeps.of_below {n:Nat} {A B:World} (h:Below n A B):Keeps (· <n) A B:=⟨h.os,h.tape,h.output,h.size,λk _ hs=>h.block k hs⟩
theorem Keeps.drew {S:Nat->Prop} {A B:World} (h:Keeps S A B):Keeps S A B.drew:=⟨h.os,h.tape,h.output,h.size,h.block⟩
theorem Keeps.alloc {S:Nat->Prop} {A B:World} (h:Keeps S A B) (o:Obj):Keeps S A (B.alloc o):=
 h.trans ⟨rfl,rfl,rfl,by simp,λk hk _=>Below.heap_alloc _ _ _ hk⟩
theorem Keeps.putObj {S:Nat->Prop} {A B:World} (h:Keeps S A B) {r:Nat} (hr:r<A.heap.size->¬ S r) (o:Obj):Keeps S A { B with heap:=B.heap.setIfInBounds r o }:=
 ⟨h.os,h.tape,h.output,by have:=h.size;simpa using this,λk hk hs=>by
  have hne:r≠k:=λe=>hr (e▸hk) (e▸hs)
  show(B.heap.setIfInBounds r o)[k]?=_
  rw[Array.getElem?_setIfInBounds_ne hne];exact h.block k hk hs⟩
theorem Keeps.cell {S:Nat->Prop} {A B:World} (h:Keeps S A B) {p:Addr} {v:Value} (hs:S p.block) (hc:A.cell? p=some v):B.cell? p=some v:=by
 have hlt:p.block<A.heap.size:=by
  unfold World.cell? at hc
  cases hb:A.heap[p.block]? with
  | none=>simp[hb]at hc
  | some o=>exact(Array.getElem?_eq_some_iff.1 hb).1
 rw[<-hc];exact World.cell?_of_block (w:=A) (h.block p.block hlt hs)
abbrev All:Nat->Prop:=λ_=>True
end Go.Proofs.YtdfadihhfppjaaaGreatDoor
