/-
  HOW THE DATA OF THIS SEAT'S FUNCTIONS LIE IN MEMORY: slices of integers, slices of steps, proofs; what keeps them.
-/
import Derived.Test.YtaigaoflehfdcaaGreatDoorRows
import Derived.Test.YtaigaoflehfdcaaGreatDoorZGA
import Derived.WalkKit
import Derived.WalkSpells
import Derived.WalkLawsBesides
namespace Go.Proofs.YtaigaoflehfdcaaGreatDoor
open Go.RowKit
theorem hid {p:Prop} (h:p):Hid p:=h
theorem ZcW {k:IntKind} {a b:Int} (h:a=b):Ending.returned (.int k a)= .returned (.int k b):=by rw[h]
theorem Zay {a b:Bool} (h:a=b):Ending.returned (.bool a)= .returned (.bool b):=by rw[h]
structure Keeps (S:Nat→Prop) (A B:World):Prop where
 os:B.os=A.os
 tape:B.tape=A.tape
 output:B.output=A.output
 size:A.heap.size≤B.heap.size
 block:∀ k,k<A.heap.size→S k→B.heap[k]?=A.heap[k]?
theorem Keeps.refl (S:Nat→Prop) (A:World):Keeps S A A:=⟨rfl,rfl,rfl,Nat.le_refl _,fun _ _ _=>rfl⟩
theorem Keeps.trans {S:Nat→Prop} {A B C:World} (h:Keeps S A B) (k:Keeps S B C):Keeps S A C:=
 ⟨k.os.trans h.os,k.tape.trans h.tape,k.output.trans h.output,Nat.le_trans h.size k.size,fun i hi hs=>(k.block i (Nat.lt_of_lt_of_le hi h.size) hs).trans (h.block i hi hs)⟩
theorem Keeps.sub {S T:Nat→Prop} {A B:World} (h:Keeps S A B) (hs:∀ k,k<A.heap.size→T k→S k):Keeps T A B:=
 ⟨h.os,h.tape,h.output,h.size,fun k hk ht=>h.block k hk (hs k hk ht)⟩
theorem Keeps.below {S:Nat→Prop} {A B:World} (h:Keeps S A B) {n:Nat} (hn:n≤A.heap.size) (hs:∀ k,k<n→S k):Below n A B:=
 ⟨h.os,h.tape,h.output,h.size,fun k hk=>h.block k (by omega) (hs k hk)⟩
theorem Keeps.of_below {n:Nat} {A B:World} (h:Below n A B):Keeps (· <n) A B:=⟨h.os,h.tape,h.output,h.size,fun k _ hs=>h.block k hs⟩
theorem Keeps.drew {S:Nat→Prop} {A B:World} (h:Keeps S A B):Keeps S A B.drew:=⟨h.os,h.tape,h.output,h.size,h.block⟩
theorem Keeps.alloc {S:Nat→Prop} {A B:World} (h:Keeps S A B) (o:Obj):Keeps S A (B.alloc o):=
 h.trans ⟨rfl,rfl,rfl,by simp,fun k hk _=>Below.heap_alloc _ _ _ hk⟩
theorem Keeps.setCell {S:Nat→Prop} {A B:World} (h:Keeps S A B) {p:Addr} (hp:p.block<A.heap.size→¬ S p.block) (u:Value):Keeps S A (B.setCell p u):=
 ⟨h.os,h.tape,h.output,by have:=h.size;simp[World.setCell];exact this,fun k hk hs=>by
  rw[Below.heap_setCell _ _ _ _ (fun e=>hp (e▸hk) (e▸hs))];exact h.block k hk hs⟩
theorem Keeps.putObj {S:Nat→Prop} {A B:World} (h:Keeps S A B) {r:Nat} (hr:r<A.heap.size→¬ S r) (o:Obj):Keeps S A { B with heap:=B.heap.setIfInBounds r o }:=
 ⟨h.os,h.tape,h.output,by have:=h.size;simpa using this,fun k hk hs=>by
  have hne:r≠k:=fun e=>hr (e▸hk) (e▸hs)
  show(B.heap.setIfInBounds r o)[k]?=_
  rw[Array.getElem?_setIfInBounds_ne hne];exact h.block k hk hs⟩
theorem Keeps.cell {S:Nat→Prop} {A B:World} (h:Keeps S A B) {p:Addr} {v:Value} (hs:S p.block) (hc:A.cell? p=some v):B.cell? p=some v:=by
 have hlt:p.block<A.heap.size:=by
  unfold World.cell? at hc
  cases hb:A.heap[p.block]? with
  | none=>simp[hb]at hc
  | some o=>exact(Array.getElem?_eq_some_iff.1 hb).1
 rw[←hc];exact World.cell?_of_block (w:=A) (h.block p.block hlt hs)
def IsInts (S:Nat→Prop) (w:World) (v:Value) (xs:List Int):Prop:=
 ∃ a cap,v= .slice a xs.length cap∧xs.length≤140737488351232∧(∀ x∈xs, -9223372036854775808≤x∧x≤9223372036854775807)∧
  ((xs=[]∧True)∨ ∃ b off,a=some ⟨b,off,none⟩∧b<w.heap.size∧S b∧∀ i (h:i<xs.length),w.cell? ⟨b,off+i,none⟩=some (.int .i64 xs[i]))
theorem IsInts.keep {S T:Nat→Prop} {w w':World} {v:Value} {xs:List Int} (h:IsInts S w v xs) (hk:Keeps T w w') (hs:∀ k,k<w.heap.size→S k→T k):IsInts S w' v xs:=by
 obtain⟨a,cap,hv,hl,hx,h⟩:=h
 refine⟨a,cap,hv,hl,hx,?_⟩
 rcases h with h | ⟨b,off,ha,hB,hS,hc⟩
 · exact Or.inl h
 · exact Or.inr ⟨b,off,ha,by have:=hk.size;omega,hS,fun i hi=>hk.cell (hs _ hB hS) (hc i hi)⟩
theorem IsInts.sub {S T:Nat→Prop} {w:World} {v:Value} {xs:List Int} (h:IsInts S w v xs) (hs:∀ k,k<w.heap.size→S k→T k):IsInts T w v xs:=by
 obtain⟨a,cap,hv,hl,hx,h⟩:=h
 refine⟨a,cap,hv,hl,hx,?_⟩
 rcases h with h | ⟨b,off,ha,hB,hS,hc⟩
 · exact Or.inl h
 · exact Or.inr ⟨b,off,ha,hB,hs _ hB hS,hc⟩
def ZkQ (S:Nat→Prop) (w:World) (v:Value) (s:Stp):Prop:=
 ∃ va,v= .agg #[.string s.label,va]∧IsInts S w va s.args
def IsSteps (S:Nat→Prop) (w:World) (v:Value) (ss:List Stp):Prop:=
 ∃ a cap,v= .slice a ss.length cap∧ss.length≤140737488351232∧
  ((ss=[]∧True)∨ ∃ b off,a=some ⟨b,off,none⟩∧b<w.heap.size∧S b∧
   ∀ i (h:i<ss.length),w.cell? ⟨b,off+i*2,none⟩=some (.string ss[i].label)∧
    ∃ va,w.cell? ⟨b,off+i*2+1,none⟩=some va∧IsInts S w va ss[i].args)
theorem IsSteps.keep {S T:Nat→Prop} {w w':World} {v:Value} {ss:List Stp} (h:IsSteps S w v ss) (hk:Keeps T w w') (hs:∀ k,k<w.heap.size→S k→T k):IsSteps S w' v ss:=by
 obtain⟨a,cap,hv,hl,h⟩:=h
 refine⟨a,cap,hv,hl,?_⟩
 rcases h with h | ⟨b,off,ha,hB,hS,hc⟩
 · exact Or.inl h
 · refine Or.inr ⟨b,off,ha,by have:=hk.size;omega,hS,fun i hi=>?_⟩
   obtain⟨h1,va,h2,h3⟩:=hc i hi
   exact⟨hk.cell (hs _ hB hS) h1,va,hk.cell (hs _ hB hS) h2,h3.keep hk hs⟩
def IsProof (S:Nat→Prop) (w:World) (v:Value) (ss:List Stp):Prop:=∃ u,v= .agg #[u]∧IsSteps S w u ss
theorem IsProof.keep {S T:Nat→Prop} {w w':World} {v:Value} {ss:List Stp} (h:IsProof S w v ss) (hk:Keeps T w w') (hs:∀ k,k<w.heap.size→S k→T k):IsProof S w' v ss:=by
 obtain⟨u,hu,h⟩:=h
 exact⟨u,hu,h.keep hk hs⟩
abbrev All:Nat→Prop:=fun _=>True
end Go.Proofs.YtaigaoflehfdcaaGreatDoor
