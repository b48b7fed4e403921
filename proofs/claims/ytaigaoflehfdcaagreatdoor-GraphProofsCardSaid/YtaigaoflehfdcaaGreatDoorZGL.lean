/-
  THE ENGINE: rows that are made; the greater of two numbers; rows of bools.
-/
import Derived.Test.YtaigaoflehfdcaaGreatDoorZGK
import Derived.Laws.MakeOwn
namespace Go.Proofs.YtaigaoflehfdcaaGreatDoor
open Go.RowKit
def ZuU (P:Program) (t e:TypeId) (bytes:Nat) (z:Value):Prop:=
 P.underlying t=some (.slice e)∧(∃ i,P.info? e=some i∧i.zero=some z∧i.size=1∧i.bytes=bytes)∧z.cells= #[z]∧okLit z
theorem makeT {P:Program} {t e:TypeId} {bytes:Nat} {z:Value} (h1:P.underlying t=some (.slice e)) (hinfo:(P.info? e).map (fun i=>(i.zero,i.size,i.bytes))=some (some z,1,bytes)) (hz:z.cells= #[z]) (ho:okLit z):ZuU P t e bytes z:=by
 refine⟨h1,?_,hz,ho⟩
 cases hi:P.info? e with
 | none=>rw[hi]at hinfo;cases hinfo
 | some i=>
  rw[hi]at hinfo
  simp only[Option.map_some,Option.some.injEq,Prod.mk.injEq]at hinfo
  exact⟨i,rfl,hinfo.1,hinfo.2.1,hinfo.2.2⟩
theorem Zp6 (z:Value) (k:Nat):madeCells #[z] k=(List.replicate k z).toArray:=by
 apply Array.ext
 · simp[madeCells]
 · intro i h1 h2
   simp[madeCells,Nat.mod_one]
section
variable {n:Rn} {N:Nat} {P:Program} {J X:WP} {S S' S'':Nat→Prop} {O:List OB} {w0:World} {env:List (Nat×AV)} {Q:Exit→Act→WP}
theorem ZjN {c:CD} {v:Value} {S:Nat→Prop} {w:World} (h:Rd S w c v):∀ k,RdL S w ((List.replicate k [c]).flatten) (List.replicate k v)
 | 0=>trivial
 | k+1=>⟨h,ZjN h k⟩
theorem Zk2 {ops:Array Oper} {o:Oper} {rest:List Oper} {t e:TypeId} {bytes d k:Nat} {z:Value} {x y:Operand} {α:Type} {f:α→List CD} (a0:α) (ht:ZuU P t e bytes z) (hf:f a0=[.lit z]) (hJ:Stab J) (hg:o.guard=none) (hop:o.op= .makeSlice t x y) (hd:o.dst=some d) (hN:d<N)
 (h1:∀ a w,So J S w0 N O env a w→Rel (SO S O) w (.int (k:Int)) (a.eval x)∧Rel (SO S O) w (.int (k:Int)) (a.eval y)) (hb:bytes*k≤281474976710656) (h63:k≤9223372036854775807)
 (next:∀ v a w,So J S w0 N (OB.row v e 1 ((List.replicate k a0).map f)::O) ((d,.lit v)::YW d env) a w→wpListIn n.F n.d P ops Q rest a w):
 ∀ a w,So J S w0 N O env a w→wpListIn n.F n.d P ops Q (o::rest) a w:=by
 refine ZcU (O2:=fun v=>OB.row v e 1 ((List.replicate k a0).map f)::O) (av:=fun v=>.lit v) hg hd hN (fun a w h=>?_) next
 obtain⟨ht1,⟨i,hi,hz,hs,hbb⟩,hzc,hok⟩:=ht
 obtain⟨g1,g2⟩:=h1 a w h
 have hb':(i.bytes:Int)*(k:Int)≤281474976710656:=by
  rw[hbb]
  have h:((bytes*k:Nat):Int)≤281474976710656:=by omega
  rwa [Int.natCast_mul]at h
 have hrun:=run_make (P:=P) w t e i z ht1 hi hz .i64 .i64 (k:Int) (k:Int) oz (Int.le_refl _) hb' oz
 rw[hs,hzc,Nat.mul_one,Int.toNat_natCast,Zp6]at hrun
 have hk:Keeps All w (w.alloc (.cells (List.replicate k z).toArray e)):=(Keeps.refl _ _).alloc _
 have hrows:(List.replicate k a0).map f=List.replicate k [.lit z]:=by rw[List.map_replicate,hf]
 refine Yb (v:=.slice (some ⟨w.heap.size,0,none⟩) k k) (w':=w.alloc (.cells (List.replicate k z).toArray e)) ?_ ⟨.slice (some ⟨w.heap.size,0,none⟩) k k,Qv hJ h.keep h.x hk (fun b hb=>?_) ?_,Rel.of_lit _⟩
 · simp only[execOp,hop,g1.lit,g2.lit,Sem.run_bind,hrun]
   rfl
 · simp[OB.row,Value.ownBlock]at hb
   omega
 · rw[hrows]
   refine⟨List.replicate k z,⟨by simp,.inr ⟨w.heap.size,k,(List.replicate k z).toArray,by simp,h.keep.size,heap_alloc_new w _,by simp,by unfold maxLen;omega,by simp,by simp⟩⟩,ZjN (.lit z hok) k,fun r hr=>?_⟩
   rw[(List.mem_replicate.1 hr).2];rfl
theorem Zi1 {α:Type} {f:α→List CD} {o:Oper} {a:Act} {w:World} {x y:Operand} {t e:TypeId} {v:Value} {xs:List α} {i:Nat} {c:CD} (u:α) (hf:f u=[c]) (hJ:Stab J) (hJ0:J w0) (hs:Qd P t 1) (hop:o.op= .store t x y) (hk0:Keeps All w0 w) (hx:XO J S w0.heap.size (OB.row v e 1 (xs.map f)::O) w) (h1:Rel S' w (.lit (XG v (i*1))) (a.eval x))
 (h2:Rel (SO S (OB.row v e 1 (xs.map f)::O)) w (.rd c) (a.eval y)) (hl:i<xs.length):
 Yr n P o a w fun _ w'=>ZdJ J S w0 (OB.row v e 1 (xs.map f)::O) w (OB.row v e 1 ((xs.set i u).map f)::O) w':=by
 have h2':=h2
 simp only[Rel]at h2'
 rw[List.map_set,hf]
 exact ZC (Zdb (news:=[c]) hJ hJ0 hs hop hk0 hx h1 (ZcD h2'.one) ⟨h2',trivial⟩ (by rw[List.length_map];exact hl) rfl) fun _ _ ⟨_,h⟩=>h
end
end Go.Proofs.YtaigaoflehfdcaaGreatDoor
