/-
  THE ENGINE: rows that are made; the greater of two numbers; rows of bools.
  THE ENGINE: a graph over a row of the call's own, built and boxed in a drawn region.
-/
import Derived.Test.YtneapgbkkkjagaaGreatDoorYJ
import Derived.Laws.MakeOwn
namespace Go.Proofs.YtneapgbkkkjagaaGreatDoor
open Go.RowKit
theorem ZtK {a b c d:AV} (h:a=c) (k:b=d):AV.tup [a,b]=AV.tup [c,d]:=by rw[h,k]
section
variable {n:Rn} {N:Nat} {P:Program} {J X:WP} {S S' S'':Nat→Prop} {O:List OB} {w0:World} {env:List (Nat×AV)} {Q:Exit→Act→WP}
end
section
variable {n:Rn} {N:Nat} {P:Program} {J X:WP} {S S' S'':Nat→Prop} {O:List OB} {w0:World} {env:List (Nat×AV)} {Q:Exit→Act→WP}
abbrev Zuw (cs:List CD) (x:Value):OB:=OB.was fun av v=>av=AV.agg cs∧v=x
theorem Zsg {o:Oper} {a:Act} {w:World} {cs:List CD} (hk:Keeps All w0 w) (h:Yj n P o a w (YB (SO S O) (XO J S w0.heap.size O) (.agg cs) w)):
 Yj n P o a w fun v w'=>Zbp J S w0 O w (Zuw cs v::O) w':=by
 refine Zx h fun v w' ⟨h1,h2,h3⟩=>?_
 have hsub:∀ k,SO S O k→SO S (Zuw cs v::O) k:=fun k hs=>⟨hs.1,fun p hp=>by
  rcases List.mem_cons.1 hp with rfl | hp
  · exact fun e=>e
  · exact hs.2 p hp⟩
 refine⟨hk.trans h2,⟨h3.1,fun p hp=>?_,.cons (fun _ _ _ e=>e.elim) h3.2.2⟩,fun av u hr=>(hr.on h2).sub fun k _=>hsub k⟩
 rcases List.mem_cons.1 hp with rfl | hp
 · rintro av u ⟨rfl,rfl⟩
   exact h1.sub fun k _=>hsub k
 · exact OB.sub (h3.2.1 p hp) fun k _=>hsub k
theorem d_boxW {o:Oper} {a:Act} {w:World} {cs:List CD} {x:Operand} {v:Value} {t:TypeId} (hJ:Stab J) (hop:o.op= .box t x) (hv:a.eval x=v) (hk0:Keeps All w0 w) (hx:XO J S w0.heap.size (Zuw cs v::O) w):
 Yj n P o a w fun u w'=>∃ b:Nat,u= .pointer (some ⟨b,0,none⟩)∧Zbp J S w0 (Zuw cs v::O) w (OB.var b cs::O) w':=by
 have hB:=hx.2.1 (Zuw cs v) yz (.agg cs) v ⟨rfl,rfl⟩
 have hdrop:∀ k,SO S (Zuw cs v::O) k→SO S O k:=fun k hs=>hs.drop
 have hxO:XO J S w0.heap.size O w:=⟨hx.1,fun p hp=>OB.sub (hx.2.1 p (by simp[hp])) fun k _=>hdrop k,(List.pairwise_cons.1 hx.2.2).2⟩
 simp only[Rel]at hB
 obtain⟨us,hvu,hr⟩:=hB
 have hr':RdL (SO S O) w cs us:=hr.sub fun k _=>hdrop k
 have hk:Keeps All w (w.alloc (.cells us.toArray t)):=(Keeps.refl _ _).alloc _
 have hsub:∀ k,k<w.heap.size→SO S O k→SO S (OB.var w.heap.size cs::O) k:=fun k hlt hs=>⟨hs.1,fun p hp=>by
  rcases List.mem_cons.1 hp with rfl | hp
  · exact fun e=>by have:k=w.heap.size:=e;omega
  · exact hs.2 p hp⟩
 have hst:=Qn (o:=OB.var w.heap.size cs) hJ hk0 hxO hk (fun b hb=>Nat.le_of_eq hb.symm) ⟨hk0.size,us,t,heap_alloc_new w _,hr'.move hk fun k hlt hs=>⟨trivial,hsub k hlt hs⟩⟩
 refine Z8 (v:=.pointer (some ⟨w.heap.size,0,none⟩)) (w':=w.alloc (.cells us.toArray t)) ?_ ⟨w.heap.size,rfl,hst.1,hst.2.1,fun av u hu=>hst.2.2 av u (hu.sub fun k _=>hdrop k)⟩
 simp[execOp,hop,hv,hvu,Instr.box,newVar,newRow,newObj,Sem.run,Value.cells]
end
end Go.Proofs.YtneapgbkkkjagaaGreatDoor
