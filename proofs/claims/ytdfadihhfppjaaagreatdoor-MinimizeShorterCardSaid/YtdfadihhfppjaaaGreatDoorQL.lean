/-
  THE ENGINE: rows that are made; the greater of two numbers; rows of bools.
  THE ENGINE: a graph over a row of the call's own, built and boxed in a drawn region.
  THE ENGINE: frames, databases and rows of frames from given parts.
-/
import Derived.Test.YtdfadihhfppjaaaGreatDoorQK
import Derived.Laws.MakeOwn
namespace Go.Proofs.YtdfadihhfppjaaaGreatDoor
open Go.RowKit
def Qg (x:Bool):List CD:=[.lit (.bool x)]
def Zgt (xs:List Bool):CD:=.sl (xs.map Qg)
def Zur (P:Program) (t e:TypeId) (bytes:Nat) (z:Value):Prop:=
 P.underlying t=some (.slice e)∧(∃ i,P.info? e=some i∧i.zero=some z∧i.size=1∧i.bytes=bytes)∧z.cells= #[z]∧okLit z
theorem makeT {P:Program} {t e:TypeId} {bytes:Nat} {z:Value} (h1:P.underlying t=some (.slice e)) (hinfo:(P.info? e).map (fun i=>(i.zero,i.size,i.bytes))=some (some z,1,bytes)) (hz:z.cells= #[z]) (ho:okLit z):Zur P t e bytes z:=by
 refine⟨h1,?_,hz,ho⟩
 cases hi:P.info? e with
 | none=>rw[hi]at hinfo;cases hinfo
 | some i=>
  rw[hi]at hinfo
  simp only[Option.map_some,Option.some.injEq,Prod.mk.injEq]at hinfo
  exact⟨i,rfl,hinfo.1,hinfo.2.1,hinfo.2.2⟩
theorem Zsx (z:Value) (k:Nat):madeCells #[z] k=(List.replicate k z).toArray:=by
 apply Array.ext
 · simp[madeCells]
 · intro i h1 h2
   simp[madeCells,Nat.mod_one]
theorem tup2 {a b c d:AV} (h:a=c) (k:b=d):AV.tup [a,b]=AV.tup [c,d]:=by rw[h,k]
section
variable {n:Rn} {N:Nat} {P:Program} {J X:WP} {S S' S'':Nat→Prop} {O:List OB} {w0:World} {env:List (Nat×AV)} {Q:Exit→Act→WP}
theorem Zlj {c:CD} {v:Value} {S:Nat→Prop} {w:World} (h:Rd S w c v):∀ k,RdL S w ((List.replicate k [c]).flatten) (List.replicate k v)
 | 0=>trivial
 | k+1=>⟨h,Zlj h k⟩
theorem ZbJ {ops:Array Oper} {o:Oper} {rest:List Oper} {t e:TypeId} {bytes d k:Nat} {z:Value} {x y:Operand} {α:Type} {f:α→List CD} (a0:α) (ht:Zur P t e bytes z) (hf:f a0=[.lit z]) (hJ:Stab J) (hg:o.guard=none) (hop:o.op= .makeSlice t x y) (hd:o.dst=some d) (hN:d<N)
 (h1:∀ a w,So J S w0 N O env a w→Rel (SO S O) w (.int (k:Int)) (a.eval x)∧Rel (SO S O) w (.int (k:Int)) (a.eval y)) (hb:bytes*k≤281474976710656) (h63:k≤9223372036854775807)
 (next:∀ v a w,So J S w0 N (OB.row v e 1 ((List.replicate k a0).map f)::O) ((d,.lit v)::Yn d env) a w→wpListIn n.F n.d P ops Q rest a w):
 ∀ a w,So J S w0 N O env a w→wpListIn n.F n.d P ops Q (o::rest) a w:=by
 refine Zc7 (O2:=fun v=>OB.row v e 1 ((List.replicate k a0).map f)::O) (av:=fun v=>.lit v) hg hd hN (fun a w h=>?_) next
 obtain⟨ht1,⟨i,hi,hz,hs,hbb⟩,hzc,hok⟩:=ht
 obtain⟨g1,g2⟩:=h1 a w h
 have hb':(i.bytes:Int)*(k:Int)≤281474976710656:=by
  rw[hbb]
  have h:((bytes*k:Nat):Int)≤281474976710656:=by omega
  rwa [Int.natCast_mul]at h
 have hrun:=run_make (P:=P) w t e i z ht1 hi hz .i64 .i64 (k:Int) (k:Int) oz (Int.le_refl _) hb' oz
 rw[hs,hzc,Nat.mul_one,Int.toNat_natCast,Zsx]at hrun
 have hk:Keeps All w (w.alloc (.cells (List.replicate k z).toArray e)):=(Keeps.refl _ _).alloc _
 have hrows:(List.replicate k a0).map f=List.replicate k [.lit z]:=by rw[List.map_replicate,hf]
 refine ZS (v:=.slice (some ⟨w.heap.size,0,none⟩) k k) (w':=w.alloc (.cells (List.replicate k z).toArray e)) ?_ ⟨.slice (some ⟨w.heap.size,0,none⟩) k k,X9 hJ h.keep h.x hk (fun b hb=>?_) ?_,Rel.of_lit _⟩
 · simp only[execOp,hop,g1.lit,g2.lit,Sem.run_bind,hrun]
   rfl
 · simp[OB.row,Value.ownBlock]at hb
   omega
 · rw[hrows]
   refine⟨List.replicate k z,⟨by simp,.inr ⟨w.heap.size,k,(List.replicate k z).toArray,by simp,h.keep.size,heap_alloc_new w _,by simp,by unfold maxLen;omega,by simp,by simp⟩⟩,Zlj (.lit z hok) k,fun r hr=>?_⟩
   rw[(List.mem_replicate.1 hr).2];rfl
theorem Zfc {α:Type} {f:α→List CD} {o:Oper} {a:Act} {w:World} {x y:Operand} {t e:TypeId} {v:Value} {xs:List α} {i:Nat} {c:CD} (u:α) (hf:f u=[c]) (hJ:Stab J) (hJ0:J w0) (hs:Xf P t 1) (hop:o.op= .store t x y) (hk0:Keeps All w0 w) (hx:XO J S w0.heap.size (OB.row v e 1 (xs.map f)::O) w) (h1:Rel S' w (.lit (YG v (i*1))) (a.eval x))
 (h2:Rel (SO S (OB.row v e 1 (xs.map f)::O)) w (.rd c) (a.eval y)) (hl:i<xs.length):
 Does n P o a w fun _ w'=>Zag J S w0 (OB.row v e 1 (xs.map f)::O) w (OB.row v e 1 ((xs.set i u).map f)::O) w':=by
 have h2':=h2
 simp only[Rel]at h2'
 rw[List.map_set,hf]
 exact Zl (ZbT (news:=[c]) hJ hJ0 hs hop hk0 hx h1 (ZaZ h2'.one) ⟨h2',trivial⟩ (by rw[List.length_map];exact hl) rfl) fun _ _ ⟨_,h⟩=>h
end
section
variable {n:Rn} {N:Nat} {P:Program} {J X:WP} {S S' S'':Nat→Prop} {O:List OB} {w0:World} {env:List (Nat×AV)} {Q:Exit→Act→WP}
abbrev Zvo (cs:List CD) (x:Value):OB:=OB.was fun av v=>av=AV.agg cs∧v=x
theorem Zl6 {o:Oper} {a:Act} {w:World} {cs:List CD} (hk:Keeps All w0 w) (h:Does n P o a w (YC (SO S O) (XO J S w0.heap.size O) (.agg cs) w)):
 Does n P o a w fun v w'=>Zag J S w0 O w (Zvo cs v::O) w':=by
 refine Zl h fun v w' ⟨h1,h2,h3⟩=>?_
 have hsub:∀ k,SO S O k→SO S (Zvo cs v::O) k:=fun k hs=>⟨hs.1,fun p hp=>by
  rcases List.mem_cons.1 hp with rfl | hp
  · exact fun e=>e
  · exact hs.2 p hp⟩
 refine⟨hk.trans h2,⟨h3.1,fun p hp=>?_,.cons (fun _ _ _ e=>e.elim) h3.2.2⟩,fun av u hr=>(hr.on h2).sub fun k _=>hsub k⟩
 rcases List.mem_cons.1 hp with rfl | hp
 · rintro av u ⟨rfl,rfl⟩
   exact h1.sub fun k _=>hsub k
 · exact OB.sub (h3.2.1 p hp) fun k _=>hsub k
theorem Zva {o:Oper} {a:Act} {w:World} {cs:List CD} {x:Operand} {v:Value} {t:TypeId} (hJ:Stab J) (hop:o.op= .box t x) (hv:a.eval x=v) (hk0:Keeps All w0 w) (hx:XO J S w0.heap.size (Zvo cs v::O) w):
 Does n P o a w fun u w'=>∃ b:Nat,u= .pointer (some ⟨b,0,none⟩)∧Zag J S w0 (Zvo cs v::O) w (OB.var b cs::O) w':=by
 have hB:=hx.2.1 (Zvo cs v) yz (.agg cs) v ⟨rfl,rfl⟩
 have hdrop:∀ k,SO S (Zvo cs v::O) k→SO S O k:=fun k hs=>hs.drop
 have hxO:XO J S w0.heap.size O w:=⟨hx.1,fun p hp=>OB.sub (hx.2.1 p (by simp[hp])) fun k _=>hdrop k,(List.pairwise_cons.1 hx.2.2).2⟩
 simp only[Rel]at hB
 obtain⟨us,hvu,hr⟩:=hB
 have hr':RdL (SO S O) w cs us:=hr.sub fun k _=>hdrop k
 have hk:Keeps All w (w.alloc (.cells us.toArray t)):=(Keeps.refl _ _).alloc _
 have hsub:∀ k,k<w.heap.size→SO S O k→SO S (OB.var w.heap.size cs::O) k:=fun k hlt hs=>⟨hs.1,fun p hp=>by
  rcases List.mem_cons.1 hp with rfl | hp
  · exact fun e=>by have:k=w.heap.size:=e;omega
  · exact hs.2 p hp⟩
 have hst:=X9 (o:=OB.var w.heap.size cs) hJ hk0 hxO hk (fun b hb=>Nat.le_of_eq hb.symm) ⟨hk0.size,us,t,heap_alloc_new w _,hr'.move hk fun k hlt hs=>⟨trivial,hsub k hlt hs⟩⟩
 refine ZS (v:=.pointer (some ⟨w.heap.size,0,none⟩)) (w':=w.alloc (.cells us.toArray t)) ?_ ⟨w.heap.size,rfl,hst.1,hst.2.1,fun av u hu=>hst.2.2 av u (hu.sub fun k _=>hdrop k)⟩
 simp[execOp,hop,hv,hvu,Instr.box,newVar,newRow,newObj,Sem.run,Value.cells]
end
section
variable {n:Rn} {N:Nat} {P:Program} {J X:WP} {S S' S'':Nat→Prop} {O:List OB} {w0:World} {env:List (Nat×AV)} {Q:Exit→Act→WP}
variable {o:Oper} {a:Act} {w:World} {t e:TypeId} {x y z u:Operand}
def Zrg (P:Program) (t:TypeId):Prop:=∀(ad ad':Option Addr) (k c k' c':Nat),P.built t [(0,.slice ad k c),(2,.slice ad' k' c')]=some #[.slice ad k c,.slice none 0 0,.slice ad' k' c']
theorem ZoR {xs:List BA} {fs:List Fr} (ht:Zrg P t) (hop:o.op= .build t #[(0,x),(2,y)]) (h3:Rel S w (.rd (Zg xs)) (a.eval x)) (h4:Rel S w (.rd (ZaU fs)) (a.eval y)) (hx:X w):
 Does n P o a w (YC S X (.agg (dbC ⟨xs,[],fs⟩)) w):=by
 simp only[Rel]at h3 h4
 have g3:=h3
 have g4:=h4
 obtain⟨ad,cap,e3,_,_⟩:=g3.form
 obtain⟨ad',cap',e4,_,_⟩:=g4.form
 have hrun:=run_build (P:=P) w t #[(0,a.eval x),(2,a.eval y)] #[a.eval x,.slice none 0 0,a.eval y] (by rw[e3,e4];exact ht ad ad' _ cap _ cap')
 refine Zr (v:=.agg #[a.eval x,.slice none 0 0,a.eval y]) ?_ ?_ hx
 · rw[execOp,hop]
   simp only[List.map_toArray,List.map_cons,List.map_nil,Sem.run_bind,hrun]
   rfl
 · simp only[Rel]
   exact⟨[a.eval x,.slice none 0 0,a.eval y],rfl,h3,.nil _ _ nzl,h4,trivial⟩
end
end Go.Proofs.YtdfadihhfppjaaaGreatDoor
