/-
  Part of the proof that MinimizeChecks returns true. Conditions: none.
-/
import Derived.Test.YtdfadihhfppjaaaGreatDoorBEK
import Derived.Laws.MakeOwn
open List (mem_cons)
namespace Go.Proofs.YtdfadihhfppjaaaGreatDoor
open Go.RowKit
def kh (x:Bool):List CD:=[.lit (.bool x)]
def mJ (xs:List Bool):CD:=.sl (xs.map kh)
def u7 (P:Program) (t e:TypeId) (bytes:Nat) (z:Value):Prop:=
 P.underlying t=some (.slice e)/\(∃ i,P.info? e=some i/\i.zero=some z/\i.size=1/\i.bytes=bytes)/\z.cells= #[z]/\io z
theorem Gj {P:Program} {t e:TypeId} {bytes:Nat} {z:Value} (h1:P.underlying t=some (.slice e)) (hinfo:(P.info? e).map (λi=>(i.zero,i.size,i.bytes))=some (some z,1,bytes)) (hz:z.cells= #[z]) (ho:io z):u7 P t e bytes z:=by
 refine⟨h1,?_,hz,ho⟩
 cases hi:P.info? e with
 | none=>rw[hi]at hinfo;cases hinfo
 | some i=>
  rw[hi]at hinfo
  simp only[Option.map_some,Option.some.injEq,Prod.mk.injEq]at hinfo
  exact⟨i,rfl,hinfo.1,hinfo.2.1,hinfo.2.2⟩
theorem Q5 (z:Value) (k:Nat):madeCells #[z] k=(List.replicate k z).toArray:=by
 apply Array.ext
 · simp[madeCells]
 · intro i h1 h2
   simp[madeCells,Nat.mod_one]
theorem Wt {a b c d:AV} (h:a=c) (k:b=d):AV.bF [a,b]=AV.bF [c,d]:=by rw[h,k]
section
variable {n:Rn} {N:Nat} {P:Program} {J X:WP} {S S' gK:Nat->Prop} {O:List OB} {w0:World} {env:List (Nat×AV)} {Q:Exit->Act->WP}
theorem Id {c:CD} {v:Value} {S:Nat->Prop} {w:World} (h:Rd S w c v):∀ k,bE S w ((List.replicate k [c]).flatten) (List.replicate k v)
 | 0=>trivial
 | k+1=>⟨h,Id h k⟩
theorem xY {ops:Array Oper} {o:Oper} {rest:List Oper} {t e:TypeId} {bytes d k:Nat} {z:Value} {x y:Operand} {α:Type} {f:α->List CD} (a0:α) (ht:u7 P t e bytes z) (hf:f a0=[.lit z]) (V:aR J) (hg:o.guard=none) (hop:o.op= .makeSlice t x y) (hd:o.dst=some d) (hN:d<N)
 (h1:∀ a w,So J S w0 N O env a w->Rel (SO S O) w (.int (k:Int)) (a.eval x)/\Rel (SO S O) w (.int (k:Int)) (a.eval y)) (hb:bytes*k<=281474976710656) (h63:k<=9223372036854775807)
 (next:∀ v a w,So J S w0 N (OB.row v e 1 ((List.replicate k a0).map f)::O) ((d,.lit v)::dP d env) a w->wpListIn n.F n.d P ops Q rest a w):
 ∀ a w,So J S w0 N O env a w->wpListIn n.F n.d P ops Q (o::rest) a w:=by
 refine kK (O2:=λv=>OB.row v e 1 ((List.replicate k a0).map f)::O) (av:=λv=>.lit v) hg hd hN (λa w h=>?_) next
 obtain⟨rS,⟨i,hi,hz,hs,nV⟩,wS,bw⟩:=ht
 obtain⟨g1,g2⟩:=h1 a w h
 have hb':(i.bytes:Int)*(k:Int)<=281474976710656:=by
  rw[nV]
  have h:((bytes*k:Nat):Int)<=281474976710656:=by omega
  rwa [Int.natCast_mul]at h
 have hrun:=run_make (P:=P) w t e i z rS hi hz .i64 .i64 (k:Int) (k:Int) oz (Int.le_refl _) hb' oz
 rw[hs,wS,Nat.mul_one,Int.toNat_natCast,Q5]at hrun
 have hk:Keeps All w (w.alloc (.cells (List.replicate k z).toArray e)):=(Keeps.refl _ _).alloc _
 have hrows:(List.replicate k a0).map f=List.replicate k [.lit z]:=by rw[List.map_replicate,hf]
 refine en (v:=.slice (some ⟨w.heap.size,0,none⟩) k k) (w':=w.alloc (.cells (List.replicate k z).toArray e)) ?_ ⟨.slice (some ⟨w.heap.size,0,none⟩) k k,lh V h.keep h.x hk (λb hb=>?_) ?_,Rel.aH _⟩
 · simp only[execOp,hop,g1.lit,g2.lit,Sem.run_bind,hrun]
   rfl
 · simp[OB.row,Value.ownBlock]at hb
   omega
 · rw[hrows]
   refine⟨List.replicate k z,⟨by simp,.inr ⟨w.heap.size,k,(List.replicate k z).toArray,by simp,h.keep.size,heap_alloc_new w _,by simp,by unfold maxLen;omega,by simp,by simp⟩⟩,Id (.lit z bw) k,λr hr=>?_⟩
   rw[(List.mem_replicate.1 hr).2];rfl
theorem LZ {α:Type} {f:α->List CD} {o:Oper} {a:Act} {w:World} {x y:Operand} {t e:TypeId} {v:Value} {xs:List α} {i:Nat} {c:CD} (u:α) (hf:f u=[c]) (V:aR J) (hJ0:J w0) (hs:dV P t 1) (hop:o.op= .store t x y) (hk0:Keeps All w0 w) (Z:XO J S w0.heap.size (OB.row v e 1 (xs.map f)::O) w) (h1:Rel S' w (.lit (cG v (i*1))) (a.eval x))
 (h2:Rel (SO S (OB.row v e 1 (xs.map f)::O)) w (.rd c) (a.eval y)) (hl:i<xs.length):
 Does n P o a w λ_ w'=>dc J S w0 (OB.row v e 1 (xs.map f)::O) w (OB.row v e 1 ((xs.set i u).map f)::O) w':=by
 have h2':=h2
 simp only[Rel]at h2'
 rw[List.map_set,hf]
 exact bD (vS (news:=[c]) V hJ0 hs hop hk0 Z h1 (rp h2'.one) ⟨h2',trivial⟩ (by rw[List.length_map];exact hl) rfl) λ_ _ ⟨_,h⟩=>h
end
section
variable {n:Rn} {N:Nat} {P:Program} {J X:WP} {S S' gK:Nat->Prop} {O:List OB} {w0:World} {env:List (Nat×AV)} {Q:Exit->Act->WP}
abbrev qZ (cs:List CD) (x:Value):OB:=OB.was λav v=>av=AV.agg cs/\v=x
theorem DS {o:Oper} {a:Act} {w:World} {cs:List CD} (hk:Keeps All w0 w) (h:Does n P o a w (bG (SO S O) (XO J S w0.heap.size O) (.agg cs) w)):
 Does n P o a w λv w'=>dc J S w0 O w (qZ cs v::O) w':=by
 refine bD h λv w' ⟨h1,h2,h3⟩=>?_
 have hsub:∀ k,SO S O k->SO S (qZ cs v::O) k:=λk hs=>⟨hs.1,λp hp=>by
  rcases mem_cons.1 hp with rfl | hp
  · exact λe=>e
  · exact hs.2 p hp⟩
 refine⟨hk.trans h2,⟨h3.1,λp hp=>?_,.cons (λ_ _ _ e=>e.elim) h3.2.2⟩,λav u hr=>(hr.on h2).sub λk _=>hsub k⟩
 rcases mem_cons.1 hp with rfl | hp
 · rintro av u ⟨rfl,rfl⟩
   exact h1.sub λk _=>hsub k
 · exact OB.sub (h3.2.1 p hp) λk _=>hsub k
theorem DR {o:Oper} {a:Act} {w:World} {cs:List CD} {x:Operand} {v:Value} {t:TypeId} (V:aR J) (hop:o.op= .box t x) (hv:a.eval x=v) (hk0:Keeps All w0 w) (Z:XO J S w0.heap.size (qZ cs v::O) w):
 Does n P o a w λu w'=>∃ b:Nat,u= .pointer (some ⟨b,0,none⟩)/\dc J S w0 (qZ cs v::O) w (OB.var b cs::O) w':=by
 have hB:=Z.2.1 (qZ cs v) yz (.agg cs) v ⟨rfl,rfl⟩
 have hdrop:∀ k,SO S (qZ cs v::O) k->SO S O k:=λk hs=>hs.drop
 have PP:XO J S w0.heap.size O w:=⟨Z.1,λp hp=>OB.sub (Z.2.1 p (by simp[hp])) λk _=>hdrop k,(List.pairwise_cons.1 Z.2.2).2⟩
 simp only[Rel]at hB
 obtain⟨us,PJ,hr⟩:=hB
 have hr':bE (SO S O) w cs us:=hr.sub λk _=>hdrop k
 have hk:Keeps All w (w.alloc (.cells us.toArray t)):=(Keeps.refl _ _).alloc _
 have hsub:∀ k,k<w.heap.size->SO S O k->SO S (OB.var w.heap.size cs::O) k:=λk hlt hs=>⟨hs.1,λp hp=>by
  rcases mem_cons.1 hp with rfl | hp
  · exact λe=>by have:k=w.heap.size:=e;omega
  · exact hs.2 p hp⟩
 have hst:=lh (o:=OB.var w.heap.size cs) V hk0 PP hk (λb hb=>Nat.le_of_eq hb.symm) ⟨hk0.size,us,t,heap_alloc_new w _,hr'.move hk λk hlt hs=>⟨trivial,hsub k hlt hs⟩⟩
 refine en (v:=.pointer (some ⟨w.heap.size,0,none⟩)) (w':=w.alloc (.cells us.toArray t)) ?_ ⟨w.heap.size,rfl,hst.1,hst.2.1,λav u hu=>hst.2.2 av u (hu.sub λk _=>hdrop k)⟩
 simp[execOp,hop,hv,PJ,Instr.box,newVar,newRow,newObj,Sem.run,Value.cells]
end
section
variable {n:Rn} {N:Nat} {P:Program} {J X:WP} {S S' gK:Nat->Prop} {O:List OB} {w0:World} {env:List (Nat×AV)} {Q:Exit->Act->WP}
variable {o:Oper} {a:Act} {w:World} {t e:TypeId} {x y z u:Operand}
def Cw (P:Program) (t:TypeId):Prop:=∀(ad ri:Option Addr) (k c k' c':Nat),P.built t [(0,.slice ad k c),(2,.slice ri k' c')]=some #[.slice ad k c,.slice none 0 0,.slice ri k' c']
theorem T3 {xs:List BA} {fs:List Fr} (ht:Cw P t) (hop:o.op= .build t #[(0,x),(2,y)]) (h3:Rel S w (.rd (ai xs)) (a.eval x)) (h4:Rel S w (.rd (dX fs)) (a.eval y)) (Z:X w):
 Does n P o a w (bG S X (.agg (bV ⟨xs,[],fs⟩)) w):=by
 simp only[Rel]at h3 h4
 have g3:=h3
 have g4:=h4
 obtain⟨ad,cap,e3,_,_⟩:=g3.form
 obtain⟨ri,cap',e4,_,_⟩:=g4.form
 have hrun:=run_build (P:=P) w t #[(0,a.eval x),(2,a.eval y)] #[a.eval x,.slice none 0 0,a.eval y] (by rw[e3,e4];exact ht ad ri _ cap _ cap')
 refine cN (v:=.agg #[a.eval x,.slice none 0 0,a.eval y]) ?_ ?_ Z
 · rw[execOp,hop]
   simp only[List.map_toArray,List.map_cons,List.map_nil,Sem.run_bind,hrun]
   rfl
 · simp only[Rel]
   exact⟨[a.eval x,.slice none 0 0,a.eval y],rfl,h3,.nil _ _ aI,h4,trivial⟩
end
end Go.Proofs.YtdfadihhfppjaaaGreatDoor
