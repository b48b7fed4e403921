/-
  Part of the proof that MinimizeChecks returns true. Conditions: none.
-/
import Derived.Test.YtdfadihhfppjaaaGreatDoorBEY
import Derived.Laws.Pointers
namespace Go.Proofs.YtdfadihhfppjaaaGreatDoor
open Go.RowKit
section
variable {n:Rn} {N:Nat} {P:Program} {J X:WP} {S S' gK:Nat->Prop} {O:List OB} {w0:World} {env:List (Nat×AV)} {Q:Exit->Act->WP}
variable {o:Oper} {a:Act} {w:World} {x y:Operand} {t e:TypeId} {v:Value} {k:Nat} {rows:List (List CD)}
theorem xz {s:TypeId} {f d j:Nat} (h1:db P s f d) (hop:o.op= .fieldAddr s x f) (hi:∃ lo,(OB.row v e k rows).inv lo S w) (h0:0<rows.length) (h:Rel S' w (.lit (cG v j)) (a.eval x)) (Z:X w):Does n P o a w (bG S X (.lit (cG v (j+d))) w):=by
 obtain⟨lo,hi⟩:=hi
 obtain⟨g,cap,us,cur,rfl,_⟩:=qJ hi h0
 refine cN (v:=.pointer (some ⟨g,j+d,none⟩)) ?_ (Rel.aH _) Z
 have hv:=h.lit
 simp only[cG]at hv
 simp[execOp,hop,hv,h1 g j w]
theorem H5 {c:CD} {r:List CD} {i j:Nat} (h1:eu P t) (hop:o.op= .load t x) (hi:∃ lo,(OB.row v e k rows).inv lo S w) (h:Rel S' w (.lit (cG v (i*k+j))) (a.eval x)) (hr:rows[i]?=some r) (hc:r[j]?=some c) (Z:X w):Does n P o a w (bG S X (.rd c) w):=by
 obtain⟨lo,hi⟩:=hi
 obtain⟨g,cap,rfl,us,hrd,hcell⟩:=BP hi hr
 have hj:j<us.length:=by rw[hrd.length];exact(List.getElem?_eq_some_iff.1 hc).1
 have h0:=hcell j _ (List.getElem?_eq_getElem hj)
 refine cN (v:=us[j]) ?_ (by simp only[Rel];exact hrd.get hc (List.getElem?_eq_getElem hj)) Z
 have hv:=h.lit
 simp only[cG]at hv
 simp[execOp,hop,hv,Instr.loadAt,Instr.sureAddr,loadVar,Sem.run_bind,h1 w,h0]
theorem NB {i j:Nat} {r:List CD} {c:CD} (hlen:∀ q∈rows,q.length=k) (hr:rows[i]?=some r) (hc:r[j]?=some c):rows.flatten[i*k+j]?=some c:=by
 have hlt:i<rows.length:=(List.getElem?_eq_some_iff.1 hr).1
 have hge:rows[i]=r:=(List.getElem?_eq_some_iff.1 hr).2
 have hj:j<r.length:=(List.getElem?_eq_some_iff.1 hc).1
 rw[<-List.getElem?_drop,oM rows i hlen,List.drop_eq_getElem_cons hlt,hge,List.flatten_cons,List.getElem?_append_left hj,hc]
end
theorem vU {J:WP} {S S':Nat->Prop} {O:List OB} {w0:World} {n:Rn} {P:Program} {o:Oper} {a:Act} {w:World} {x y:Operand} {t:TypeId} {b off:Nat} {cs es:List CD} {c:CD} (V:aR J) (hJ0:J w0) (hs:dV P t 1) (hop:o.op= .store t x y) (hk0:Keeps All w0 w) (Z:XO J S w0.heap.size (OB.var b cs::O) w) (h1:Rel S' w (.at b off) (a.eval x))
 (h2:Rel (SO S (OB.var b cs::O)) w (.rd c) (a.eval y)) (hl:off+1<=cs.length) (he:cs.take off++[c]++cs.drop (off+1)=es):Does n P o a w λ_ w'=>dc J S w0 (OB.var b cs::O) w (OB.var b es::O) w':=by
 have h2':=h2
 simp only[Rel]at h2'
 exact iw (news:=[c]) (us:=[a.eval y]) V hJ0 hs hop hk0 Z h1 (by rw[rp h2'.one]) ⟨h2',trivial⟩ hl he
theorem NZ {P:Program} {J:WP} {f:FuncId} {args:List AV} {e:TypeId} {k:Nat} {rows:List (List CD)} (h:fc (ι:=Value) P J f [] args [] (λi=>.lit i) (λi=>[OB.row i e k rows])):Fn P J f args (.rd (.sl rows)):=by
 intro S w vs hS V ha
 refine Calls.mono (h S w [] w vs hS V b8 (Keeps.refl _ _) (yr V) (ha.sub λk _ hk=>⟨hk,λq hq=>(by cases hq)⟩)) ?_
 rintro e' w' ⟨i,v,he,hv,hk,Z⟩
 have hi:=Z.2.1 (OB.row i e k rows) yz
 have hv':=hv.lit
 subst hv'
 exact⟨_,he,qK (λb hb=>hS b ((OB.row _ _ _ _).lt hi b hb).1) (OB.sub hi λk _ hk=>hk.1),hk,Z.1⟩
end Go.Proofs.YtdfadihhfppjaaaGreatDoor
