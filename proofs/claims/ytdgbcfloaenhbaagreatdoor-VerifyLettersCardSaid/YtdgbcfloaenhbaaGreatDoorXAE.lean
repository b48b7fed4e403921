/-
  THE ENGINE: a part of an element of an own row; a store there that changes nothing.
-/
import Derived.Test.YtdgbcfloaenhbaaGreatDoorXAC
import Derived.Laws.Pointers
namespace Go.Proofs.YtdgbcfloaenhbaaGreatDoor
open Go.RowKit
section
variable {n:Rn} {N:Nat} {P:Program} {J X:World→Prop} {S S' S'':Nat→Prop} {O:List OB} {w0:World} {env:List (Nat×AV)} {Q:Exit→Act→World→Prop}
variable {o:Oper} {a:Act} {w:World} {x y:Operand} {t e:TypeId} {v:Value} {k:Nat} {rows:List (List CD)}
theorem Zjo {s:TypeId} {f d j:Nat} (h1:ZT P s f d) (hop:o.op= .fieldAddr s x f) (hi:∃ lo,(OB.row v e k rows).inv lo S w) (h0:0<rows.length) (h:Rel S' w (.lit (Xh v j)) (a.eval x)) (hx:X w):Z4 n P o a w (Yp S X (.lit (Xh v (j+d))) w):=by
 obtain⟨lo,hi⟩:=hi
 obtain⟨g,cap,us,cur,rfl,_⟩:=Zah hi h0
 refine Zu (v:=.pointer (some ⟨g,j+d,none⟩)) ?_ (Rel.of_lit _) hx
 have hv:=h.lit
 simp only[Xh]at hv
 simp[execOp,hop,hv,h1 g j w]
end
theorem Zoy {J:World→Prop} {S S':Nat→Prop} {O:List OB} {w0:World} {n:Rn} {P:Program} {o:Oper} {a:Act} {w:World} {x y:Operand} {t:TypeId} {b off:Nat} {cs es:List CD} {c:CD} (hJ:Stab J) (hJ0:J w0) (hs:XG P t 1) (hop:o.op= .store t x y) (hk0:Keeps All w0 w) (hx:XO J S w0.heap.size (OB.var b cs::O) w) (h1:Rel S' w (.at b off) (a.eval x))
 (h2:Rel (SO S (OB.var b cs::O)) w (.rd c) (a.eval y)) (hl:off+1≤cs.length) (he:cs.take off++[c]++cs.drop (off+1)=es):Z4 n P o a w fun _ w'=>Zat J S w0 (OB.var b cs::O) w (OB.var b es::O) w':=by
 have h2':=h2
 simp only[Rel]at h2'
 exact Xn (news:=[c]) (us:=[a.eval y]) hJ hJ0 hs hop hk0 hx h1 (by rw[ZbS h2'.one]) ⟨h2',trivial⟩ hl he
end Go.Proofs.YtdgbcfloaenhbaaGreatDoor
