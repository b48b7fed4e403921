/-
  THE ENGINE: a part of an element of an own row; a store there that changes nothing.
-/
import Derived.Test.YtneapgbkkkjagaaGreatDoorQAB
import Derived.Laws.Pointers
namespace Go.Proofs.YtneapgbkkkjagaaGreatDoor
open Go.RowKit
section
variable {n:Rn} {N:Nat} {P:Program} {J X:World→Prop} {S S' S'':Nat→Prop} {O:List OB} {w0:World} {env:List (Nat×AV)} {Q:Exit→Act→World→Prop}
variable {o:Oper} {a:Act} {w:World} {x y:Operand} {t e:TypeId} {v:Value} {k:Nat} {rows:List (List CD)}
theorem ZlK {s:TypeId} {f d j:Nat} (h1:ZV P s f d) (hop:o.op= .fieldAddr s x f) (hi:∃ lo,(OB.row v e k rows).inv lo S w) (h0:0<rows.length) (h:Rel S' w (.lit (XG v j)) (a.eval x)) (hx:X w):Yk n P o a w (YG S X (.lit (XG v (j+d))) w):=by
 obtain⟨lo,hi⟩:=hi
 obtain⟨g,cap,us,cur,rfl,_⟩:=Zbc hi h0
 refine ZC (v:=.pointer (some ⟨g,j+d,none⟩)) ?_ (Rel.of_lit _) hx
 have hv:=h.lit
 simp only[XG]at hv
 simp[execOp,hop,hv,h1 g j w]
end
end Go.Proofs.YtneapgbkkkjagaaGreatDoor
