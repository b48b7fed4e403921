/-
  THE ENGINE: a variable of the call's own that holds a database and a growing row of rows; stores in drawn regions.
  THE ENGINE: function values that lie in variables of the call's own, and call themselves.
-/
import Derived.Test.YtneapgbkkkjagaaGreatDoorYI
import Derived.Laws.Tables
namespace Go.Proofs.YtneapgbkkkjagaaGreatDoor
open Go.RowKit
section
variable {n:Rn} {N:Nat} {P:Program} {J X:WP} {S S' S'':Nat→Prop} {O:List OB} {w0:World} {env:List (Nat×AV)} {Q:Exit→Act→WP}
variable {e b:Nat} {d:Db} {q:Value×List (List Int)} {lo:Nat}
theorem ZeG {w w':World} {O1 O1' O2 O2':List OB} (h1:O1.Perm O1') (h2:O2.Perm O2') (h:Zbp J S w0 O1 w O2 w'):Zbp J S w0 O1' w O2' w':=
 ⟨h.1,YH h2 h.2.1,fun av v hr=>(h.2.2 av v (hr.sub fun _ _ hs=>hs.perm h1.symm)).sub fun _ _ hs=>hs.perm h2⟩
theorem Zhd {o:Oper} {a:Act} {w:World} {x y:Operand} {t:TypeId} {off:Nat} {cs es:List CD} {c:CD} {p:OB} (hJ:Stab J) (hJ0:J w0) (hs:XR P t 1) (hop:o.op= .store t x y) (hk0:Keeps All w0 w) (hx:XO J S w0.heap.size (p::OB.var b cs::O) w) (h1:Rel S' w (.at b off) (a.eval x))
 (h2:Rel (SO S (p::OB.var b cs::O)) w (.rd c) (a.eval y)) (hl:off+1≤cs.length) (he:cs.take off++[c]++cs.drop (off+1)=es):
 Yj n P o a w fun _ w'=>Zbp J S w0 (p::OB.var b cs::O) w (p::OB.var b es::O) w':=by
 have hp:∀ c,(OB.var b c::p::O).Perm (p::OB.var b c::O):=fun c=>.swap _ _ _
 have h2':=h2.sub fun _ _ hs=>hs.perm (hp cs).symm
 simp only[Rel]at h2'
 exact Zx (Xl (news:=[c]) hJ hJ0 hs hop hk0 (YH (hp cs).symm hx) h1 (ZbR h2'.one) ⟨h2',trivial⟩ hl he) fun _ _ hs=>ZeG (hp _) (hp _) hs
end
section
variable {n:Rn} {N:Nat} {P:Program} {J X:WP} {S S' S'':Nat→Prop} {O:List OB} {w0:World} {env:List (Nat×AV)} {Q:Exit→Act→WP} {ι:Type}
theorem ZhR {o:Oper} {a:Act} {w:World} {f:FuncId} {caps:List Operand} {vs:List Value} (hop:o.op= .makeFunc (.func f) #[] caps.toArray) (h:caps.map a.eval=vs) (hx:X w):Yj n P o a w (YB S X (.lit (.func (.func f) #[] vs.toArray)) w):=by
 refine ZC (v:=.func (.func f) #[] vs.toArray) ?_ (Rel.of_lit _) hx
 rw[execOp,hop]
 simp[Instr.makeFunc,←h]
theorem map_cons {a:Act} {x:Operand} {xs:List Operand} {v:Value} {vs:List Value} (h:a.eval x=v) (k:xs.map a.eval=vs):(x::xs).map a.eval=v::vs:=by rw[List.map_cons,h,k]
theorem map_nil {a:Act}:([]:List Operand).map a.eval=[]:=rfl
end
end Go.Proofs.YtneapgbkkkjagaaGreatDoor
