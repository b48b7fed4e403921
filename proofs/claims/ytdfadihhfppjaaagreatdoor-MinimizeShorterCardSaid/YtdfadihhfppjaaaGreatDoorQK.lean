/-
  THE ENGINE: a variable of the call's own that holds a database and a growing row of rows; stores in drawn regions.
  THE ENGINE: function values that lie in variables of the call's own, and call themselves.
-/
import Derived.Test.YtdfadihhfppjaaaGreatDoorQJ
import Derived.Laws.Tables
namespace Go.Proofs.YtdfadihhfppjaaaGreatDoor
open Go.RowKit
section
variable {n:Rn} {N:Nat} {P:Program} {J X:WP} {S S' S'':Nat→Prop} {O:List OB} {w0:World} {env:List (Nat×AV)} {Q:Exit→Act→WP}
variable {e b:Nat} {d:Db} {q:Value×List (List Int)} {lo:Nat}
theorem XT {w w':World} {O1 O1' O2 O2':List OB} (h1:O1.Perm O1') (h2:O2.Perm O2') (h:Zag J S w0 O1 w O2 w'):Zag J S w0 O1' w O2' w':=
 ⟨h.1,YK h2 h.2.1,fun av v hr=>(h.2.2 av v (hr.sub fun _ _ hs=>hs.perm h1.symm)).sub fun _ _ hs=>hs.perm h2⟩
theorem Ztb {o:Oper} {a:Act} {w:World} {x y:Operand} {t:TypeId} {off:Nat} {cs es:List CD} {c:CD} {p:OB} (hJ:Stab J) (hJ0:J w0) (hs:Xf P t 1) (hop:o.op= .store t x y) (hk0:Keeps All w0 w) (hx:XO J S w0.heap.size (p::OB.var b cs::O) w) (h1:Rel S' w (.at b off) (a.eval x))
 (h2:Rel (SO S (p::OB.var b cs::O)) w (.rd c) (a.eval y)) (hl:off+1≤cs.length) (he:cs.take off++[c]++cs.drop (off+1)=es):
 Does n P o a w fun _ w'=>Zag J S w0 (p::OB.var b cs::O) w (p::OB.var b es::O) w':=by
 have hp:∀ c,(OB.var b c::p::O).Perm (p::OB.var b c::O):=fun c=>.swap _ _ _
 have h2':=h2.sub fun _ _ hs=>hs.perm (hp cs).symm
 simp only[Rel]at h2'
 exact Zl (Xz (news:=[c]) hJ hJ0 hs hop hk0 (YK (hp cs).symm hx) h1 (ZaZ h2'.one) ⟨h2',trivial⟩ hl he) fun _ _ hs=>XT (hp _) (hp _) hs
end
section
variable {n:Rn} {N:Nat} {P:Program} {J X:WP} {S S' S'':Nat→Prop} {O:List OB} {w0:World} {env:List (Nat×AV)} {Q:Exit→Act→WP} {ι:Type}
theorem Zey {o:Oper} {a:Act} {w:World} {f:FuncId} {caps:List Operand} {vs:List Value} (hop:o.op= .makeFunc (.func f) #[] caps.toArray) (h:caps.map a.eval=vs) (hx:X w):Does n P o a w (YC S X (.lit (.func (.func f) #[] vs.toArray)) w):=by
 refine Zr (v:=.func (.func f) #[] vs.toArray) ?_ (Rel.of_lit _) hx
 rw[execOp,hop]
 simp[Instr.makeFunc,←h]
theorem map_cons {a:Act} {x:Operand} {xs:List Operand} {v:Value} {vs:List Value} (h:a.eval x=v) (k:xs.map a.eval=vs):(x::xs).map a.eval=v::vs:=by rw[List.map_cons,h,k]
theorem map_nil {a:Act}:([]:List Operand).map a.eval=[]:=rfl
theorem ZuC {ops:Array Oper} {o:Oper} {rest:List Oper} {R:List OB} {d:Nat} {f:FuncId} {args:List Operand} {callee:Operand} {ts:Array TypeId} (avs:List AV) {res:ι→AV} {O':ι→List OB} (cap:List Value) (avc:List AV) {Hs:List OB} (hF:FnM P J f Hs (avs++avc) O res O') (h1:Zi P f) (hg:o.guard=none) (hop:o.op= .call { callee:=.value callee,args:=args.toArray,argTypes:=ts }) (hd:o.dst=some d) (hN:d<N)
 (hS:∀ b,w0.heap.size≤b→S b) (hJ0:J w0) (hH:Has Hs S w0) (hc:∀ a w,So J S w0 N (O++R) env a w→a.eval callee= .func (.func f) #[] cap.toArray) (ha:∀ a w,So J S w0 N (O++R) env a w→RelL (SO S (O++R)) w avs (args.map a.eval))
 (hcap:∀ w,RelL (SO S (O++R)) w avc cap)
 (next:∀ i a w,So J S w0 N (O' i++R) ((d,res i)::Yn d env) a w→wpListIn n.F n.d P ops Q rest a w):
 ∀ a w,So J S w0 N (O++R) env a w→wpListIn n.F n.d P ops Q (o::rest) a w:=
 Zc7 (O2:=fun i=>O' i++R) (av:=res) hg hd hN (fun a w h=>d_fnM hF h1 hop hS hJ0 hH h.keep h.x (hc a w h) (ha a w h) (hcap w)) next
end
end Go.Proofs.YtdfadihhfppjaaaGreatDoor
