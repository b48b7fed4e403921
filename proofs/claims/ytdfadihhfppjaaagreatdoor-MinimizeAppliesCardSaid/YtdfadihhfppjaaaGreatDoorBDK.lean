/-
  Part of the proof that MinimizeApplies returns true. Conditions: none.
-/
import Derived.Test.YtdfadihhfppjaaaGreatDoorBDJ
import Derived.Laws.Tables
namespace Go.Proofs.YtdfadihhfppjaaaGreatDoor
open Go.RowKit
section
variable {n:Rn} {N:Nat} {P:Program} {J X:WP} {S S' gB:Nat->Prop} {O:List OB} {w0:World} {env:List (Nat×AV)} {Q:Exit->Act->WP}
variable {e b:Nat} {d:Db} {q:Value×List (List Int)} {lo:Nat}
theorem kF {w w':World} {O1 Cr O2 Cs:List OB} (h1:O1.Perm Cr) (h2:O2.Perm Cs) (h:db J S w0 O1 w O2 w'):db J S w0 Cr w Cs w':=
 ⟨h.1,fI h2 h.2.1,λav v hr=>(h.2.2 av v (hr.sub λ_ _ hs=>hs.perm h1.symm)).sub λ_ _ hs=>hs.perm h2⟩
theorem DH {o:Oper} {a:Act} {w:World} {x y:Operand} {t:TypeId} {off:Nat} {cs es:List CD} {c:CD} {p:OB} (V:aS J) (hJ0:J w0) (hs:dS P t 1) (hop:o.op= .store t x y) (hk0:Keeps All w0 w) (Z:XO J S w0.heap.size (p::OB.var b cs::O) w) (h1:Rel S' w (.at b off) (a.eval x))
 (h2:Rel (SO S (p::OB.var b cs::O)) w (.rd c) (a.eval y)) (hl:off+1<=cs.length) (he:cs.take off++[c]++cs.drop (off+1)=es):
 Does n P o a w λ_ w'=>db J S w0 (p::OB.var b cs::O) w (p::OB.var b es::O) w':=by
 have hp:∀ c,(OB.var b c::p::O).Perm (p::OB.var b c::O):=λc=>.swap _ _ _
 have h2':=h2.sub λ_ _ hs=>hs.perm (hp cs).symm
 simp only[Rel]at h2'
 exact bC (ii (news:=[c]) V hJ0 hs hop hk0 (fI (hp cs).symm Z) h1 (rb h2'.one) ⟨h2',trivial⟩ hl he) λ_ _ hs=>kF (hp _) (hp _) hs
end
section
variable {n:Rn} {N:Nat} {P:Program} {J X:WP} {S S' gB:Nat->Prop} {O:List OB} {w0:World} {env:List (Nat×AV)} {Q:Exit->Act->WP} {ι:Type}
theorem HD {o:Oper} {a:Act} {w:World} {f:FuncId} {caps:List Operand} {vs:List Value} (hop:o.op= .makeFunc (.func f) #[] caps.toArray) (h:caps.map a.eval=vs) (Z:X w):Does n P o a w (bE S X (.lit (.func (.func f) #[] vs.toArray)) w):=by
 refine cJ (v:=.func (.func f) #[] vs.toArray) ?_ (Rel.aG _) Z
 rw[execOp,hop]
 simp[Instr.makeFunc,<-h]
theorem map_cons {a:Act} {x:Operand} {xs:List Operand} {v:Value} {vs:List Value} (h:a.eval x=v) (k:xs.map a.eval=vs):(x::xs).map a.eval=v::vs:=by rw[List.map_cons,h,k]
theorem map_nil {a:Act}:([]:List Operand).map a.eval=[]:=rfl
theorem Im {ops:Array Oper} {o:Oper} {rest:List Oper} {R:List OB} {d:Nat} {f:FuncId} {args:List Operand} {callee:Operand} {ts:Array TypeId} (am:List AV) {res:ι->AV} {O':ι->List OB} (cap:List Value) (eu:List AV) {Hs:List OB} (hF:eX P J f Hs (am++eu) O res O') (h1:dL P f) (hg:o.guard=none) (hop:o.op= .call { callee:=.value callee,args:=args.toArray,argTypes:=ts }) (hd:o.dst=some d) (hN:d<N)
 (hS:∀ b,w0.heap.size<=b->S b) (hJ0:J w0) (hH:Has Hs S w0) (hc:∀ a w,So J S w0 N (O++R) env a w->a.eval callee= .func (.func f) #[] cap.toArray) (ha:∀ a w,So J S w0 N (O++R) env a w->bd (SO S (O++R)) w am (args.map a.eval))
 (hcap:∀ w,bd (SO S (O++R)) w eu cap)
 (next:∀ i a w,So J S w0 N (O' i++R) ((d,res i)::dK d env) a w->wpListIn n.F n.d P ops Q rest a w):
 ∀ a w,So J S w0 N (O++R) env a w->wpListIn n.F n.d P ops Q (o::rest) a w:=
 kD (O2:=λi=>O' i++R) (av:=res) hg hd hN (λa w h=>DC hF h1 hop hS hJ0 hH h.keep h.x (hc a w h) (ha a w h) (hcap w)) next
end
end Go.Proofs.YtdfadihhfppjaaaGreatDoor
