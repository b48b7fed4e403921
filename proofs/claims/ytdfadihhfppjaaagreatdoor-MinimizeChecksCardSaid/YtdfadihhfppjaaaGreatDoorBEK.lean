/-
  Part of the proof that MinimizeChecks returns true. Conditions: none.
-/
import Derived.Test.YtdfadihhfppjaaaGreatDoorBEJ
import Derived.Laws.Tables
namespace Go.Proofs.YtdfadihhfppjaaaGreatDoor
open Go.RowKit
section
variable {n:Rn} {N:Nat} {P:Program} {J X:WP} {S S' gK:Nat->Prop} {O:List OB} {w0:World} {env:List (Nat×AV)} {Q:Exit->Act->WP}
variable {e b:Nat} {d:Db} {q:Value×List (List Int)} {lo:Nat}
theorem kM {w w':World} {O1 CH O2 CI:List OB} (h1:O1.Perm CH) (h2:O2.Perm CI) (h:dc J S w0 O1 w O2 w'):dc J S w0 CH w CI w':=
 ⟨h.1,fR h2 h.2.1,λav v hr=>(h.2.2 av v (hr.sub λ_ _ hs=>hs.perm h1.symm)).sub λ_ _ hs=>hs.perm h2⟩
theorem D1 {o:Oper} {a:Act} {w:World} {x y:Operand} {t:TypeId} {off:Nat} {cs es:List CD} {c:CD} {p:OB} (V:aR J) (hJ0:J w0) (hs:dV P t 1) (hop:o.op= .store t x y) (hk0:Keeps All w0 w) (Z:XO J S w0.heap.size (p::OB.var b cs::O) w) (h1:Rel S' w (.at b off) (a.eval x))
 (h2:Rel (SO S (p::OB.var b cs::O)) w (.rd c) (a.eval y)) (hl:off+1<=cs.length) (he:cs.take off++[c]++cs.drop (off+1)=es):
 Does n P o a w λ_ w'=>dc J S w0 (p::OB.var b cs::O) w (p::OB.var b es::O) w':=by
 have hp:∀ c,(OB.var b c::p::O).Perm (p::OB.var b c::O):=λc=>.swap _ _ _
 have h2':=h2.sub λ_ _ hs=>hs.perm (hp cs).symm
 simp only[Rel]at h2'
 exact bD (iw (news:=[c]) V hJ0 hs hop hk0 (fR (hp cs).symm Z) h1 (rp h2'.one) ⟨h2',trivial⟩ hl he) λ_ _ hs=>kM (hp _) (hp _) hs
end
section
variable {n:Rn} {N:Nat} {P:Program} {J X:WP} {S S' gK:Nat->Prop} {O:List OB} {w0:World} {env:List (Nat×AV)} {Q:Exit->Act->WP} {ι:Type}
theorem H3 {o:Oper} {a:Act} {w:World} {f:FuncId} {caps:List Operand} {vs:List Value} (hop:o.op= .makeFunc (.func f) #[] caps.toArray) (h:caps.map a.eval=vs) (Z:X w):Does n P o a w (bG S X (.lit (.func (.func f) #[] vs.toArray)) w):=by
 refine cN (v:=.func (.func f) #[] vs.toArray) ?_ (Rel.aH _) Z
 rw[execOp,hop]
 simp[Instr.makeFunc,<-h]
theorem map_cons {a:Act} {x:Operand} {xs:List Operand} {v:Value} {vs:List Value} (h:a.eval x=v) (k:xs.map a.eval=vs):(x::xs).map a.eval=v::vs:=by rw[List.map_cons,h,k]
theorem map_nil {a:Act}:([]:List Operand).map a.eval=[]:=rfl
theorem IP {ops:Array Oper} {o:Oper} {rest:List Oper} {R:List OB} {d:Nat} {f:FuncId} {args:List Operand} {callee:Operand} {ts:Array TypeId} (am:List AV) {res:ι->AV} {O':ι->List OB} (cap:List Value) (eD:List AV) {Hs:List OB} (hF:fc P J f Hs (am++eD) O res O') (h1:dy P f) (hg:o.guard=none) (hop:o.op= .call { callee:=.value callee,args:=args.toArray,argTypes:=ts }) (hd:o.dst=some d) (hN:d<N)
 (hS:∀ b,w0.heap.size<=b->S b) (hJ0:J w0) (hH:Has Hs S w0) (hc:∀ a w,So J S w0 N (O++R) env a w->a.eval callee= .func (.func f) #[] cap.toArray) (ha:∀ a w,So J S w0 N (O++R) env a w->bi (SO S (O++R)) w am (args.map a.eval))
 (hcap:∀ w,bi (SO S (O++R)) w eD cap)
 (next:∀ i a w,So J S w0 N (O' i++R) ((d,res i)::dP d env) a w->wpListIn n.F n.d P ops Q rest a w):
 ∀ a w,So J S w0 N (O++R) env a w->wpListIn n.F n.d P ops Q (o::rest) a w:=
 kK (O2:=λi=>O' i++R) (av:=res) hg hd hN (λa w h=>DW hF h1 hop hS hJ0 hH h.keep h.x (hc a w h) (ha a w h) (hcap w)) next
end
end Go.Proofs.YtdfadihhfppjaaaGreatDoor
