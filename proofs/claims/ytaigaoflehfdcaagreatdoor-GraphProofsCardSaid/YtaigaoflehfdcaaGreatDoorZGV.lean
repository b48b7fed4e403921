/-
  THE ENGINE: functions that may end by a panic of the program's own; a round that ends so.
-/
import Derived.Test.YtaigaoflehfdcaaGreatDoorZGS
import Derived.RecoverIn
import Derived.RangeFuncLeaves
import Derived.RangeFuncBound
namespace Go.Proofs.YtaigaoflehfdcaaGreatDoor
open Go.RowKit
abbrev pch (v:Value):List PanicEntry:=[{ v,recovered:=false }]
section
variable {n:Rn} {N:Nat} {P:Program} {J:WP} {S:Nat→Prop} {O:List OB} {w0:World} {env:List (Nat×AV)} {Q:Exit→Act→WP} {ι κ:Type}
variable {o:Oper} {a:Act} {w:World}
theorem ZbX {args:List AV} {vs:List Value} {T:Nat→Prop} {M:Nat} (hl:args.length≤N) (hM:M=N) (ha:RelL T w args vs):
 (vs.toArray++Array.replicate (M-vs.toArray.size) undef).size=N∧∀ p∈Xd 0 args,p.1<N∧Rel T w p.2 ((vs.toArray++Array.replicate (M-vs.toArray.size) undef).getD p.1 undef):=by
 have hlen:vs.length=args.length:=by
  clear hl
  induction args generalizing vs with
  | nil=>simp only[RelL]at ha;subst ha;rfl
  | cons a l ih=>simp only[RelL]at ha;obtain⟨u,us',rfl,_,h2⟩:=ha;simp[ih h2]
 refine⟨by simp;omega,?_⟩
 have key:∀(args:List AV) (us pre:List Value) (i:Nat),pre.length=i→vs=pre++us→RelL T w args us→∀ p∈Xd i args,p.1<N∧Rel T w p.2 ((vs.toArray++Array.replicate (M-vs.toArray.size) undef).getD p.1 undef):=by
  intro args
  induction args with
  | nil=>intro us pre i _ _ _ p hp;cases hp
  | cons x l ih=>
   intro us pre i hi hv hr p hp
   simp only[RelL]at hr
   obtain⟨u,us',rfl,h1,h2⟩:=hr
   rcases List.mem_cons.1 hp with rfl | hp
   · have hlt:i<vs.length:=by rw[hv];simp;omega
     refine⟨oz,?_⟩
     have:(vs.toArray++Array.replicate (M-vs.toArray.size) undef).getD i undef=u:=by
      rw[Array.getD_eq_getD_getElem?,Array.getElem?_append_left (by simpa using hlt)]
      simp[hv,←hi]
     rw[this];exact h1
   · exact ih us' (pre++[u]) (i+1) (by simp[hi]) (by simp[hv]) h2 p hp
 exact key args vs [] 0 rfl rfl ha
end

def ZfC (P:Program) (l:Nat) (R:Ending→WP):Exit→Act→WP
 | .normal,_,w=>∃ v w',(Instr.endRound l none).run P w= .ok v w'∧R (.returned v) w'
 | .ret,_,w=>∃ v w',(Instr.endRound l (some .ret)).run P w= .ok v w'∧R (.returned v) w'
 | .panic ch,a,w=>a.defers=[]∧R (.panicked ch) w
 | _,_,_=>False
theorem ZdC {F:Fence} {n:Nat} {P:Program} {l:Nat} {f:FuncId} {tmps:Array Value} {assign body:Code} {w:World} {R:Ending→WP} (hF:F.fn f) (hfn:∃ fn,P.funcs[f]?=some fn)
 (h:assign.wpIn (F.inRound l) n P (Exit.then (fun a₁ w₁=>∃ w₂,(Instr.beginRound l).run P w₁= .ok () w₂∧body.wpIn (F.inRound l) n P (ZfC P l R) a₁ w₂) (fun _ _ _=>False))
  { tmps:=tmps,defers:=[] } w):
 RoundIn F n P l f tmps assign body w R:=by
 refine⟨hF,fun c cs hr=>?_⟩
 let b:Frame:= { (default:Frame)with fn:=f,kind:=.normal,roundOf:=some l }
 have hb0:Frame.round l f tmps assign body .normal=b.atR { tmps:=tmps,defers:=[] } [.code assign,.beginRound,.code body]:=by
  simp[Frame.round,Frame.atR,b]
 have hr':(F.inRound l).room ((c::cs).length+1+n):=hr
 have hF':(F.inRound l).fn b.fn:=hF
 obtain⟨e,a₁,w₁,hq,harr⟩:=h b [.beginRound,.code body] (c::cs) rfl hF' hr'
 rw[←hb0]at harr
 cases e with
 | normal=>
  obtain⟨w₂,hbr,hbody⟩:=hq
  have s1:StepsIn (Machine.fenced P (F.inRound l)) P (lone (b.atR a₁ [.beginRound,.code body]) (c::cs) w₁) (lone (b.atR a₁ [.code body]) (c::cs) w₂):=
   .one (fenced_calm (fr:=b.atR a₁ [.beginRound,.code body]) hF' hr' rfl) (stepR_beginRound rfl hbr)
  obtain⟨e₂,a₂,w₃,hq₂,harr₂⟩:=hbody b [] (c::cs) rfl hF' hr'
  cases e₂ with
  | normal=>
   obtain⟨v,w₄,hend,hR⟩:=hq₂
   exact⟨.returned v,w₄,hR,(StepsIn.trans harr s1).trans (StepsIn.trans harr₂ (.one (fenced_calm (fr:=b.atR a₂ []) hF' hr' rfl) (stepR_round_end rfl rfl hend)))⟩
  | panic ch=>
   obtain⟨hd,hR⟩:=hq₂
   obtain⟨todo,hs⟩:=harr₂
   have hl:({ b.atR a₂ todo with mode:=.panicking ch }:Frame).leaving P w₃ (.panicked ch):=⟨rfl,hd,hfn⟩
   exact⟨.panicked ch,w₃,hR,(StepsIn.trans harr s1).trans (StepsIn.trans hs (.one (fenced_leaving hF' hr' hl) (step_leave_panicked hl)))⟩
  | ret=>
   obtain⟨v,w₄,hend,hR⟩:=hq₂
   obtain⟨k₁,hs⟩:=harr₂.2 rfl
   exact⟨.returned v,w₄,hR,(StepsIn.trans harr s1).trans (StepsIn.trans hs (.one (fenced_calm (fr:=b.atR a₂ (.code .ret::k₁)) hF' hr' rfl) (stepR_round_ret rfl rfl hend)))⟩
  | exit id=>exact hq₂.elim
  | goto t=>exact hq₂.elim
  | outgrown=>exact hq₂.elim
 | exit id=>exact hq.elim
 | goto t=>exact hq.elim
 | ret=>exact hq.elim
 | panic chain=>exact hq.elim
 | outgrown=>exact hq.elim
end Go.Proofs.YtaigaoflehfdcaaGreatDoor
