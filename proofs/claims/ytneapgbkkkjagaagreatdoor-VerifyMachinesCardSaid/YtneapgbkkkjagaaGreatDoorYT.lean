/-
  THE ENGINE: functions that may end by a panic of the program's own; a round that ends so.
-/
import Derived.Test.YtneapgbkkkjagaaGreatDoorYQ
import Derived.RecoverIn
import Derived.RangeFuncLeaves
import Derived.RangeFuncBound
namespace Go.Proofs.YtneapgbkkkjagaaGreatDoor
open Go.RowKit
abbrev pch (v:Value):List PanicEntry:=[{ v,recovered:=false }]
def ZmR {ι κ:Type} (J:WP) (S:Nat→Prop) (w0:World) (R:List OB) (res:ι→AV) (O':ι→List OB) (pv:κ→Value) (O'':κ→List OB) (e:Ending) (w':World):Prop:=
 (∃ i v,e= .returned v∧Rel (SO S (O' i++R)) w' (res i) v∧Keeps All w0 w'∧XO J S w0.heap.size (O' i++R) w')∨
 (∃ k,e= .panicked (pch (pv k))∧Keeps All w0 w'∧XO J S w0.heap.size (O'' k++R) w')
def FnP {ι κ:Type} (P:Program) (J:WP) (f:FuncId) (Hs:List OB) (args:List AV) (O:List OB) (res:ι→AV) (O':ι→List OB) (pv:κ→Value) (O'':κ→List OB):Prop:=
 ∀(S:Nat→Prop) (w0:World) (R:List OB) (w:World) (vs:List Value),(∀ b,w0.heap.size≤b→S b)→J w0→Has Hs S w0→Keeps All w0 w→XO J S w0.heap.size (O++R) w→RelL (SO S (O++R)) w args vs→
  Calls P f vs.toArray w (ZmR J S w0 R res O' pv O'')
theorem FnP.frame {ι κ:Type} {P:Program} {J:WP} {f:FuncId} {Hs:List OB} {args:List AV} {O:List OB} {res:ι→AV} {O':ι→List OB} {pv:κ→Value} {O'':κ→List OB} (F:List OB) (h:FnP P J f Hs args O res O' pv O''):FnP P J f Hs args (O++F) res (fun i=>O' i++F) pv (fun k=>O'' k++F):=fun S w0 R w vs hS hJ hH hk hx ha=>by
 rw[List.append_assoc]at hx ha
 refine Calls.mono (h S w0 (F++R) w vs hS hJ hH hk hx ha) fun e w' hp=>?_
 rcases hp with⟨i,v,he,hv,hk',hx'⟩ | ⟨k,he,hk',hx'⟩
 · exact .inl ⟨i,v,he,by rw[List.append_assoc];exact hv,hk',by rw[List.append_assoc];exact hx'⟩
 · exact .inr ⟨k,he,hk',by rw[List.append_assoc];exact hx'⟩
theorem FnM.map {ι ι':Type} {P:Program} {J:WP} {f:FuncId} {Hs:List OB} {args:List AV} {O:List OB} {res:ι→AV} {O':ι→List OB} {res':ι'→AV} {O2:ι'→List OB} (h:FnM P J f Hs args O res O') (g:ι→ι') (hr:∀ i,res' (g i)=res i) (ho:∀ i,O2 (g i)=O' i):FnM P J f Hs args O res' O2:=by
 intro S w0 R w vs hS hJ hH hk hx ha
 refine Calls.mono (h S w0 R w vs hS hJ hH hk hx ha) ?_
 rintro e w' ⟨i,v,he,hv,hk',hx'⟩
 exact⟨g i,v,he,by rw[ho,hr];exact hv,hk',by rw[ho];exact hx'⟩
def Zqx (n:Rn) (P:Program) (o:Oper) (a:Act) (w:World) (post:Value→WP) (fl:List PanicEntry→WP):Prop:=
 ∀(K:Act→WP) (Q:Exit→Act→WP),(∀ v w',post v w'→K (a.put o.dst v) w')→(∀ ch w',fl ch w'→Q (.panic ch) a w')→o.wpIn n.F n.d P a w K Q
section
variable {n:Rn} {N:Nat} {P:Program} {J:WP} {S:Nat→Prop} {O:List OB} {w0:World} {env:List (Nat×AV)} {Q:Exit→Act→WP} {ι κ:Type}
variable {o:Oper} {a:Act} {w:World}
theorem ZmG {post:Value→WP} {fl:List PanicEntry→WP} {f:FuncId} {args:Array Value} {w1:World} (hrun:(execOp a.eval o).run P w= .ok (.enter f args) w1) (hc:Calls P f args w1 fun e w'=>(∃ v,e= .returned v∧post v w')∨(∃ ch,e= .panicked ch∧fl ch w')):Zqx n P o a w post fl:=
 fun K Q hK hQ=>⟨fun _ _=>trivial,by
  show o.uponIn n.F n.d P a K Q ((o.semAt n.r a.eval).run P w)
  rw[ZcZ hrun fun _ e=>(by cases e)]
  refine⟨fun h=>(by cases h),(Zfq (callsIn_wide.2 hc)).mono fun e w' h=>?_⟩
  rcases h with⟨v,rfl,hv⟩ | ⟨ch,rfl,hv⟩
  · exact hK _ _ hv
  · exact hQ _ _ hv⟩
theorem Zuh {R:List OB} {f:FuncId} {args:List Operand} {callee:Operand} {ts:Array TypeId} {avs:List AV} {res:ι→AV} {O':ι→List OB} {pv:κ→Value} {O'':κ→List OB} {cap:List Value} {avc:List AV} {Hs:List OB} (hF:FnP P J f Hs (avs++avc) O res O' pv O'') (h1:Zk P f) (hop:o.op= .call { callee:=.value callee,args:=args.toArray,argTypes:=ts })
 (hS:∀ b,w0.heap.size≤b→S b) (hJ0:J w0) (hH:Has Hs S w0) (hk:Keeps All w0 w) (hx:XO J S w0.heap.size (O++R) w) (hc:a.eval callee= .func (.func f) #[] cap.toArray) (ha:RelL (SO S (O++R)) w avs (args.map a.eval)) (hcap:RelL (SO S (O++R)) w avc cap):
 Zqx n P o a w (fun v w'=>∃ i,Zbp J S w0 (O++R) w (O' i++R) w'∧Rel (SO S (O' i++R)) w' (res i) v) (fun ch w'=>∃ k,ch=pch (pv k)∧Zbp J S w0 (O++R) w (O'' k++R) w'):=by
 let B:AV→Value→Prop:=fun av v=>Rel (SO S (O++R)) w av v
 have hx2:=Zkc (B:=B) hx fun _ _ h=>h
 have hsub:∀ k,k<w.heap.size→SO S (O++R) k→All k∧SO S (O++OB.was B::R) k:=fun k _ h=>⟨trivial,so_was.2 h⟩
 have hcall:=hF S w0 (OB.was B::R) w _ hS hJ0 hH hk hx2 (RelL.move (Keeps.refl All w) hsub (Zku ha hcap))
 refine ZmG (f:=f) (args:=(args.map a.eval++cap).toArray) (w1:=w) ?_ (Calls.mono hcall fun e w' h=>?_)
 · have h2:=h1 ((args.map a.eval++cap).toArray) w
   simp only[execOp,hop,resolve,hc,Deferred.ofValue,Sem.run_bind,Sem.run_pure,Result.andThen_ok,invoke]
   rw[←h2]
   congr 2
   simp
 · rcases h with⟨i,v,he,hv,hk',hx'⟩ | ⟨k,he,hk',hx'⟩
   · obtain⟨g1,g2⟩:=ZbV hx'
     exact .inl ⟨v,he,i,⟨hk',g1,g2⟩,hv.sub fun k _=>so_was.1⟩
   · obtain⟨g1,g2⟩:=ZbV hx'
     exact .inr ⟨_,he,k,rfl,⟨hk',g1,g2⟩⟩
theorem d_fnP {R:List OB} {f:FuncId} {args:List Operand} {ts:Array TypeId} {avs:List AV} {res:ι→AV} {O':ι→List OB} {pv:κ→Value} {O'':κ→List OB} {Hs:List OB} (hF:FnP P J f Hs avs O res O' pv O'') (h1:Zk P f) (hop:o.op= .call { callee:=.value (.func f),args:=args.toArray,argTypes:=ts })
 (hS:∀ b,w0.heap.size≤b→S b) (hJ0:J w0) (hH:Has Hs S w0) (hk:Keeps All w0 w) (hx:XO J S w0.heap.size (O++R) w) (ha:RelL (SO S (O++R)) w avs (args.map a.eval)):
 Zqx n P o a w (fun v w'=>∃ i,Zbp J S w0 (O++R) w (O' i++R) w'∧Rel (SO S (O' i++R)) w' (res i) v) (fun ch w'=>∃ k,ch=pch (pv k)∧Zbp J S w0 (O++R) w (O'' k++R) w'):=
 Zuh (cap:=[]) (avc:=[]) (by rw[List.append_nil];exact hF) h1 hop hS hJ0 hH hk hx rfl ha (by simp only[RelL])
theorem sq_toP {ops:Array Oper} {rest:List Oper} {d:Nat} {O2:ι→List OB} {av:ι→AV} {pv:κ→Value} {O3:κ→List OB} (hg:o.guard=none) (hd:o.dst=some d) (hN:d<N)
 (ob:∀ a w,So J S w0 N O env a w→Zqx n P o a w (fun v w'=>∃ i,Zbp J S w0 O w (O2 i) w'∧Rel (SO S (O2 i)) w' (av i) v) (fun ch w'=>∃ k,ch=pch (pv k)∧Zbp J S w0 O w (O3 k) w'))
 (pan:∀ k a w,So J S w0 N (O3 k) env a w→Q (.panic (pch (pv k))) a w)
 (next:∀ i a w,So J S w0 N (O2 i) ((d,av i)::YM d env) a w→wpListIn n.F n.d P ops Q rest a w):
 ∀ a w,So J S w0 N O env a w→wpListIn n.F n.d P ops Q (o::rest) a w:=fun a w h=>by
 refine wpListIn_plain hg fun K' hK=>?_
 refine ob a w h K' Q (fun u w2 ⟨i,hs,hr⟩=>?_) fun ch w2 ⟨k,hc,hs⟩=>?_
 · rw[hd]
   exact hK _ _ (next i _ _ (h.step hs hN hr))
 · rw[hc]
   exact pan k _ _ (h.step0 hs undef)
theorem Zak {args:List AV} {vs:List Value} {T:Nat→Prop} {M:Nat} (hl:args.length≤N) (hM:M=N) (ha:RelL T w args vs):
 (vs.toArray++Array.replicate (M-vs.toArray.size) undef).size=N∧∀ p∈Y4 0 args,p.1<N∧Rel T w p.2 ((vs.toArray++Array.replicate (M-vs.toArray.size) undef).getD p.1 undef):=by
 have hlen:vs.length=args.length:=by
  clear hl
  induction args generalizing vs with
  | nil=>simp only[RelL]at ha;subst ha;rfl
  | cons a l ih=>simp only[RelL]at ha;obtain⟨u,us',rfl,_,h2⟩:=ha;simp[ih h2]
 refine⟨by simp;omega,?_⟩
 have key:∀(args:List AV) (us pre:List Value) (i:Nat),pre.length=i→vs=pre++us→RelL T w args us→∀ p∈Y4 i args,p.1<N∧Rel T w p.2 ((vs.toArray++Array.replicate (M-vs.toArray.size) undef).getD p.1 undef):=by
  intro args
  induction args with
  | nil=>intro us pre i _ _ _ p hp;cases hp
  | cons x l ih=>
   intro us pre i hi hv hr p hp
   simp only[RelL]at hr
   obtain⟨u,us',rfl,h1,h2⟩:=hr
   rcases List.mem_cons.1 hp with rfl | hp
   · have hlt:i<vs.length:=by rw[hv];simp;omega
     refine⟨oz,?_⟩
     have:(vs.toArray++Array.replicate (M-vs.toArray.size) undef).getD i undef=u:=by
      rw[Array.getD_eq_getD_getElem?,Array.getElem?_append_left (by simpa using hlt)]
      simp[hv,←hi]
     rw[this];exact h1
   · exact ih us' (pre++[u]) (i+1) (by simp[hi]) (by simp[hv]) h2 p hp
 exact key args vs [] 0 rfl rfl ha
theorem Zpl {f:FuncId} {fn:Func} {c:Code} {args:List AV} {res:ι→AV} {O':ι→List OB} {pv:κ→Value} {O'':κ→List OB} (hf:P.funcs[f]?=some fn) (hb:fn.body=some c) (hN:fn.ntmps=N) (hl:args.length≤N)
 {Hs:List OB} (h:∀(S:Nat→Prop) (w0:World) (R:List OB),(∀ b,w0.heap.size≤b→S b)→J w0→Has Hs S w0→Tr 5 P (So J S w0 N (O++R) (Y4 0 args)) c (bodyPost P fn (ZmR J S w0 R res O' pv O''))):FnP P J f Hs args O res O' pv O'':=by
 intro S w0 R w vs hS hJ hH hk hx ha
 obtain⟨g1,g2⟩:=Zak hl hN ha
 exact(callsIn_wide (n:=5)).1 (callsIn_of_wp hf hb trivial (h S w0 R hS hJ hH _ _ ⟨rfl,g1,hk,hx,g2⟩) rfl)
theorem fEP {f:FuncId} {fn:Func} {c:Code} {args:List AV} {res:ι→AV} {O':ι→List OB} {pv:κ→Value} {O'':κ→List OB} (hf:P.funcs[f]?=some fn)
 {Hs:List OB} (h:∀(S:Nat→Prop) (w0:World) (R:List OB),(∀ b,w0.heap.size≤b→S b)→J w0→Has Hs S w0→Tr 5 P (So J S w0 N (O++R) (Y4 0 args)) c (bodyPost P fn (ZmR J S w0 R res O' pv O''))) (hb:fn.body=some c:=by exact rfl) (hN:fn.ntmps=N:=by exact rfl) (hl:args.length≤N:=by exact Nat.le_of_ble_eq_true rfl):FnP P J f Hs args O res O' pv O'':=Zpl hf hb hN hl h
theorem ZdO {fn:Func} {R R':Ending→WP} (h:bodyPost P fn R .ret a w) (hR:∀ e w',R e w'→R' e w'):bodyPost P fn R' .ret a w:=by
 obtain⟨h1,v,h2,h3⟩:=h
 exact⟨h1,v,h2,hR _ _ h3⟩
theorem lvP {fn:Func} {R:List OB} {res:ι→AV} {O':ι→List OB} {pv:κ→Value} {O'':κ→List OB} (h:bodyPost P fn (fun e w'=>∃ i v,e= .returned v∧Rel (SO S (O' i++R)) w' (res i) v∧Keeps All w0 w'∧XO J S w0.heap.size (O' i++R) w') .ret a w):bodyPost P fn (ZmR J S w0 R res O' pv O'') .ret a w:=
 ZdO h fun _ _ hr=>.inl hr
theorem pnP {R:List OB} {res:ι→AV} {O':ι→List OB} {pv:κ→Value} {O'':κ→List OB} {v:Value} (k:κ) (hv:v=pv k):∀ a w,So J S w0 N (O'' k++R) env a w→a.defers=[]∧ZmR J S w0 R res O' pv O'' (.panicked (pch v)) w:=fun a w h=>
 ⟨h.defs,.inr ⟨k,by rw[hv],h.keep,h.x⟩⟩
theorem Qo {ops:Array Oper} {rest:List Oper} {R:List OB} {d:Nat} {f:FuncId} {args:List Operand} {ts:Array TypeId} {avs:List AV} {res:ι→AV} {O':ι→List OB} {pv:κ→Value} {O'':κ→List OB} {Hs:List OB} (hF:FnP P J f Hs avs O res O' pv O'') (h1:Zk P f) (hg:o.guard=none) (hop:o.op= .call { callee:=.value (.func f),args:=args.toArray,argTypes:=ts }) (hd:o.dst=some d) (hN:d<N)
 (hS:∀ b,w0.heap.size≤b→S b) (hJ0:J w0) (hH:Has Hs S w0) (ha:∀ a w,So J S w0 N (O++R) env a w→RelL (SO S (O++R)) w avs (args.map a.eval))
 (pan:∀ k a w,So J S w0 N (O'' k++R) env a w→Q (.panic (pch (pv k))) a w)
 (next:∀ i a w,So J S w0 N (O' i++R) ((d,res i)::YM d env) a w→wpListIn n.F n.d P ops Q rest a w):
 ∀ a w,So J S w0 N (O++R) env a w→wpListIn n.F n.d P ops Q (o::rest) a w:=
 sq_toP (O2:=fun i=>O' i++R) (O3:=fun k=>O'' k++R) hg hd hN (fun a w h=>d_fnP hF h1 hop hS hJ0 hH h.keep h.x (ha a w h)) pan next
end

def Zf3 (P:Program) (l:Nat) (R:Ending→WP):Exit→Act→WP
 | .normal,_,w=>∃ v w',(Instr.endRound l none).run P w= .ok v w'∧R (.returned v) w'
 | .ret,_,w=>∃ v w',(Instr.endRound l (some .ret)).run P w= .ok v w'∧R (.returned v) w'
 | .panic ch,a,w=>a.defers=[]∧R (.panicked ch) w
 | _,_,_=>False
theorem Zd8 {F:Fence} {n:Nat} {P:Program} {l:Nat} {f:FuncId} {tmps:Array Value} {assign body:Code} {w:World} {R:Ending→WP} (hF:F.fn f) (hfn:∃ fn,P.funcs[f]?=some fn)
 (h:assign.wpIn (F.inRound l) n P (Exit.then (fun a₁ w₁=>∃ w₂,(Instr.beginRound l).run P w₁= .ok () w₂∧body.wpIn (F.inRound l) n P (Zf3 P l R) a₁ w₂) (fun _ _ _=>False))
  { tmps:=tmps,defers:=[] } w):
 RoundIn F n P l f tmps assign body w R:=by
 refine⟨hF,fun c cs hr=>?_⟩
 let b:Frame:= { (default:Frame)with fn:=f,kind:=.normal,roundOf:=some l }
 have hb0:Frame.round l f tmps assign body .normal=b.atR { tmps:=tmps,defers:=[] } [.code assign,.beginRound,.code body]:=by
  simp[Frame.round,Frame.atR,b]
 have hr':(F.inRound l).room ((c::cs).length+1+n):=hr
 have hF':(F.inRound l).fn b.fn:=hF
 obtain⟨e,a₁,w₁,hq,harr⟩:=h b [.beginRound,.code body] (c::cs) rfl hF' hr'
 rw[←hb0]at harr
 cases e with
 | normal=>
  obtain⟨w₂,hbr,hbody⟩:=hq
  have s1:StepsIn (Machine.fenced P (F.inRound l)) P (lone (b.atR a₁ [.beginRound,.code body]) (c::cs) w₁) (lone (b.atR a₁ [.code body]) (c::cs) w₂):=
   .one (fenced_calm (fr:=b.atR a₁ [.beginRound,.code body]) hF' hr' rfl) (stepR_beginRound rfl hbr)
  obtain⟨e₂,a₂,w₃,hq₂,harr₂⟩:=hbody b [] (c::cs) rfl hF' hr'
  cases e₂ with
  | normal=>
   obtain⟨v,w₄,hend,hR⟩:=hq₂
   exact⟨.returned v,w₄,hR,(StepsIn.trans harr s1).trans (StepsIn.trans harr₂ (.one (fenced_calm (fr:=b.atR a₂ []) hF' hr' rfl) (stepR_round_end rfl rfl hend)))⟩
  | panic ch=>
   obtain⟨hd,hR⟩:=hq₂
   obtain⟨todo,hs⟩:=harr₂
   have hl:({ b.atR a₂ todo with mode:=.panicking ch }:Frame).leaving P w₃ (.panicked ch):=⟨rfl,hd,hfn⟩
   exact⟨.panicked ch,w₃,hR,(StepsIn.trans harr s1).trans (StepsIn.trans hs (.one (fenced_leaving hF' hr' hl) (step_leave_panicked hl)))⟩
  | ret=>
   obtain⟨v,w₄,hend,hR⟩:=hq₂
   obtain⟨k₁,hs⟩:=harr₂.2 rfl
   exact⟨.returned v,w₄,hR,(StepsIn.trans harr s1).trans (StepsIn.trans hs (.one (fenced_calm (fr:=b.atR a₂ (.code .ret::k₁)) hF' hr' rfl) (stepR_round_ret rfl rfl hend)))⟩
  | exit id=>exact hq₂.elim
  | goto t=>exact hq₂.elim
  | outgrown=>exact hq₂.elim
 | exit id=>exact hq.elim
 | goto t=>exact hq.elim
 | ret=>exact hq.elim
 | panic chain=>exact hq.elim
 | outgrown=>exact hq.elim
end Go.Proofs.YtneapgbkkkjagaaGreatDoor
