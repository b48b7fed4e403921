/-
  THE ENGINE: functions that may end by a panic of the program's own; a round that ends so.
  THE ENGINE: a range over a function: the iterator's contract, and the statement, where rounds and the iterator may end by a panic.
  THE ENGINE: the way to a range over a function, where the frame's function is known; behind it, where a mark is deferred.
-/
import Derived.Test.YtapelgeodldlcaaGreatDoorXQ
import Derived.RecoverIn
import Derived.RangeFuncLeaves
import Derived.RangeFuncBound
namespace Go.Proofs.YtapelgeodldlcaaGreatDoor
open Go.RowKit
abbrev pch (v:Value):List PanicEntry:=[{ v,recovered:=false }]
def Zoj {ι κ:Type} (J:World→Prop) (S:Nat→Prop) (w0:World) (R:List OB) (res:ι→AV) (O':ι→List OB) (pv:κ→Value) (O'':κ→List OB) (e:Ending) (w':World):Prop:=
 (∃ i v,e= .returned v∧Rel (SO S (O' i++R)) w' (res i) v∧Keeps All w0 w'∧XO J S w0.heap.size (O' i++R) w')∨
 (∃ k,e= .panicked (pch (pv k))∧Keeps All w0 w'∧XO J S w0.heap.size (O'' k++R) w')
def FnP {ι κ:Type} (P:Program) (J:World→Prop) (f:FuncId) (Hs:List OB) (args:List AV) (O:List OB) (res:ι→AV) (O':ι→List OB) (pv:κ→Value) (O'':κ→List OB):Prop:=
 ∀(S:Nat→Prop) (w0:World) (R:List OB) (w:World) (vs:List Value),(∀ b,w0.heap.size≤b→S b)→J w0→Has Hs S w0→Keeps All w0 w→XO J S w0.heap.size (O++R) w→RelL (SO S (O++R)) w args vs→
  Calls P f vs.toArray w (Zoj J S w0 R res O' pv O'')
theorem FnP.frame {ι κ:Type} {P:Program} {J:World→Prop} {f:FuncId} {Hs:List OB} {args:List AV} {O:List OB} {res:ι→AV} {O':ι→List OB} {pv:κ→Value} {O'':κ→List OB} (F:List OB) (h:FnP P J f Hs args O res O' pv O''):FnP P J f Hs args (O++F) res (fun i=>O' i++F) pv (fun k=>O'' k++F):=fun S w0 R w vs hS hJ hH hk hx ha=>by
 rw[List.append_assoc]at hx ha
 refine Calls.mono (h S w0 (F++R) w vs hS hJ hH hk hx ha) fun e w' hp=>?_
 rcases hp with⟨i,v,he,hv,hk',hx'⟩ | ⟨k,he,hk',hx'⟩
 · exact .inl ⟨i,v,he,by rw[List.append_assoc];exact hv,hk',by rw[List.append_assoc];exact hx'⟩
 · exact .inr ⟨k,he,hk',by rw[List.append_assoc];exact hx'⟩
theorem FnM.map {ι ι':Type} {P:Program} {J:World→Prop} {f:FuncId} {Hs:List OB} {args:List AV} {O:List OB} {res:ι→AV} {O':ι→List OB} {res':ι'→AV} {O2:ι'→List OB} (h:FnM P J f Hs args O res O') (g:ι→ι') (hr:∀ i,res' (g i)=res i) (ho:∀ i,O2 (g i)=O' i):FnM P J f Hs args O res' O2:=by
 intro S w0 R w vs hS hJ hH hk hx ha
 refine Calls.mono (h S w0 R w vs hS hJ hH hk hx ha) ?_
 rintro e w' ⟨i,v,he,hv,hk',hx'⟩
 exact⟨g i,v,he,by rw[ho,hr];exact hv,hk',by rw[ho];exact hx'⟩
def Zon (n:Rn) (P:Program) (o:Oper) (a:Act) (w:World) (post:Value→World→Prop) (fl:List PanicEntry→World→Prop):Prop:=
 ∀(K:Act→World→Prop) (Q:Exit→Act→World→Prop),(∀ v w',post v w'→K (a.put o.dst v) w')→(∀ ch w',fl ch w'→Q (.panic ch) a w')→o.wpIn n.F n.d P a w K Q
section
variable {n:Rn} {N:Nat} {P:Program} {J:World→Prop} {S:Nat→Prop} {O:List OB} {w0:World} {env:List (Nat×AV)} {Q:Exit→Act→World→Prop} {ι κ:Type}
variable {o:Oper} {a:Act} {w:World}
theorem ZkZ {post:Value→World→Prop} {fl:List PanicEntry→World→Prop} {f:FuncId} {args:Array Value} {w1:World} (hrun:(execOp a.eval o).run P w= .ok (.enter f args) w1) (hc:Calls P f args w1 fun e w'=>(∃ v,e= .returned v∧post v w')∨(∃ ch,e= .panicked ch∧fl ch w')):Zon n P o a w post fl:=
 fun K Q hK hQ=>⟨fun _ _=>trivial,by
  show o.uponIn n.F n.d P a K Q ((o.semAt n.r a.eval).run P w)
  rw[ZbZ hrun fun _ e=>(by cases e)]
  refine⟨fun h=>(by cases h),(Zef (callsIn_wide.2 hc)).mono fun e w' h=>?_⟩
  rcases h with⟨v,rfl,hv⟩ | ⟨ch,rfl,hv⟩
  · exact hK _ _ hv
  · exact hQ _ _ hv⟩
theorem ZrN {R:List OB} {f:FuncId} {args:List Operand} {callee:Operand} {ts:Array TypeId} {avs:List AV} {res:ι→AV} {O':ι→List OB} {pv:κ→Value} {O'':κ→List OB} {cap:List Value} {avc:List AV} {Hs:List OB} (hF:FnP P J f Hs (avs++avc) O res O' pv O'') (h1:Zl P f) (hop:o.op= .call { callee:=.value callee,args:=args.toArray,argTypes:=ts })
 (hS:∀ b,w0.heap.size≤b→S b) (hJ0:J w0) (hH:Has Hs S w0) (hk:Keeps All w0 w) (hx:XO J S w0.heap.size (O++R) w) (hc:a.eval callee= .func (.func f) #[] cap.toArray) (ha:RelL (SO S (O++R)) w avs (args.map a.eval)) (hcap:RelL (SO S (O++R)) w avc cap):
 Zon n P o a w (fun v w'=>∃ i,ZaM J S w0 (O++R) w (O' i++R) w'∧Rel (SO S (O' i++R)) w' (res i) v) (fun ch w'=>∃ k,ch=pch (pv k)∧ZaM J S w0 (O++R) w (O'' k++R) w'):=by
 let B:AV→Value→Prop:=fun av v=>Rel (SO S (O++R)) w av v
 have hx2:=Ziw (B:=B) hx fun _ _ h=>h
 have hsub:∀ k,k<w.heap.size→SO S (O++R) k→All k∧SO S (O++OB.was B::R) k:=fun k _ h=>⟨trivial,so_was.2 h⟩
 have hcall:=hF S w0 (OB.was B::R) w _ hS hJ0 hH hk hx2 (RelL.move (Keeps.refl All w) hsub (ZiX ha hcap))
 refine ZkZ (f:=f) (args:=(args.map a.eval++cap).toArray) (w1:=w) ?_ (Calls.mono hcall fun e w' h=>?_)
 · have h2:=h1 ((args.map a.eval++cap).toArray) w
   simp only[execOp,hop,resolve,hc,Deferred.ofValue,Sem.run_bind,Sem.run_pure,Result.andThen_ok,invoke]
   rw[←h2]
   congr 2
   simp
 · rcases h with⟨i,v,he,hv,hk',hx'⟩ | ⟨k,he,hk',hx'⟩
   · obtain⟨g1,g2⟩:=Za8 hx'
     exact .inl ⟨v,he,i,⟨hk',g1,g2⟩,hv.sub fun k _=>so_was.1⟩
   · obtain⟨g1,g2⟩:=Za8 hx'
     exact .inr ⟨_,he,k,rfl,⟨hk',g1,g2⟩⟩
theorem d_fnP {R:List OB} {f:FuncId} {args:List Operand} {ts:Array TypeId} {avs:List AV} {res:ι→AV} {O':ι→List OB} {pv:κ→Value} {O'':κ→List OB} {Hs:List OB} (hF:FnP P J f Hs avs O res O' pv O'') (h1:Zl P f) (hop:o.op= .call { callee:=.value (.func f),args:=args.toArray,argTypes:=ts })
 (hS:∀ b,w0.heap.size≤b→S b) (hJ0:J w0) (hH:Has Hs S w0) (hk:Keeps All w0 w) (hx:XO J S w0.heap.size (O++R) w) (ha:RelL (SO S (O++R)) w avs (args.map a.eval)):
 Zon n P o a w (fun v w'=>∃ i,ZaM J S w0 (O++R) w (O' i++R) w'∧Rel (SO S (O' i++R)) w' (res i) v) (fun ch w'=>∃ k,ch=pch (pv k)∧ZaM J S w0 (O++R) w (O'' k++R) w'):=
 ZrN (cap:=[]) (avc:=[]) (by rw[List.append_nil];exact hF) h1 hop hS hJ0 hH hk hx rfl ha (by simp only[RelL])
theorem sq_toP {ops:Array Oper} {rest:List Oper} {d:Nat} {O2:ι→List OB} {av:ι→AV} {pv:κ→Value} {O3:κ→List OB} (hg:o.guard=none) (hd:o.dst=some d) (hN:d<N)
 (ob:∀ a w,St All (SO S O) w0 N env (XO J S w0.heap.size O) a w→Zon n P o a w (fun v w'=>∃ i,ZaM J S w0 O w (O2 i) w'∧Rel (SO S (O2 i)) w' (av i) v) (fun ch w'=>∃ k,ch=pch (pv k)∧ZaM J S w0 O w (O3 k) w'))
 (pan:∀ k a w,St All (SO S (O3 k)) w0 N env (XO J S w0.heap.size (O3 k)) a w→Q (.panic (pch (pv k))) a w)
 (next:∀ i a w,St All (SO S (O2 i)) w0 N ((d,av i)::YA d env) (XO J S w0.heap.size (O2 i)) a w→wpListIn n.F n.d P ops Q rest a w):
 ∀ a w,St All (SO S O) w0 N env (XO J S w0.heap.size O) a w→wpListIn n.F n.d P ops Q (o::rest) a w:=fun a w h=>by
 refine wpListIn_plain hg fun K' hK=>?_
 refine ob a w h K' Q (fun u w2 ⟨i,hs,hr⟩=>?_) fun ch w2 ⟨k,hc,hs⟩=>?_
 · rw[hd]
   exact hK _ _ (next i _ _ (h.step hs hN hr))
 · rw[hc]
   exact pan k _ _ (h.step0 hs undef)
theorem QF {args:List AV} {vs:List Value} {T:Nat→Prop} {M:Nat} (hl:args.length≤N) (hM:M=N) (ha:RelL T w args vs):
 (vs.toArray++Array.replicate (M-vs.toArray.size) undef).size=N∧∀ p∈Xl 0 args,p.1<N∧Rel T w p.2 ((vs.toArray++Array.replicate (M-vs.toArray.size) undef).getD p.1 undef):=by
 have hlen:vs.length=args.length:=by
  clear hl
  induction args generalizing vs with
  | nil=>simp only[RelL]at ha;subst ha;rfl
  | cons a l ih=>simp only[RelL]at ha;obtain⟨u,us',rfl,_,h2⟩:=ha;simp[ih h2]
 refine⟨by simp;omega,?_⟩
 have key:∀(args:List AV) (us pre:List Value) (i:Nat),pre.length=i→vs=pre++us→RelL T w args us→∀ p∈Xl i args,p.1<N∧Rel T w p.2 ((vs.toArray++Array.replicate (M-vs.toArray.size) undef).getD p.1 undef):=by
  intro args
  induction args with
  | nil=>intro us pre i _ _ _ p hp;cases hp
  | cons x l ih=>
   intro us pre i hi hv hr p hp
   simp only[RelL]at hr
   obtain⟨u,us',rfl,h1,h2⟩:=hr
   rcases List.mem_cons.1 hp with rfl | hp
   · have hlt:i<vs.length:=by rw[hv];simp;omega
     refine⟨by omega,?_⟩
     have:(vs.toArray++Array.replicate (M-vs.toArray.size) undef).getD i undef=u:=by
      rw[Array.getD_eq_getD_getElem?,Array.getElem?_append_left (by simpa using hlt)]
      simp[hv,←hi]
     rw[this];exact h1
   · exact ih us' (pre++[u]) (i+1) (by simp[hi]) (by simp[hv]) h2 p hp
 exact key args vs [] 0 rfl rfl ha
theorem Qn {f:FuncId} {fn:Func} {c:Code} {args:List AV} {res:ι→AV} {O':ι→List OB} {pv:κ→Value} {O'':κ→List OB} (hf:P.funcs[f]?=some fn) (hb:fn.body=some c) (hN:fn.ntmps=N) (hl:args.length≤N)
 {Hs:List OB} (h:∀(S:Nat→Prop) (w0:World) (R:List OB),(∀ b,w0.heap.size≤b→S b)→J w0→Has Hs S w0→Tr 5 P (St All (SO S (O++R)) w0 N (Xl 0 args) (XO J S w0.heap.size (O++R))) c (bodyPost P fn (Zoj J S w0 R res O' pv O''))):FnP P J f Hs args O res O' pv O'':=by
 intro S w0 R w vs hS hJ hH hk hx ha
 obtain⟨g1,g2⟩:=QF hl hN ha
 exact(callsIn_wide (n:=5)).1 (callsIn_of_wp hf hb trivial (h S w0 R hS hJ hH _ _ ⟨rfl,g1,hk,hx,g2⟩) rfl)
theorem ZcE {fn:Func} {R R':Ending→World→Prop} (h:bodyPost P fn R .ret a w) (hR:∀ e w',R e w'→R' e w'):bodyPost P fn R' .ret a w:=by
 obtain⟨h1,v,h2,h3⟩:=h
 exact⟨h1,v,h2,hR _ _ h3⟩
theorem lvP {fn:Func} {R:List OB} {res:ι→AV} {O':ι→List OB} {pv:κ→Value} {O'':κ→List OB} (h:bodyPost P fn (fun e w'=>∃ i v,e= .returned v∧Rel (SO S (O' i++R)) w' (res i) v∧Keeps All w0 w'∧XO J S w0.heap.size (O' i++R) w') .ret a w):bodyPost P fn (Zoj J S w0 R res O' pv O'') .ret a w:=
 ZcE h fun _ _ hr=>.inl hr
theorem pnP {R:List OB} {res:ι→AV} {O':ι→List OB} {pv:κ→Value} {O'':κ→List OB} {v:Value} (k:κ) (hv:v=pv k):∀ a w,St All (SO S (O'' k++R)) w0 N env (XO J S w0.heap.size (O'' k++R)) a w→a.defers=[]∧Zoj J S w0 R res O' pv O'' (.panicked (pch v)) w:=fun a w h=>
 ⟨h.defs,.inr ⟨k,by rw[hv],h.keep,h.x⟩⟩
theorem XX {ops:Array Oper} {rest:List Oper} {R:List OB} {d:Nat} {f:FuncId} {args:List Operand} {ts:Array TypeId} {avs:List AV} {res:ι→AV} {O':ι→List OB} {pv:κ→Value} {O'':κ→List OB} {Hs:List OB} (hF:FnP P J f Hs avs O res O' pv O'') (h1:Zl P f) (hg:o.guard=none) (hop:o.op= .call { callee:=.value (.func f),args:=args.toArray,argTypes:=ts }) (hd:o.dst=some d) (hN:d<N)
 (hS:∀ b,w0.heap.size≤b→S b) (hJ0:J w0) (hH:Has Hs S w0) (ha:∀ a w,St All (SO S (O++R)) w0 N env (XO J S w0.heap.size (O++R)) a w→RelL (SO S (O++R)) w avs (args.map a.eval))
 (pan:∀ k a w,St All (SO S (O'' k++R)) w0 N env (XO J S w0.heap.size (O'' k++R)) a w→Q (.panic (pch (pv k))) a w)
 (next:∀ i a w,St All (SO S (O' i++R)) w0 N ((d,res i)::YA d env) (XO J S w0.heap.size (O' i++R)) a w→wpListIn n.F n.d P ops Q rest a w):
 ∀ a w,St All (SO S (O++R)) w0 N env (XO J S w0.heap.size (O++R)) a w→wpListIn n.F n.d P ops Q (o::rest) a w:=
 sq_toP (O2:=fun i=>O' i++R) (O3:=fun k=>O'' k++R) hg hd hN (fun a w h=>d_fnP hF h1 hop hS hJ0 hH h.keep h.x (ha a w h)) pan next
end

def ZeN (P:Program) (l:Nat) (R:Ending→World→Prop):Exit→Act→World→Prop
 | .normal,_,w=>∃ v w',(Instr.endRound l none).run P w= .ok v w'∧R (.returned v) w'
 | .ret,_,w=>∃ v w',(Instr.endRound l (some .ret)).run P w= .ok v w'∧R (.returned v) w'
 | .panic ch,a,w=>a.defers=[]∧R (.panicked ch) w
 | _,_,_=>False
theorem Zc1 {F:Fence} {n:Nat} {P:Program} {l:Nat} {f:FuncId} {tmps:Array Value} {assign body:Code} {w:World} {R:Ending→World→Prop} (hF:F.fn f) (hfn:∃ fn,P.funcs[f]?=some fn)
 (h:assign.wpIn (F.inRound l) n P (Exit.then (fun a₁ w₁=>∃ w₂,(Instr.beginRound l).run P w₁= .ok () w₂∧body.wpIn (F.inRound l) n P (ZeN P l R) a₁ w₂) (fun _ _ _=>False))
  { tmps:=tmps,defers:=[] } w):
 RoundIn F n P l f tmps assign body w R:=by
 refine⟨hF,fun c cs hr=>?_⟩
 let b:Frame:= { (default:Frame)with fn:=f,kind:=.normal,roundOf:=some l }
 have hb0:Frame.round l f tmps assign body .normal=b.atR { tmps:=tmps,defers:=[] } [.code assign,.beginRound,.code body]:=by
  simp[Frame.round,Frame.atR,b]
 have hr':(F.inRound l).room ((c::cs).length+1+n):=hr
 have hF':(F.inRound l).fn b.fn:=hF
 obtain⟨e,a₁,w₁,hq,harr⟩:=h b [.beginRound,.code body] (c::cs) rfl hF' hr'
 rw[←hb0]at harr
 cases e with
 | normal=>
  obtain⟨w₂,hbr,hbody⟩:=hq
  have s1:StepsIn (Machine.fenced P (F.inRound l)) P (lone (b.atR a₁ [.beginRound,.code body]) (c::cs) w₁) (lone (b.atR a₁ [.code body]) (c::cs) w₂):=
   .one (fenced_calm (fr:=b.atR a₁ [.beginRound,.code body]) hF' hr' rfl) (stepR_beginRound rfl hbr)
  obtain⟨e₂,a₂,w₃,hq₂,harr₂⟩:=hbody b [] (c::cs) rfl hF' hr'
  cases e₂ with
  | normal=>
   obtain⟨v,w₄,hend,hR⟩:=hq₂
   exact⟨.returned v,w₄,hR,(StepsIn.trans harr s1).trans (StepsIn.trans harr₂ (.one (fenced_calm (fr:=b.atR a₂ []) hF' hr' rfl) (stepR_round_end rfl rfl hend)))⟩
  | panic ch=>
   obtain⟨hd,hR⟩:=hq₂
   obtain⟨todo,hs⟩:=harr₂
   have hl:({ b.atR a₂ todo with mode:=.panicking ch }:Frame).leaving P w₃ (.panicked ch):=⟨rfl,hd,hfn⟩
   exact⟨.panicked ch,w₃,hR,(StepsIn.trans harr s1).trans (StepsIn.trans hs (.one (fenced_leaving hF' hr' hl) (step_leave_panicked hl)))⟩
  | ret=>
   obtain⟨v,w₄,hend,hR⟩:=hq₂
   obtain⟨k₁,hs⟩:=harr₂.2 rfl
   exact⟨.returned v,w₄,hR,(StepsIn.trans harr s1).trans (StepsIn.trans hs (.one (fenced_calm (fr:=b.atR a₂ (.code .ret::k₁)) hF' hr' rfl) (stepR_round_ret rfl rfl hend)))⟩
  | exit id=>exact hq₂.elim
  | goto t=>exact hq₂.elim
  | outgrown=>exact hq₂.elim
 | exit id=>exact hq.elim
 | goto t=>exact hq.elim
 | ret=>exact hq.elim
 | panic chain=>exact hq.elim
 | outgrown=>exact hq.elim
def OB.obj (l:Nat) (o:Obj):OB where
 blk:=fun k=>k=l
 inv:=fun lo _ w=>lo≤l∧l<w.heap.size∧w.heap[l]?=some o
 mv:=fun⟨h1,h2,h3⟩ hk hb _=>⟨h1,by have:=hk.size;omega,(hk.block _ h2 (hb _ rfl)).trans h3⟩
 lt:=fun⟨h1,h2,_⟩ k hk=>by subst hk;exact⟨h1,h2⟩
section
variable {P:Program} {J:World→Prop} {S:Nat→Prop} {O:List OB} {w0 w:World}
theorem Qa {l:Nat} {o:Obj} (o':Obj) (hJ:Stab J) (hJ0:J w0) (hk:Keeps All w0 w) (hx:XO J S w0.heap.size (OB.obj l o::O) w):ZaM J S w0 (OB.obj l o::O) w (OB.obj l o'::O) (w.putObj l o'):=by
 obtain⟨h1,h2,h3⟩:=hx.2.1 (OB.obj l o) (by simp)
 have hk':Keeps All w0 (w.putObj l o'):=hk.putObj (fun hlt=>by omega) o'
 have hkk:Keeps (fun b=>¬ (OB.obj l o).blk b) w (w.putObj l o'):=(Keeps.refl _ _).putObj (fun _ hn=>hn rfl) o'
 obtain⟨g1,g2⟩:=Zix (o':=OB.obj l o') hx (hJ _ _ hk' hJ0) hkk (fun k hk=>.inl hk) ⟨h1,by simpa using h2,World.putObj_heap_same h2⟩
 exact⟨hk',g1,fun av u hr=>Rel.move hkk g2 hr⟩
theorem Zlj {o:OB} (h:XO J S w0.heap.size (o::O) w):XO J S w0.heap.size O w:=
 ⟨h.1,fun p hp=>OB.sub (h.2.1 p (List.mem_cons_of_mem _ hp)) fun _ _ hk=>hk.drop,(List.pairwise_cons.1 h.2.2).2⟩
theorem perm_mid {A B:List OB} {x:OB}:(A++x::B).Perm (x::(A++B)):=List.perm_middle
def rndQ {κ μ σ:Type} (J:World→Prop) (S:Nat→Prop) (w0:World) (I':κ→List OB) (pv:μ→Value) (O3:μ→List OB) (O4:σ→List OB) (R:List OB):Exit→Act→World→Prop
 | .normal,_,w=>∃ k,Keeps All w0 w∧XO J S w0.heap.size (I' k++R) w
 | .ret,_,w=>∃ s,Keeps All w0 w∧XO J S w0.heap.size (O4 s++R) w
 | .panic ch,a,w=>∃ q,ch=pch (pv q)∧a.defers=[]∧Keeps All w0 w∧XO J S w0.heap.size (O3 q++R) w
 | _,_,_=>False
def rndE {κ μ σ:Type} (J:World→Prop) (S:Nat→Prop) (w0:World) (I':κ→List OB) (pv:μ→Value) (O3:μ→List OB) (O4:σ→List OB) (R:List OB) (e:Ending) (w:World):Prop:=
 (e= .returned (.bool true)∧∃ k,Keeps All w0 w∧XO J S w0.heap.size (I' k++R) w)∨(e= .returned (.bool false)∧∃ s,Keeps All w0 w∧XO J S w0.heap.size (O4 s++R) w)∨(∃ q,e= .panicked (pch (pv q))∧Keeps All w0 w∧XO J S w0.heap.size (O3 q++R) w)
def Zrg {κ μ σ:Type} (J:World→Prop) (S:Nat→Prop) (w0:World) (I':κ→List OB) (pv:μ→Value) (O3:μ→List OB) (O4:σ→List OB) (R:List OB) (fl:Option Value) (e:Ending) (w:World):Prop:=
 (fl=none∧∃ v k,e= .returned v∧Keeps All w0 w∧XO J S w0.heap.size (I' k++R) w)∨
 (∃ v k,fl=some v∧e= .panicked (pch v)∧Keeps All w0 w∧XO J S w0.heap.size (I' k++R) w)∨
 (∃ v s,e= .returned v∧Keeps All w0 w∧XO J S w0.heap.size (O4 s++R) w)∨
 (∃ q,e= .panicked (pch (pv q))∧Keeps All w0 w∧XO J S w0.heap.size (O3 q++R) w)
def SeqE {α:Type} (P:Program) (J:World→Prop) (g:FuncId) (Hs:List OB) (avc:List AV) (enc:α→Value) (xs:List α) (fl:Option Value):Prop:=
 ∀(S:Nat→Prop) (w0:World) (R:List OB) (w:World) (l n:Nat) (us:List Value) (κ μ σ:Type) (I:List α→κ→List OB) (pv:μ→Value) (O3:μ→List OB) (O4:σ→List OB) (k0:κ),
  (∀ b,w0.heap.size≤b→S b)→J w0→Has Hs S w0→Keeps All w0 w→XO J S w0.heap.size (I [] k0++R) w→RelL (SO S (I [] k0++R)) w avc us→
  (∀(m:Nat) (R':List OB) (pre:List α) (x:α) (k:κ) (w1:World),(pre++[x])<+:xs→Keeps All w0 w1→XO J S w0.heap.size (I pre k++R') w1→YieldAt Fence.wide m P l #[enc x] w1 (rndE J S w0 (I (pre++[x])) pv O3 O4 R'))→
  CallsIn Fence.wide n P g (#[.func (.yield l) #[] #[]]++us.toArray) w (Zrg J S w0 (I xs) pv O3 O4 R fl)
end
section
variable {n:Rn} {N:Nat} {P:Program} {J:World→Prop} {S:Nat→Prop} {O:List OB} {w0:World} {env:List (Nat×AV)} {Q:Exit→Act→World→Prop}
theorem Zc9 {κ μ σ:Type} {ops:Array Oper} {o:Oper} {rest:List Oper} {R:List OB} {d l:Nat} {x callee:Operand} {ts:Array TypeId} {v:Value} {I':κ→List OB} {pv:μ→Value} {O3:μ→List OB} {O4:σ→List OB} (hr:n.r=none) (hg:o.guard=none) (hop:o.op= .call { callee:=.value callee,args:= #[x],argTypes:=ts }) (hd:o.dst=some d) (hN:d<N)
 (hc:∀ a w,St All (SO S (O++R)) w0 N env (XO J S w0.heap.size (O++R)) a w→a.eval callee= .func (.yield l) #[] #[]) (hv:∀ a w,St All (SO S (O++R)) w0 N env (XO J S w0.heap.size (O++R)) a w→a.eval x=v)
 (hY:∀(m:Nat) (R':List OB) (w1:World),Keeps All w0 w1→XO J S w0.heap.size (O++R') w1→YieldAt Fence.wide m P l #[v] w1 (rndE J S w0 I' pv O3 O4 R'))
 (pan:∀ q a w,St All (SO S (O3 q++R)) w0 N env (XO J S w0.heap.size (O3 q++R)) a w→Q (.panic (pch (pv q))) a w)
 (stop:∀ s a w,St All (SO S (O4 s++R)) w0 N ((d,.bool false)::YA d env) (XO J S w0.heap.size (O4 s++R)) a w→wpListIn n.F n.d P ops Q rest a w)
 (next:∀ k a w,St All (SO S (I' k++R)) w0 N ((d,.bool true)::YA d env) (XO J S w0.heap.size (I' k++R)) a w→wpListIn n.F n.d P ops Q rest a w):
 ∀ a w,St All (SO S (O++R)) w0 N env (XO J S w0.heap.size (O++R)) a w→wpListIn n.F n.d P ops Q (o::rest) a w:=fun a w h=>by
 obtain⟨nd,nr⟩:=n
 subst hr
 refine wpListIn_plain hg fun K' hK=>?_
 let B:AV→Value→Prop:=fun av v=>Rel (SO S (O++R)) w av v
 have hx2:=Ziw (B:=B) h.x fun _ _ h=>h
 obtain⟨fn,tmps,assign,body,hy,hR⟩:=hY (nd-1) (OB.was B::R) w h.keep hx2
 have hrun:(execOp a.eval o).run P w= .ok (.round l fn tmps assign body) w:=by
  simp only[execOp,hop,resolve,hc a w h,Deferred.ofValue,Sem.run_bind,Sem.run_pure,Result.andThen_ok,invoke]
  simp[hv a w h]
  exact hy
 refine⟨fun _ _=>trivial,?_⟩
 show o.uponIn _ nd P a K' Q ((o.semAt none a.eval).run P w)
 rw[Oper.semAt_none,hrun]
 refine⟨fun h=>by simp[Rn.F,Fence.wide]at h,RoundIn.mono hR fun e w' he=>?_⟩
 rcases he with⟨rfl,k,hk',hx'⟩ | ⟨rfl,s,hk',hx'⟩ | ⟨q,rfl,hk',hx'⟩
 · obtain⟨g1,g2⟩:=Za8 hx'
   rw[hd]
   exact hK _ _ (next k _ _ (h.step ⟨hk',g1,g2⟩ hN (Rel.of_lit _)))
 · obtain⟨g1,g2⟩:=Za8 hx'
   rw[hd]
   exact hK _ _ (stop s _ _ (h.step ⟨hk',g1,g2⟩ hN (Rel.of_lit _)))
 · obtain⟨g1,g2⟩:=Za8 hx'
   exact pan q _ _ (h.step0 ⟨hk',g1,g2⟩ undef)

def Code.wpAt (fid:FuncId) (P:Program) (c:Code) (Q:Exit→Act→World→Prop) (a:Act) (w:World):Prop:=
 ∀(b:Frame) (k:List Item) (cs:List Frame),b.roundOf=none→b.fn=fid→
  ∃ e a' w',Q e a' w'∧ArrivesIn (Machine.fenced P Fence.wide) P (lone (b.atR a (.code c::k)) cs w) b k cs e a' w'
variable {fid:FuncId} {a:Act} {w:World}
theorem XD (k:Nat):Fence.wide.room k:=fun _ hd=>by simp[Fence.wide]at hd
theorem at_of {m:Nat} {c:Code} (h:c.wpIn Fence.wide m P Q a w):Code.wpAt fid P c Q a w:=fun b k cs hr _=>h b k cs hr trivial (XD _)
theorem ZrX {x y:Code} (h:Code.wpAt fid P x (Exit.then (Code.wpAt fid P y Q) Q) a w):Code.wpAt fid P (.seq x y) Q a w:=by
 intro b k cs hro hb
 have h0:(lone (b.atR a (.code (.seq x y)::k)) cs w).fenced P Fence.wide:=fenced_calm (n:=0) trivial (XD _) rfl
 obtain⟨e,a₁,w₁,hq,harr⟩:=h b (.code y::k) cs hro hb
 cases e with
 | normal=>
  obtain⟨e₂,a₂,w₂,hq₂,harr₂⟩:=hq b k cs hro hb
  exact⟨e₂,a₂,w₂,hq₂,.of_steps (.head h0 stepR_seq harr) harr₂⟩
 | exit id=>exact⟨_,a₁,w₁,hq,.of_steps (.one h0 stepR_seq) (.pass (x:=.code y) rfl (fun _ _=>.inl (by simp)) harr)⟩
 | goto l=>exact⟨_,a₁,w₁,hq,.of_steps (.one h0 stepR_seq) (.pass (x:=.code y) rfl (fun _ _=>.inl (by simp)) harr)⟩
 | ret=>exact⟨_,a₁,w₁,hq,.of_steps (.one h0 stepR_seq) (.pass (x:=.code y) rfl (fun _ _=>.inl (by simp)) harr)⟩
 | panic ch=>exact⟨_,a₁,w₁,hq,.of_steps (.one h0 stepR_seq) (.pass (x:=.code y) rfl (fun _ _=>.inl (by simp)) harr)⟩
 | outgrown=>exact⟨_,a₁,w₁,hq,.of_steps (.one h0 stepR_seq) (.pass (x:=.code y) rfl (fun _ _=>.inl (by simp)) harr)⟩
theorem Za7 {f:FuncId} {fn:Func} {c:Code} {args:Array Value} {R:Ending→World→Prop} (hf:P.funcs[f]?=some fn) (hb:fn.body=some c)
 (h:Code.wpAt f P c (bodyPostM Fence.wide 5 P fn R) { tmps:=args++Array.replicate (fn.ntmps-args.size) undef,defers:=[] } w):Calls P f args w R:=by
 refine(callsIn_wide (n:=5)).1 ⟨trivial,fun cs hr=>?_⟩
 let b:Frame:= { (default:Frame)with fn:=f,kind:=.normal,roundOf:=none }
 have henter:Frame.enter P f args .normal=
  b.atR { tmps:=args++Array.replicate (fn.ntmps-args.size) undef,defers:=[] } [.code c]:=by
  simp[Frame.enter,Frame.atR,hf,hb,b]
 obtain⟨e,a',w',hq,harr⟩:=h b [] cs rfl rfl
 rw[←henter]at harr
 have hF:Fence.wide.fn f:=trivial
 cases e with
 | normal=>
  obtain⟨e',w'',fr',hR,hs,hfn,hl⟩:=leaves_stepsInM a'.defers .returning w' { b.atR a' []with mode:=.returning } cs rfl rfl rfl hf rfl hF hr hq
  exact⟨e',w'',fr',hR,ComesIn.of_steps (StepsIn.trans harr (.one (fenced_calm (fr:=b.atR a' []) hF hr rfl) (stepR_end rfl))) hs,hfn,hl⟩
 | ret=>
  obtain⟨todo,hs₀⟩:=harr.1 rfl
  obtain⟨e',w'',fr',hR,hs,hfn,hl⟩:=leaves_stepsInM a'.defers .returning w' { b.atR a' todo with mode:=.returning } cs rfl rfl rfl hf rfl hF hr hq
  exact⟨e',w'',fr',hR,ComesIn.of_steps hs₀ hs,hfn,hl⟩
 | panic chain=>
  obtain⟨todo,hs₀⟩:=harr
  obtain⟨e',w'',fr',hR,hs,hfn,hl⟩:=leaves_stepsInM a'.defers (.panicking chain) w' { b.atR a' todo with mode:=.panicking chain } cs rfl rfl rfl hf rfl hF hr hq
  exact⟨e',w'',fr',hR,ComesIn.of_steps hs₀ hs,hfn,hl⟩
 | exit id=>exact hq.elim
 | goto l=>exact hq.elim
 | outgrown=>exact⟨.outgrown,w',b,hq,harr.resolve_left (by simp[b]),rfl,trivial⟩
theorem Zs6 {fn:Func} {R:Ending→World→Prop} {v:Value} (hd:a.defers=[]) (hr:(results fn a.tmps).run P w= .ok v w) (h:R (.returned v) w):bodyPostM Fence.wide 5 P fn R .ret a w:=by
 show LeavesInM Fence.wide 5 P fn a.tmps R a.defers .returning w
 rw[hd];exact⟨v,hr,h⟩
theorem Zs7 {fn:Func} {R:Ending→World→Prop} {ch:List PanicEntry} (hd:a.defers=[]) (h:R (.panicked ch) w):bodyPostM Fence.wide 5 P fn R (.panic ch) a w:=by
 show LeavesInM Fence.wide 5 P fn a.tmps R a.defers (.panicking ch) w
 rw[hd];exact h
theorem ZpH {fn:Func} {R:Ending→World→Prop} {v:Value} {D:Nat} (hd:a.defers=[{ target:=.collected D,args:= #[] }]) (hD:w.heap[D]?=some (.deferred (some []))) (hr:(results fn a.tmps).run P (w.putObj D (.deferred none))= .ok v (w.putObj D (.deferred none))) (h:R (.returned v) (w.putObj D (.deferred none))):bodyPostM Fence.wide 5 P fn R .normal a w:=by
 show LeavesInM Fence.wide 5 P fn a.tmps R a.defers .returning w
 rw[hd];exact⟨by simp,.inl ⟨D,_,rfl,run_takeDeferred hD,⟨v,hr,h⟩⟩⟩
theorem ZpI {fn:Func} {R:Ending→World→Prop} {ch:List PanicEntry} {D:Nat} (hd:a.defers=[{ target:=.collected D,args:= #[] }]) (hD:w.heap[D]?=some (.deferred (some []))) (h:R (.panicked ch) (w.putObj D (.deferred none))):bodyPostM Fence.wide 5 P fn R (.panic ch) a w:=by
 show LeavesInM Fence.wide 5 P fn a.tmps R a.defers (.panicking ch) w
 rw[hd];exact⟨by simp,.inl ⟨D,_,rfl,run_takeDeferred hD,h⟩⟩
theorem Zhk {m:Nat} {g:Operand} {ps:Array Tmp} {assign body:Code}
 (h:∃(l:Nat) (mark:List Deferred) (w₁:World) (d:Deferred) (w₁':World) (f:FuncId) (args:Array Value) (w₂:World),
  (Instr.enterLoop fid a.tmps ps assign body none).run P w= .ok (l,mark) w₁∧
  (resolve a.eval (rangeCall g l) 0).run P w₁= .ok d w₁'∧
  (invoke d.target d.args).run P w₁'= .ok (.enter f args) w₂∧
  CallsIn Fence.wide m P f args w₂ (rangePost Fence.wide m P l Q { a with defers:=mark++a.defers })):
 Code.wpAt fid P (.rangeFunc g ps assign body) Q a w:=by
 intro b k cs hro hb
 obtain⟨l,mark,w₁,d,w₁',f,args,w₂,he,hres,hinv,hF,hcall⟩:=h
 subst hb
 rw[←hro]at he
 have h0:(lone (b.atR a (.code (.rangeFunc g ps assign body)::k)) cs w).fenced P Fence.wide:=
  fenced_lone (.inl trivial) (fun f' _=>trivial) (XD _)
 have henter:=stepR_rangeFunc (P:=P) (b:=b) (a:=a) (k:=k) (cs:=cs) (w:=w) he hres hinv
 obtain⟨e,w₃,fr,hR,hsteps,hfn,hleave⟩:=hcall (b.atR { a with defers:=mark++a.defers } (.inRangeFunc l::k)::cs) (XD _)
 cases e with
 | outgrown=>
  obtain⟨a₀,w₀,hq⟩:=hR
  exact⟨.outgrown,a₀,w₀,hq,.inr (Outgrown.of_steps (.one henter) hsteps)⟩
 | returned v=>
  have hl:(lone fr (b.atR { a with defers:=mark++a.defers } (.inRangeFunc l::k)::cs) w₃).fenced P Fence.wide:=fenced_leaving (n:=m) trivial (XD _) hleave
  obtain⟨jump,w₄,hend,hj⟩:=hR
  have sback:StepsIn (Machine.fenced P Fence.wide) P (lone (b.atR a (.code (.rangeFunc g ps assign body)::k)) cs w) (lone (b.atR { a with defers:=mark++a.defers } ((jump.map Item.code).toList++k)) cs w₄):=by
   refine .head h0 henter (StepsIn.trans hsteps (.head hl ?_ (.one (fenced_calm (n:=m) (fr:=b.atR { a with defers:=mark++a.defers } (.endRangeFunc l::k)) trivial (XD _) rfl) (stepR_endRangeFunc hend))))
   rw[←finish_atR_inRangeFunc l v];exact step_leave_returned hleave
  cases jump with
  | none=>exact⟨.normal,_,w₄,hj,sback⟩
  | some c=>
   obtain⟨e',a'',w₅,hq,harr⟩:=hj b k cs hro trivial (XD _)
   exact⟨e',a'',w₅,hq,.of_steps sback harr⟩
 | panicked chain=>
  have hl:(lone fr (b.atR { a with defers:=mark++a.defers } (.inRangeFunc l::k)::cs) w₃).fenced P Fence.wide:=fenced_leaving (n:=m) trivial (XD _) hleave
  refine⟨.panic chain,_,w₃,hR,.inRangeFunc l::k,.head h0 henter (StepsIn.trans hsteps (.one hl ?_))⟩
  rw[←Frame.raise_atR];exact step_leave_panicked hleave
theorem pm_out {A R:List OB} {b c:OB}:((A++[b,c])++R).Perm (c::(A++b::R)):=by
 have:=List.perm_middle (l₁:=A++[b]) (l₂:=R) (a:=c)
 simpa using this
theorem pm_in {A R:List OB} {c:OB}:(c::(A++R)).Perm (A++c::R):=List.perm_middle.symm
theorem ZdQ {lo l:Nat} {o:Obj} (h:XO J S lo O w) (ho:OB.obj l o∈O):l<w.heap.size∧w.heap[l]?=some o:=by
 obtain⟨_,h2,h3⟩:=h.2.1 _ ho
 exact⟨h2,h3⟩
theorem Zq1 {lo:Nat} {B:AV→Value→Prop} (h:XO J S lo O w) (ho:OB.was B∈O):∀ av v,B av v→Rel (SO S O) w av v:=h.2.1 _ ho
def phi (ds:List Deferred) (a:Act):Act:= { a with defers:=a.defers++ds }
abbrev mkD (D:Nat):List Deferred:=[{ target:=.collected D,args:= #[] }]
abbrev OB.dfr (D:Nat):OB:=OB.obj D (.deferred (some []))
def OB.fct (p:Prop):OB where
 blk:=fun _=>False
 inv:=fun _ _ _=>p
 mv:=fun h _ _ _=>h
 lt:=fun _ _ h=>h.elim
theorem Zl9 {α κ μ σ:Type} {m:Nat} {g:Operand} {p:Tmp} {assign body:Code} {gf:FuncId} {avc:List AV} {enc:α→Value} {xs:List α} {fl:Option Value} {Hs R:List OB} (hseq:SeqE P J gf Hs avc enc xs fl) (eg:Zl P gf)
 (hJ:Stab J) (hS:∀ b,w0.heap.size≤b→S b) (hJ0:J w0) (hH:Has Hs S w0) (I:List α→κ→List OB) (pv:μ→Value) (O3:μ→List OB) (O4:σ→List OB) (k0:κ) (av:α→AV) (env':α→List (Nat×AV)) (hp:p<N) {fnn:Func} (hfid:P.funcs[fid]?=some fnn)
 (hav:∀(T:Nat→Prop) (w:World) (x:α),x∈xs→Rel T w (av x) (enc x))
 (hg:∀ a w,St All (SO S (I [] k0++R)) w0 N env (XO J S w0.heap.size (I [] k0++R)) a w→∃ cap:List Value,a.eval g= .func (.func gf) #[] cap.toArray∧RelL (SO S (I [] k0++R)) w avc cap)
 (hassign:∀(m l:Nat) (R':List OB) (pre:List α) (x:α) (k:κ) (K:Act→World→Prop),(∀ a w,St All (SO S (I pre k++R')) w0 N (env' x) (XO J S w0.heap.size (I pre k++R')) a w→K a w)→
  Tr ⟨m,some l⟩ P (St All (SO S (I pre k++R')) w0 N ((p,av x)::YA p env) (XO J S w0.heap.size (I pre k++R'))) assign (Exit.then K (fun _ _ _=>False)))
 (hbody:∀(m l:Nat) (R':List OB) (pre:List α) (x:α) (k:κ),(pre++[x])<+:xs→Tr ⟨m,some l⟩ P (St All (SO S (I pre k++R')) w0 N (env' x) (XO J S w0.heap.size (I pre k++R'))) body (rndQ J S w0 (I (pre++[x])) pv O3 O4 R'))
 (hdone:fl=none→∀ k D a w,St All (SO S (OB.dfr D::(I xs k++R))) w0 N env (XO J S w0.heap.size (OB.dfr D::(I xs k++R))) a w→Q .normal (phi (mkD D) a) w)
 (hstop:∀ s D a w,St All (SO S (OB.dfr D::(O4 s++R))) w0 N env (XO J S w0.heap.size (OB.dfr D::(O4 s++R))) a w→Q .ret (phi (mkD D) a) w)
 (hpan:∀ v,fl=some v→∀ k D a w,St All (SO S (OB.dfr D::(I xs k++R))) w0 N env (XO J S w0.heap.size (OB.dfr D::(I xs k++R))) a w→Q (.panic (pch v)) (phi (mkD D) a) w)
 (hpq:∀ q D a w,St All (SO S (OB.dfr D::(O3 q++R))) w0 N env (XO J S w0.heap.size (OB.dfr D::(O3 q++R))) a w→Q (.panic (pch (pv q))) (phi (mkD D) a) w):
 ∀(a:Act) (w:World),St All (SO S (I [] k0++R)) w0 N env (XO J S w0.heap.size (I [] k0++R)) a w→Code.wpAt fid P (.rangeFunc g #[p] assign body) Q a w:=fun a w h=>by
 obtain⟨cap,hgv,hcap⟩:=hg a w h
 obtain⟨rec,hrec⟩:∃ rec:LoopState→Option Code→Obj,rec=fun st pe=>.loop { state:=st,pending:=pe,fn:=fid,tmps:=a.tmps,params:= #[p],assign,body,defers:=w.heap.size }:=⟨_,rfl⟩
 obtain⟨B,hB⟩:∃ B:AV→Value→Prop,∀ av v,B av v↔Rel (SO S (I [] k0++R)) w av v:=⟨_,fun _ _=>.rfl⟩
 have hx1:=Ziw (B:=B) h.x fun _ _ h=>(hB _ _).1 h
 have hka:Keeps All w (w.alloc (.deferred (some []))):=(Keeps.refl _ _).alloc _
 have hD:(w.alloc (.deferred (some []))).heap[w.heap.size]?=some (.deferred (some [])):=World.alloc_heap_new w _
 obtain⟨hx2,_⟩:=Zdr (o:=OB.obj w.heap.size (.deferred (some []))) hJ hx1 hka (fun k hk=>Nat.le_of_eq hk.symm) ⟨h.keep.size,by simp,hD⟩
 have hkb:Keeps All (w.alloc (.deferred (some []))) ((w.alloc (.deferred (some []))).alloc (rec .ready none)):=(Keeps.refl _ _).alloc _
 have hL:=World.alloc_heap_new (w.alloc (.deferred (some []))) (rec .ready none)
 rw[World.size_alloc]at hL
 obtain⟨hx3,_⟩:=Zdr (o:=OB.obj (w.heap.size+1) (rec .ready none)) hJ hx2 hkb (fun k hk=>by rw[World.size_alloc];exact Nat.le_of_eq hk.symm) ⟨by have:=h.keep.size;omega,by simp,hL⟩
 obtain⟨W1,hW1⟩:∃ W1,(w.alloc (.deferred (some []))).alloc (rec .ready none)=W1:=⟨_,rfl⟩
 rw[hW1]at hx3 hkb
 have hkw:Keeps All w W1:=hka.trans hkb
 let I':List α→κ→List OB:=fun pre k=>I pre k++[OB.was B,OB.obj (w.heap.size+1) (rec .ready none)]
 let O4':σ→List OB:=fun s=>O4 s++[OB.was B,OB.obj (w.heap.size+1) (rec .done (some .ret))]
 let O3':μ→List OB:=fun q=>O3 q++[OB.was B,OB.obj (w.heap.size+1) (rec .busy none)]
 have hx4:XO J S w0.heap.size (I' [] k0++OB.obj w.heap.size (.deferred (some []))::R) W1:=by
  refine Yt ?_ hx3
  refine List.Perm.trans (List.Perm.cons _ ?_) pm_out.symm
  have:=List.perm_middle (l₁:=I [] k0++[OB.was B]) (l₂:=R) (a:=OB.obj w.heap.size (.deferred (some [])))
  simpa using this.symm
 have hsub:∀ k,k<w.heap.size→SO S (I [] k0++R) k→All k∧SO S (I' [] k0++OB.obj w.heap.size (.deferred (some []))::R) k:=fun k hlt hs=>⟨trivial,hs.1,fun p hp=>by
  simp only[I',List.mem_append,List.mem_cons,List.not_mem_nil,or_false]at hp
  rcases hp with(hp | rfl | rfl) | rfl | hp
  · exact hs.2 p (by simp[hp])
  · exact fun e=>e
  · exact fun e=>by change k=_ at e;omega
  · exact fun e=>by change k=_ at e;omega
  · exact hs.2 p (by simp[hp])⟩
 refine Zhk (m:=m) ⟨w.heap.size+1,[{ target:=.collected w.heap.size,args:= #[] }],W1, { target:=.fn (.func gf) cap.toArray,args:= #[.func (.yield (w.heap.size+1)) #[] #[]] },W1,gf,
  #[.func (.yield (w.heap.size+1)) #[] #[]]++cap.toArray,W1,?_,?_,?_,?_⟩
 · rw[←hW1,hrec];exact run_enterLoop_outer _ _ _ _ _
 · simp only[resolve,hgv]
   simp[go_sem]
 · have:=eg (#[.func (.yield (w.heap.size+1)) #[] #[]]++cap.toArray) W1
   simpa [invoke,go_sem]using this
 have hmarks:∀(b:Act),b.defers=[]→({ b with defers:=[{ target:=.collected w.heap.size,args:= #[] }]++b.defers }:Act)= { b with defers:=[{ target:=.collected w.heap.size,args:= #[] }] }:=fun b hb=>by rw[hb];rfl
 have hend:∀(A:List OB) (st:LoopState) (pe:Option Code) (w2:World),Keeps All w0 w2→XO J S w0.heap.size (OB.obj (w.heap.size+1) (rec st pe)::(A++OB.was B::OB.obj w.heap.size (.deferred (some []))::R)) w2→
  St All (SO S (OB.obj w.heap.size (.deferred (some []))::(A++R))) w0 N env (XO J S w0.heap.size (OB.obj w.heap.size (.deferred (some []))::(A++R))) a w2:=fun A st pe w2 hk hx=>by
  have hx':=Yt (O':=OB.was B::(OB.obj w.heap.size (.deferred (some []))::(A++R))) (List.Perm.trans List.perm_middle (List.Perm.cons _ List.perm_middle)) (Zlj hx)
  refine⟨h.defs,h.size,hk,Zlj hx',fun p hp=>⟨(h.env p hp).1,?_⟩⟩
  exact(Zq1 hx' (by simp) p.2 _ ((hB _ _).2 (h.env p hp).2)).sub fun k _ hs=>hs.drop
 refine(hseq S w0 _ W1 (w.heap.size+1) m cap κ μ σ I' pv O3' O4' k0 hS hJ0 hH (h.keep.trans hkw) hx4 (RelL.move hkw hsub hcap) ?_).mono ?_
 · intro m' R' pre x k w1 hpre hk1 hxr
   have hob:=Yt pm_out hxr
   obtain⟨hlt,hl⟩:=ZdQ (l:=w.heap.size+1) (o:=rec .ready none) hob (by simp)
   rw[hrec]at hl
   have hy:=run_yield (P:=P) (args:= #[enc x]) hl (by simp)
   have hx1':=Yt pm_in hob
   have hrow:(St All (SO S (I pre k++OB.obj (w.heap.size+1) (rec .ready none)::OB.was B::R')) w0 N ((p,av x)::YA p env) (XO J S w0.heap.size (I pre k++OB.obj (w.heap.size+1) (rec .ready none)::OB.was B::R'))) { tmps:=a.tmps.setIfInBounds p (enc x),defers:=[] } w1:=by
    refine⟨rfl,by simpa using h.size,hk1,hx1',fun q hq=>?_⟩
    rcases List.mem_cons.1 hq with rfl | hq
    · refine⟨hp,?_⟩
      have e:(a.tmps.setIfInBounds p (enc x)).getD p undef=enc x:=by rw[Array.getD_eq_getD_getElem?,Array.getElem?_setIfInBounds];simp[h.size,hp]
      rw[e];exact hav _ _ x (by obtain⟨r,hr⟩:=hpre;rw[←hr];simp)
    · obtain⟨hq1,hq2⟩:=List.mem_filter.1 hq
      have hne:¬ p=q.1:=fun e=>by simp[e]at hq2
      have e:(a.tmps.setIfInBounds p (enc x)).getD q.1 undef=a.tmps.getD q.1 undef:=by rw[Array.getD_eq_getD_getElem?,Array.getD_eq_getD_getElem?,Array.getElem?_setIfInBounds,if_neg hne]
      refine⟨(h.env q hq1).1,?_⟩
      rw[e]
      exact Zq1 hx1' (by simp) q.2 _ ((hB _ _).2 (h.env q hq1).2)
   have hrest:∀ a1 wa,St All (SO S (I pre k++OB.obj (w.heap.size+1) (rec .ready none)::OB.was B::R')) w0 N (env' x) (XO J S w0.heap.size (I pre k++OB.obj (w.heap.size+1) (rec .ready none)::OB.was B::R')) a1 wa→
    ∃ w₂,(Instr.beginRound (w.heap.size+1)).run P wa= .ok () w₂∧body.wpIn (Fence.wide.inRound (w.heap.size+1)) m' P (ZeN P (w.heap.size+1) (rndE J S w0 (I' (pre++[x])) pv O3' O4' R')) a1 w₂:=by
    intro a1 wa ha1
    have hoba:=Yt pm_in.symm ha1.x
    obtain⟨hlta,hla⟩:=ZdQ (l:=w.heap.size+1) (o:=rec .ready none) hoba (by simp)
    have hbegin:(Instr.beginRound (w.heap.size+1)).run P wa= .ok () (wa.putObj (w.heap.size+1) (rec .busy none)):=by rw[hrec]at hla ⊢;exact run_beginRound hla rfl
    refine⟨_,hbegin,?_⟩
    obtain⟨hk2,hx2,hm2⟩:=Qa (rec .busy none) hJ hJ0 ha1.keep hoba
    have hx2':=Yt pm_in hx2
    have hsp:∀(o:OB) (k':Nat),SO S (I pre k++o::OB.was B::R') k'→SO S (o::(I pre k++OB.was B::R')) k':=fun o k' hs=>hs.perm pm_in.symm
    refine wpIn_mono (hbody m' (w.heap.size+1) _ pre x k hpre _ _ ⟨ha1.defs,ha1.size,hk2,hx2',fun q hq=>⟨(ha1.env q hq).1,(hm2 _ _ ((ha1.env q hq).2.sub fun k' _ hs=>hsp _ k' hs)).sub fun k' _ hs=>hs.perm pm_in⟩⟩) ?_
    intro e a3 w3 he
    cases e with
    | normal=>
     obtain⟨k',hk3,hx3⟩:=he
     have hx3':=Yt pm_in.symm hx3
     obtain⟨hlt3,hl3⟩:=ZdQ (l:=w.heap.size+1) (o:=rec .busy none) hx3' (by simp)
     obtain⟨hk4,hx4,_⟩:=Qa (rec .ready none) hJ hJ0 hk3 hx3'
     have hend':(Instr.endRound (w.heap.size+1) none).run P w3= .ok (.bool true) (w3.putObj (w.heap.size+1) (rec .ready none)):=by rw[hrec]at hl3 ⊢;exact run_endRound none hl3
     exact⟨_,_,hend',.inl ⟨rfl,k',hk4,Yt pm_out.symm hx4⟩⟩
    | panic ch=>
     obtain⟨q,rfl,hd,hk3,hx3⟩:=he
     refine⟨hd,.inr (.inr ⟨q,rfl,hk3,?_⟩)⟩
     exact Yt (pm_in.symm.trans pm_out.symm) hx3
    | ret=>
     obtain⟨s,hk3,hx3⟩:=he
     have hx3':=Yt pm_in.symm hx3
     obtain⟨hlt3,hl3⟩:=ZdQ (l:=w.heap.size+1) (o:=rec .busy none) hx3' (by simp)
     obtain⟨hk4,hx4,_⟩:=Qa (rec .done (some .ret)) hJ hJ0 hk3 hx3'
     have hend':(Instr.endRound (w.heap.size+1) (some .ret)).run P w3= .ok (.bool false) (w3.putObj (w.heap.size+1) (rec .done (some .ret))):=by rw[hrec]at hl3 ⊢;exact run_endRound (some .ret) hl3
     exact⟨_,_,hend',.inr (.inl ⟨rfl,s,hk4,Yt pm_out.symm hx4⟩)⟩
    | exit id=>exact he.elim
    | goto t=>exact he.elim
    | outgrown=>exact he.elim
   refine⟨fid,_,assign,body,hy,Zc1 trivial ⟨fnn,hfid⟩ (by
    have hT:∀(T:Array Value),Array.foldl (fun(t:Array Value) (q:Tmp×Value)=>match q with | (t',v)=>t.setIfInBounds t' v) T (#[p].zip #[enc x])=T.setIfInBounds p (enc x):=fun T=>by simp
    refine Eq.mpr (congrArg (fun T=>Code.wpIn _ _ P assign _ ({ tmps:=T,defers:=[] }:Act) w1) (hT a.tmps)) (hassign m' (w.heap.size+1) _ pre x k _ ?_ _ _ hrow)
    exact hrest)⟩
 · intro e w2 he
   rcases he with⟨hf,v,k,rfl,hk2,hx2⟩ | ⟨v,k,hf,rfl,hk2,hx2⟩ | ⟨v,s,rfl,hk2,hx2⟩ | ⟨q,rfl,hk2,hx2⟩
   · have hob:=Yt pm_out hx2
     obtain⟨hlt,hl⟩:=ZdQ (l:=w.heap.size+1) (o:=rec .ready none) hob (by simp)
     obtain⟨hk3,hx3,_⟩:=Qa (rec .exhausted none) hJ hJ0 hk2 hob
     have hendL:(Instr.endLoop (w.heap.size+1)).run P w2= .ok none (w2.putObj (w.heap.size+1) (rec .exhausted none)):=by rw[hrec]at hl ⊢;exact run_endLoop hl (by simp)
     refine⟨none,_,hendL,?_⟩
     have:=hdone hf k w.heap.size _ _ (hend _ _ _ _ hk3 hx3)
     unfold phi at this
     rw[h.defs]at this
     show Q .normal { a with defers:=_++a.defers } _
     rw[h.defs];exact this
   · have:=hpan v hf k w.heap.size _ _ (hend _ _ _ _ hk2 (Yt pm_out hx2))
     unfold phi at this
     rw[h.defs]at this
     show Q (.panic (pch v)) { a with defers:=_++a.defers } _
     rw[h.defs];exact this
   · have hob:=Yt pm_out hx2
     obtain⟨hlt,hl⟩:=ZdQ (l:=w.heap.size+1) (o:=rec .done (some .ret)) hob (by simp)
     obtain⟨hk3,hx3,_⟩:=Qa (rec .exhausted (some .ret)) hJ hJ0 hk2 hob
     have hendL:(Instr.endLoop (w.heap.size+1)).run P w2= .ok (some .ret) (w2.putObj (w.heap.size+1) (rec .exhausted (some .ret))):=by rw[hrec]at hl ⊢;exact run_endLoop hl (by simp)
     refine⟨some .ret,_,hendL,?_⟩
     have:=hstop s w.heap.size _ _ (hend _ _ _ _ hk3 hx3)
     refine wpIn_ret ?_
     unfold phi at this
     rw[h.defs]at this
     show Q .ret { a with defers:=_++a.defers } _
     rw[h.defs];exact this
   · have:=hpq q w.heap.size _ _ (hend _ _ _ _ hk2 (Yt pm_out hx2))
     unfold phi at this
     rw[h.defs]at this
     show Q (.panic (pch (pv q))) { a with defers:=_++a.defers } _
     rw[h.defs];exact this
end
section
variable {P:Program} {fid:FuncId} {Q:Exit→Act→World→Prop} {a:Act} {w:World} {A:Act→World→Prop}
theorem ZqR {id:Nat} {c:Code} (h:Code.wpAt fid P c (Exit.inBlock id Q) a w):Code.wpAt fid P (.block id c) Q a w:=by
 intro b k cs hro hb
 have h0:(lone (b.atR a (.code (.block id c)::k)) cs w).fenced P Fence.wide:=fenced_calm (n:=0) trivial (XD _) rfl
 obtain⟨e,a₁,w₁,hq,harr⟩:=h b (.inBlock id::k) cs hro hb
 cases e with
 | normal=>exact⟨.normal,a₁,w₁,hq,.head h0 stepR_block (StepsIn.trans harr (.one (fenced_calm (n:=0) trivial (XD _) rfl) stepR_inBlock))⟩
 | exit id'=>
  by_cases hid:id'=id
  · simp only[Exit.inBlock,hid,if_true]at hq
    exact⟨.normal,a₁,w₁,hq,.head h0 stepR_block (harr.1 k (by simp[exitTo,hid]))⟩
  · simp only[Exit.inBlock,hid,if_false]at hq
    have this:(id==id')=false:=by simp;exact fun h=>hid h.symm
    have hx:exitTo id' (.inBlock id::k)=exitTo id' k:=by simp[exitTo,this]
    exact⟨.exit id',a₁,w₁,hq,fun k' hk=>.head h0 stepR_block (harr.1 k' (by rw[hx];exact hk)),
     fun hr' hk=>let⟨k₁,h1,h2⟩:=harr.2 hr' (by rw[hx];exact hk);⟨k₁,h1,.head h0 stepR_block h2⟩⟩
 | goto l=>
  have hx:gotoIn l (.inBlock id::k)=gotoIn l k:=by simp[gotoIn]
  exact⟨_,a₁,w₁,hq,fun k' hk=>.head h0 stepR_block (harr.1 k' (by rw[hx];exact hk)),
   fun hr' hk=>let⟨k₁,h1,h2⟩:=harr.2 hr' (by rw[hx];exact hk);⟨k₁,h1,.head h0 stepR_block h2⟩⟩
 | ret=>exact⟨_,a₁,w₁,hq,.of_steps (.one h0 stepR_block) harr⟩
 | panic ch=>exact⟨_,a₁,w₁,hq,.of_steps (.one h0 stepR_block) harr⟩
 | outgrown=>exact⟨_,a₁,w₁,hq,.of_steps (.one h0 stepR_block) harr⟩
def TrA (fid:FuncId) (P:Program) (A:Act→World→Prop) (c:Code) (Q:Exit→Act→World→Prop):Prop:=∀ a w,A a w→Code.wpAt fid P c Q a w
theorem ZbD {m:Nat} {x y:Code} (h:Tr (⟨m,none⟩:Rn) P A x (Exit.then (fun a w=>Code.wpAt fid P y Q a w) Q)):TrA fid P A (.seq x y) Q:=fun a w ha=>ZrX (at_of (h a w ha))
theorem nxA {y:Code} {Q':Exit→Act→World→Prop} (h:TrA fid P A y Q):∀ a w,A a w→Exit.then (fun a w=>Code.wpAt fid P y Q a w) Q' .normal a w:=h
theorem ZbJ (ds:List Deferred) (a:Act) (d:Option Nat) (v:Value):(phi ds a).put d v=phi ds (a.put d v):=by cases d<;>rfl
theorem Zka {F:Fence} {n:Nat} {o:Oper} {ds:List Deferred} {next next':Act→World→Prop} {r:Result Next} (hn:∀ b w,next' b w→next (phi ds b) w) (h:o.uponIn F n P a next' (fun e b w=>Q e (phi ds b) w) r):o.uponIn F n P (phi ds a) next Q r:=by
 have hl:LetsOut (fun e b w=>Q e (phi ds b) w)→LetsOut Q:=fun⟨b,w,hb⟩=>⟨phi ds b,w,hb⟩
 cases r with
 | halt s w'=>
  cases s<;>exact h
 | ok x w'=>
  cases x with
  | value v=>rw[Oper.uponIn_value]at h ⊢;rw[ZbJ];exact hn _ _ h
  | skip=>rw[Oper.uponIn_skip]at h ⊢;rw[ZbJ];exact hn _ _ h
  | defer d=>rw[Oper.uponIn_defer]at h ⊢;exact(ZbJ ds { a with defers:=d::a.defers } o.dst undef)▸hn _ _ h
  | enter f args=>
   rw[Oper.uponIn_enter]at h ⊢
   refine⟨h.1,h.2.mono fun e w'' he=>?_⟩
   cases e with
   | returned v=>simp only at he ⊢;rw[ZbJ];exact hn _ _ he
   | panicked ch=>exact he
   | outgrown=>exact hl he
  | row row args=>
   rw[Oper.uponIn_row]at h ⊢
   refine⟨h.1,h.2.mono fun v w'' he=>?_⟩
   rw[ZbJ];exact hn _ _ he
  | round l f tmps assign body=>
   rw[Oper.uponIn_round]at h ⊢
   refine⟨h.1,h.2.mono fun e w'' he=>?_⟩
   cases e with
   | returned v=>simp only at he ⊢;rw[ZbJ];exact hn _ _ he
   | panicked ch=>exact he
   | outgrown=>exact hl he
  | _=>exact h
theorem ZaN {F:Fence} {n:Nat} {ops:Array Oper} {ds:List Deferred}:∀ {l:List Oper} {a:Act} {w:World},wpListIn F n P ops (fun e b w=>Q e (phi ds b) w) l a w→wpListIn F n P ops Q l (phi ds a) w
 | [],_,_,h=>h
 | o::rest,a,w,h=>by
  have hy:yielded ops (phi ds a).tmps=yielded ops a.tmps:=rfl
  unfold wpListIn at h ⊢
  rw[hy]
  split
  · rename_i hw
    rw[if_pos hw]at h
    exact⟨h.1,Zka (fun b w hb=>ZaN hb) h.2⟩
  · rename_i hw
    rw[if_neg hw]at h
    exact⟨h.1,by rw[ZbJ];exact ZaN h.2⟩
theorem Zks {F:Fence} {n:Nat} {id:Nat} {l:List Oper} {ds:List Deferred} (h:wpListIn F n P l.toArray (fun e b w=>Q e (phi ds b) w) l a w):(Code.region id l.toArray false).wpIn F n P Q (phi ds a) w:=wpIn_region_lit (ZaN h)
def TrD (n:Rn) (ds:List Deferred) (P:Program) (A:Act→World→Prop) (c:Code) (Q:Exit→Act→World→Prop):Prop:=∀ a w,A a w→c.wpIn n.F n.d P Q (phi ds a) w
variable {n:Rn} {ds:List Deferred}
theorem ZrM {x y:Code} (h:TrD n ds P A x (Exit.then (fun a w=>y.wpIn n.F n.d P Q a w) Q)):TrD n ds P A (.seq x y) Q:=fun a w ha=>wpIn_seq (h a w ha)
theorem nxD {y:Code} (h:TrD n ds P A y Q):∀ a w,A a w→y.wpIn n.F n.d P Q (phi ds a) w:=h
theorem ZnE {id:Nat} {l:List Oper} (h:∀ a w,A a w→wpListIn n.F n.d P l.toArray (fun e b w=>Q e (phi ds b) w) l a w):TrD n ds P A (.region id l.toArray false) Q:=fun a w ha=>Zks (h a w ha)
theorem d_skip (h:∀ a w,A a w→Q .normal (phi ds a) w):TrD n ds P A .skip Q:=fun a w ha=>wpIn_skip (h a w ha)
theorem d_ret (h:∀ a w,A a w→Q .ret (phi ds a) w):TrD n ds P A .ret Q:=fun a w ha=>wpIn_ret (h a w ha)
theorem dtw {B:Act→World→Prop} {c:Code} (hAB:∀ {a:Act} {w:World},A a w→B a w) (h:TrD n ds P B c Q):TrD n ds P A c Q:=fun a w ha=>h a w (hAB ha)
theorem d_cj {K S:Nat→Prop} {w0:World} {N:Nat} {env:List (Nat×AV)} {X:World→Prop} {y z:Code} {d:Operand} {s:Nat} (m:Nat) {g:Bool} (ht:g=true→TrD n ds P (St K S w0 N env X) y Q) (hf:g=false→TrD n ds P (St K S w0 N env X) z Q) (he:env[m]?=some (s,.bool g):=by exact rfl) (hc:d= .tmp s:=by exact rfl):TrD n ds P (St K S w0 N env X) (.cond d y z) Q:=fun a w ha=>
 wpIn_cond_split (t:=g) (by rw[hc];exact(ha.get m he).lit) (fun h=>ht h a w ha) fun h=>hf h a w ha
theorem Zoi {id:Nat} {c:Code} (h:TrA fid P A c (Exit.inBlock id Q)):TrA fid P A (.block id c) Q:=fun a w ha=>ZqR (h a w ha)
theorem a_seq {x y:Code} (h:TrA fid P A x (Exit.then (fun a w=>Code.wpAt fid P y Q a w) Q)):TrA fid P A (.seq x y) Q:=fun a w ha=>ZrX (h a w ha)
theorem atw {B:Act→World→Prop} {c:Code} (hAB:∀ {a:Act} {w:World},A a w→B a w) (h:TrA fid P B c Q):TrA fid P A c Q:=fun a w ha=>h a w (hAB ha)
theorem lnA {α:Type} {f:α→List CD} {xs:List α} {K S:Nat→Prop} {w0:World} {N:Nat} {env:List (Nat×AV)} {X:World→Prop} {c:Code} {s:Nat} (m:Nat) (h:xs.length≤9223372036854775807→TrA fid P (St K S w0 N env X) c Q) (he:env[m]?=some (s,.rd (.sl (xs.map f))):=by exact rfl):TrA fid P (St K S w0 N env X) c Q:=fun a w ha=>h (ZrD ha m he) a w ha
theorem nxAD {m:Nat} {y:Code} (h:TrD (⟨m,none⟩:Rn) ds P A y Q):∀ a w,A a w→Code.wpAt fid P y Q (phi ds a) w:=fun a w ha=>at_of (h a w ha)
end
section
variable {N:Nat} {P:Program} {J:World→Prop} {S:Nat→Prop} {O:List OB} {w0:World} {env:List (Nat×AV)} {fn:Func} {R:Ending→World→Prop} {a:Act} {w:World} {D:Nat} {ch:List PanicEntry}
theorem outA (h:bodyPost P fn R .ret a w):bodyPostM Fence.wide 5 P fn R .ret a w:=by
 obtain⟨hd,v,hr,h⟩:=h
 exact Zs6 hd hr h
theorem outAp (h:a.defers=[]∧R (.panicked ch) w):bodyPostM Fence.wide 5 P fn R (.panic ch) a w:=Zs7 h.1 h.2
theorem outAk {A:Act→World→Prop} (h:∀ a w,A a w→bodyPost P fn R .ret a w):∀ a w,A a w→bodyPostM Fence.wide 5 P fn R .ret a w:=fun a w ha=>outA (h a w ha)
theorem ZmL {A:Act→World→Prop} (h:∀ a w,A a w→a.defers=[]∧R (.panicked ch) w):∀ a w,A a w→bodyPostM Fence.wide 5 P fn R (.panic ch) a w:=fun a w ha=>outAp (h a w ha)
theorem ZlK (hJ:Stab J) (hJ0:J w0) (h:St All (SO S (OB.dfr D::O)) w0 N env (XO J S w0.heap.size (OB.dfr D::O)) a w):w.heap[D]?=some (.deferred (some []))∧St All (SO S O) w0 N env (XO J S w0.heap.size O) a (w.putObj D (.deferred none)):=by
 refine⟨(ZdQ (l:=D) h.x (by simp)).2,Zy (h.step0 (Qa (.deferred none) hJ hJ0 h.keep h.x) undef)⟩
theorem outD (hJ:Stab J) (hJ0:J w0) (h:∀ a w,St All (SO S O) w0 N env (XO J S w0.heap.size O) a w→bodyPost P fn R .ret a w):∀ a w,St All (SO S (OB.dfr D::O)) w0 N env (XO J S w0.heap.size (OB.dfr D::O)) a w→bodyPostM Fence.wide 5 P fn R .ret (phi (mkD D) a) w:=fun a w ha=>by
 obtain⟨h1,h2⟩:=ZlK hJ hJ0 ha
 obtain⟨hd,v,hr,hR⟩:=h a _ h2
 exact ZpH (a:=phi (mkD D) a) (by simp[phi,hd]) h1 hr hR
theorem outDn (hJ:Stab J) (hJ0:J w0) (h:∀ a w,St All (SO S O) w0 N env (XO J S w0.heap.size O) a w→bodyPost P fn R .ret a w):∀ a w,St All (SO S (OB.dfr D::O)) w0 N env (XO J S w0.heap.size (OB.dfr D::O)) a w→bodyPostM Fence.wide 5 P fn R .normal (phi (mkD D) a) w:=outD hJ hJ0 h
theorem Zs8 (hJ:Stab J) (hJ0:J w0) (h:∀ a w,St All (SO S O) w0 N env (XO J S w0.heap.size O) a w→a.defers=[]∧R (.panicked ch) w):∀ a w,St All (SO S (OB.dfr D::O)) w0 N env (XO J S w0.heap.size (OB.dfr D::O)) a w→bodyPostM Fence.wide 5 P fn R (.panic ch) (phi (mkD D) a) w:=fun a w ha=>by
 obtain⟨h1,h2⟩:=ZlK hJ hJ0 ha
 obtain⟨hd,hR⟩:=h a _ h2
 exact ZpI (a:=phi (mkD D) a) (by simp[phi,hd]) h1 hR
theorem Xo {p:Prop} (hp:p) (h:St All (SO S O) w0 N env (XO J S w0.heap.size O) a w):St All (SO S (OB.fct p::O)) w0 N env (XO J S w0.heap.size (OB.fct p::O)) a w:=by
 have hs:∀ k,SO S O k→SO S (OB.fct p::O) k:=fun k hk=>⟨hk.1,fun q hq=>by
  rcases List.mem_cons.1 hq with rfl | hq
  · exact fun e=>e
  · exact hk.2 q hq⟩
 refine⟨h.defs,h.size,h.keep,⟨h.x.1,fun q hq=>?_,.cons (fun _ _ _ e=>e.elim) h.x.2.2⟩,fun q hq=>⟨(h.env q hq).1,(h.env q hq).2.sub fun k _=>hs k⟩⟩
 rcases List.mem_cons.1 hq with rfl | hq
 · exact hp
 · exact OB.sub (h.x.2.1 q hq) fun k _=>hs k
theorem Zq7 {p:Prop} {n:Rn} {c:Code} {Q:Exit→Act→World→Prop} (h:p→Tr n P (St All (SO S O) w0 N env (XO J S w0.heap.size O)) c Q):Tr n P (St All (SO S (OB.fct p::O)) w0 N env (XO J S w0.heap.size (OB.fct p::O))) c Q:=fun a w ha=>h (ha.x.2.1 (OB.fct p) (by simp)) a w (Zy ha)
theorem ZlM {p:Prop} {R:Act→World→Prop} (h:p→∀ a w,St All (SO S O) w0 N env (XO J S w0.heap.size O) a w→R a w):∀ a w,St All (SO S (OB.fct p::O)) w0 N env (XO J S w0.heap.size (OB.fct p::O)) a w→R a w:=fun a w ha=>h (ha.x.2.1 (OB.fct p) (by simp)) a w (Zy ha)
theorem Zl3 {T:Nat→Prop} {f:FuncId} {l:List AV} {v:Value} (h:Rel T w (.fn f l) v):∃ cap:List Value,v= .func (.func f) #[] cap.toArray∧RelL T w l cap:=by simpa only[Rel]using h
theorem ZkP {ι κ:Type} {f:FuncId} {c:Code} {args:List AV} {res:ι→AV} {O':ι→List OB} {pv:κ→Value} {O'':κ→List OB} (hf:P.funcs[f]?=some fn) (hb:fn.body=some c) (hN:fn.ntmps=N) (hl:args.length≤N)
 {Hs:List OB} (h:∀(S:Nat→Prop) (w0:World) (R:List OB),(∀ b,w0.heap.size≤b→S b)→J w0→Has Hs S w0→TrA f P (St All (SO S (O++R)) w0 N (Xl 0 args) (XO J S w0.heap.size (O++R))) c (bodyPostM Fence.wide 5 P fn (Zoj J S w0 R res O' pv O''))):FnP P J f Hs args O res O' pv O'':=by
 intro S w0 R w vs hS hJ hH hk hx ha
 obtain⟨g1,g2⟩:=QF hl hN ha
 exact Za7 hf hb (h S w0 R hS hJ hH _ _ ⟨rfl,g1,hk,hx,g2⟩)
theorem Znx {f:FuncId} {c:Code} {args:List AV} {res:AV} (hf:P.funcs[f]?=some fn) (hb:fn.body=some c) (hN:fn.ntmps=N) (hl:args.length≤N)
 (h:∀(S:Nat→Prop) (w0:World),(∀ b,w0.heap.size≤b→S b)→J w0→TrA f P (St All S w0 N (Xl 0 args) J) c (bodyPostM Fence.wide 5 P fn fun e w'=>∃ v,e= .returned v∧Rel S w' res v∧Keeps All w0 w'∧J w')):Fn P J f args res:=by
 intro S w0 vs hS hJ ha
 obtain⟨g1,g2⟩:=QF hl hN ha
 exact Za7 hf hb (h S w0 hS hJ _ _ ⟨rfl,g1,Keeps.refl _ _,hJ,g2⟩)
end
end Go.Proofs.YtapelgeodldlcaaGreatDoor
