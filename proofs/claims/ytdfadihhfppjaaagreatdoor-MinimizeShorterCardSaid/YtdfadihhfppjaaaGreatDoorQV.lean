/-
  THE ENGINE: functions that may end by a panic of the program's own; a round that ends so.
  CONTRACTS of the program: substitution.
  THE ENGINE: a difference of two lengths.
  THE ENGINE: a slice that was cut to its length (slices.Clip): an append to it makes a new row.
  THE ENGINE: elements of the tail of an own row, by address; appends to what was clipped.
  THE ENGINE: an element of an array.
  THE ENGINE: a struct of which only some fields are given; an array of two at an index.
  CONTRACTS of the program: an order of pairs.
-/
import Derived.RecoverIn
import Derived.RangeFuncLeaves
import Derived.RangeFuncBound
import Derived.Test.YtdfadihhfppjaaaGreatDoorQU
namespace Go.Proofs.YtdfadihhfppjaaaGreatDoor
open Go.RowKit
abbrev pch (v:Value):List PanicEntry:=[{ v,recovered:=false }]
def ZnO {ι κ:Type} (J:WP) (S:Nat→Prop) (w0:World) (R:List OB) (res:ι→AV) (O':ι→List OB) (pv:κ→Value) (O'':κ→List OB) (e:Ending) (w':World):Prop:=
 (∃ i v,e= .returned v∧Rel (SO S (O' i++R)) w' (res i) v∧Keeps All w0 w'∧XO J S w0.heap.size (O' i++R) w')∨
 (∃ k,e= .panicked (pch (pv k))∧Keeps All w0 w'∧XO J S w0.heap.size (O'' k++R) w')
def ZhF (n:Rn) (P:Program) (o:Oper) (a:Act) (w:World) (post:Value→WP) (fl:List PanicEntry→WP):Prop:=
 ∀(K:Act→WP) (Q:Exit→Act→WP),(∀ v w',post v w'→K (a.put o.dst v) w')→(∀ ch w',fl ch w'→Q (.panic ch) a w')→o.wpIn n.F n.d P a w K Q
section
variable {n:Rn} {N:Nat} {P:Program} {J:WP} {S:Nat→Prop} {O:List OB} {w0:World} {env:List (Nat×AV)} {Q:Exit→Act→WP} {ι κ:Type}
variable {o:Oper} {a:Act} {w:World}
theorem ZnE {post:Value→WP} {fl:List PanicEntry→WP} {f:FuncId} {args:Array Value} {w1:World} (hrun:(execOp a.eval o).run P w= .ok (.enter f args) w1) (hc:Calls P f args w1 fun e w'=>(∃ v,e= .returned v∧post v w')∨(∃ ch,e= .panicked ch∧fl ch w')):ZhF n P o a w post fl:=
 fun K Q hK hQ=>⟨fun _ _=>trivial,by
  show o.uponIn n.F n.d P a K Q ((o.semAt n.r a.eval).run P w)
  rw[Zcy hrun fun _ e=>(by cases e)]
  refine⟨fun h=>(by cases h),(Zfk (callsIn_wide.2 hc)).mono fun e w' h=>?_⟩
  rcases h with⟨v,rfl,hv⟩ | ⟨ch,rfl,hv⟩
  · exact hK _ _ hv
  · exact hQ _ _ hv⟩
theorem sq_toP {ops:Array Oper} {rest:List Oper} {d:Nat} {O2:ι→List OB} {av:ι→AV} {pv:κ→Value} {O3:κ→List OB} (hg:o.guard=none) (hd:o.dst=some d) (hN:d<N)
 (ob:∀ a w,So J S w0 N O env a w→ZhF n P o a w (fun v w'=>∃ i,Zag J S w0 O w (O2 i) w'∧Rel (SO S (O2 i)) w' (av i) v) (fun ch w'=>∃ k,ch=pch (pv k)∧Zag J S w0 O w (O3 k) w'))
 (pan:∀ k a w,So J S w0 N (O3 k) env a w→Q (.panic (pch (pv k))) a w)
 (next:∀ i a w,So J S w0 N (O2 i) ((d,av i)::Yn d env) a w→wpListIn n.F n.d P ops Q rest a w):
 ∀ a w,So J S w0 N O env a w→wpListIn n.F n.d P ops Q (o::rest) a w:=fun a w h=>by
 refine wpListIn_plain hg fun K' hK=>?_
 refine ob a w h K' Q (fun u w2 ⟨i,hs,hr⟩=>?_) fun ch w2 ⟨k,hc,hs⟩=>?_
 · rw[hd]
   exact hK _ _ (next i _ _ (h.step hs hN hr))
 · rw[hc]
   exact pan k _ _ (h.step0 hs undef)
theorem Qo {args:List AV} {vs:List Value} {T:Nat→Prop} {M:Nat} (hl:args.length≤N) (hM:M=N) (ha:RelL T w args vs):
 (vs.toArray++Array.replicate (M-vs.toArray.size) undef).size=N∧∀ p∈Y2 0 args,p.1<N∧Rel T w p.2 ((vs.toArray++Array.replicate (M-vs.toArray.size) undef).getD p.1 undef):=by
 have hlen:vs.length=args.length:=by
  clear hl
  induction args generalizing vs with
  | nil=>simp only[RelL]at ha;subst ha;rfl
  | cons a l ih=>simp only[RelL]at ha;obtain⟨u,us',rfl,_,h2⟩:=ha;simp[ih h2]
 refine⟨by simp;omega,?_⟩
 have key:∀(args:List AV) (us pre:List Value) (i:Nat),pre.length=i→vs=pre++us→RelL T w args us→∀ p∈Y2 i args,p.1<N∧Rel T w p.2 ((vs.toArray++Array.replicate (M-vs.toArray.size) undef).getD p.1 undef):=by
  intro args
  induction args with
  | nil=>intro us pre i _ _ _ p hp;cases hp
  | cons x l ih=>
   intro us pre i hi hv hr p hp
   simp only[RelL]at hr
   obtain⟨u,us',rfl,h1,h2⟩:=hr
   rcases List.mem_cons.1 hp with rfl | hp
   · have hlt:i<vs.length:=by rw[hv];simp;omega
     refine⟨oz,?_⟩
     have:(vs.toArray++Array.replicate (M-vs.toArray.size) undef).getD i undef=u:=by
      rw[Array.getD_eq_getD_getElem?,Array.getElem?_append_left (by simpa using hlt)]
      simp[hv,←hi]
     rw[this];exact h1
   · exact ih us' (pre++[u]) (i+1) (by simp[hi]) (by simp[hv]) h2 p hp
 exact key args vs [] 0 rfl rfl ha
theorem Zdq {fn:Func} {R R':Ending→WP} (h:bodyPost P fn R .ret a w) (hR:∀ e w',R e w'→R' e w'):bodyPost P fn R' .ret a w:=by
 obtain⟨h1,v,h2,h3⟩:=h
 exact⟨h1,v,h2,hR _ _ h3⟩
theorem lvP {fn:Func} {R:List OB} {res:ι→AV} {O':ι→List OB} {pv:κ→Value} {O'':κ→List OB} (h:bodyPost P fn (fun e w'=>∃ i v,e= .returned v∧Rel (SO S (O' i++R)) w' (res i) v∧Keeps All w0 w'∧XO J S w0.heap.size (O' i++R) w') .ret a w):bodyPost P fn (ZnO J S w0 R res O' pv O'') .ret a w:=
 Zdq h fun _ _ hr=>.inl hr
theorem pnP {R:List OB} {res:ι→AV} {O':ι→List OB} {pv:κ→Value} {O'':κ→List OB} {v:Value} (k:κ) (hv:v=pv k):∀ a w,So J S w0 N (O'' k++R) env a w→a.defers=[]∧ZnO J S w0 R res O' pv O'' (.panicked (pch v)) w:=fun a w h=>
 ⟨h.defs,.inr ⟨k,by rw[hv],h.keep,h.x⟩⟩
end

def ZfX (P:Program) (l:Nat) (R:Ending→WP):Exit→Act→WP
 | .normal,_,w=>∃ v w',(Instr.endRound l none).run P w= .ok v w'∧R (.returned v) w'
 | .ret,_,w=>∃ v w',(Instr.endRound l (some .ret)).run P w= .ok v w'∧R (.returned v) w'
 | .panic ch,a,w=>a.defers=[]∧R (.panicked ch) w
 | _,_,_=>False
theorem ZdJ {F:Fence} {n:Nat} {P:Program} {l:Nat} {f:FuncId} {tmps:Array Value} {assign body:Code} {w:World} {R:Ending→WP} (hF:F.fn f) (hfn:∃ fn,P.funcs[f]?=some fn)
 (h:assign.wpIn (F.inRound l) n P (Exit.then (fun a₁ w₁=>∃ w₂,(Instr.beginRound l).run P w₁= .ok () w₂∧body.wpIn (F.inRound l) n P (ZfX P l R) a₁ w₂) (fun _ _ _=>False))
  { tmps:=tmps,defers:=[] } w):
 RoundIn F n P l f tmps assign body w R:=by
 refine⟨hF,fun c cs hr=>?_⟩
 let b:Frame:= { (default:Frame)with fn:=f,kind:=.normal,roundOf:=some l }
 have hb0:Frame.round l f tmps assign body .normal=b.atR { tmps:=tmps,defers:=[] } [.code assign,.beginRound,.code body]:=by
  simp[Frame.round,Frame.atR,b]
 have hr':(F.inRound l).room ((c::cs).length+1+n):=hr
 have hF':(F.inRound l).fn b.fn:=hF
 obtain⟨e,a₁,w₁,hq,harr⟩:=h b [.beginRound,.code body] (c::cs) rfl hF' hr'
 rw[←hb0]at harr
 cases e with
 | normal=>
  obtain⟨w₂,hbr,hbody⟩:=hq
  have s1:StepsIn (Machine.fenced P (F.inRound l)) P (lone (b.atR a₁ [.beginRound,.code body]) (c::cs) w₁) (lone (b.atR a₁ [.code body]) (c::cs) w₂):=
   .one (fenced_calm (fr:=b.atR a₁ [.beginRound,.code body]) hF' hr' rfl) (stepR_beginRound rfl hbr)
  obtain⟨e₂,a₂,w₃,hq₂,harr₂⟩:=hbody b [] (c::cs) rfl hF' hr'
  cases e₂ with
  | normal=>
   obtain⟨v,w₄,hend,hR⟩:=hq₂
   exact⟨.returned v,w₄,hR,(StepsIn.trans harr s1).trans (StepsIn.trans harr₂ (.one (fenced_calm (fr:=b.atR a₂ []) hF' hr' rfl) (stepR_round_end rfl rfl hend)))⟩
  | panic ch=>
   obtain⟨hd,hR⟩:=hq₂
   obtain⟨todo,hs⟩:=harr₂
   have hl:({ b.atR a₂ todo with mode:=.panicking ch }:Frame).leaving P w₃ (.panicked ch):=⟨rfl,hd,hfn⟩
   exact⟨.panicked ch,w₃,hR,(StepsIn.trans harr s1).trans (StepsIn.trans hs (.one (fenced_leaving hF' hr' hl) (step_leave_panicked hl)))⟩
  | ret=>
   obtain⟨v,w₄,hend,hR⟩:=hq₂
   obtain⟨k₁,hs⟩:=harr₂.2 rfl
   exact⟨.returned v,w₄,hR,(StepsIn.trans harr s1).trans (StepsIn.trans hs (.one (fenced_calm (fr:=b.atR a₂ (.code .ret::k₁)) hF' hr' rfl) (stepR_round_ret rfl rfl hend)))⟩
  | exit id=>exact hq₂.elim
  | goto t=>exact hq₂.elim
  | outgrown=>exact hq₂.elim
 | exit id=>exact hq.elim
 | goto t=>exact hq.elim
 | ret=>exact hq.elim
 | panic chain=>exact hq.elim
 | outgrown=>exact hq.elim
end Go.Proofs.YtdfadihhfppjaaaGreatDoor
set_option maxHeartbeats 8000000
set_option maxRecDepth 100000
namespace Go.Proofs.YtdfadihhfppjaaaGreatDoor
open Go.Proofs.Tryz (prog)
open Go.RowKit
section
variable {J:WP} (hJ:Stab J)
include hJ
theorem Zpf (l:List Bd)  :FnM (ι:=Nat) prog J 132 [] [.rd (Zgu l)] [] (fun i'=>.lit (.map (some (i')))) (fun i'=>[OB.map keyS (fun z':List BA=>AV.rd (Zg z')) (i') (ZQ l)]):=by
 refine fEM Tryz.func132 fun S w0 R hS hJ0 hH=>?_
 refine YS (B:=So J S w0 31 (R) [(0,.rd (Zgu l))]) ?_ fun a w h=>h
 refine ln 0 fun hl1=>?_
 refine ZF tb hJ [0] [.rd (.lit (.map none))] [0] [_] Y ⟨fun _ _ _ hx _ _=>YA Y (Rel.of_lit (.map none)) hx,U⟩ ?_
 refine tsq (Zep keyS (fun z':List BA=>AV.rd (Zg z')) hJ Y Y Y (lb Y) fun m1=>?_)
 refine snK 1 tb Y (seK [0,2] U2 Y ?_)
 refine nx (Zf (ZF tb hJ [0,1000,1001,1002] [_,.int (l.length:Nat),_] [1] U4 Y ⟨Ym ZhN,U⟩ ?_))
 refine Zd (lpo (ι:=Nat×(List (BA×List BA))) (fun(k,bm)=>(k≤l.length)∧(bm=ZQ (l.take k))) (fun(_,bm)=>(OB.map keyS (fun z':List BA=>AV.rd (Zg z')) m1 bm::R)) (fun(k,_)=>[(11,.int (k:Nat))]) (fun(k,_)=>l.length-k) [0,1,2,3] U3 (0,([]:List (BA×List BA))) ⟨nzl,Y⟩ ?_)
 rintro⟨k,bm⟩ ⟨f1_1,f1_2⟩
 refine qso tb hJ [0,1,2,3,1000] [_] U5 ?_
 refine cjS 4 (fun hb1=>?_) fun hb1=>?_
 ·
  try simp at hb1
  refine Zb (nx (Zf (Zd (tsq (sy (.ptr (bdC (ge l k))) (fun h=>ZM (i:=(k:Int)) ZaB Y (h.get 1 Y) (h.get 3 Y) nnn (ZT (xs:=l) (k:=k) sfz) Y h.x) ?_)))))
  refine snK 1 tb Y (Qk (cs:=bdC (ge l k)) Zn4 Y Y Y (lb Y) Y Y Y dz (m:=0) Y Y (fun a w h=>Zk hS _ h.keep h.x _ nlr) (fun a w h w' hk'=>Yw hJ _ _ hk' h.x) ?_)
  refine seK [0,3,4,5,6] U5 Y (nx (ZF tb hJ (r5 [1005,1007,1008]) (V3 [.tup [.rd (Zg ((Zy bm ((ge l k).var)).getD default)),.bool ((Zy bm ((ge l k).var)).isSome)],_,_,_,_,_]) [3] U8 Y ⟨fun _ _ _ hx hl _=>XD (Kd:=keyS) (f:=(fun z':List BA=>AV.rd (Zg z'))) (L:=bm) Zbd QI ((ge l k).var) Y (Ze hx (mo 0 Y)) (hl.D 0 16 Y Y) (hl.D 2 18 Y Y) hx,U⟩ ?_))
  refine ln 5 fun hl2=>?_
  refine qso tb hJ (r5 [1001]) U2 U6 ?_
  refine cj 5 (fun hb2=>?_) fun hb2=>?_
  ·
   try simp at hb2
   refine ZO (snK 5 tb Y (Zor (f:=(fun z':List BA=>AV.rd (Zg z'))) Zbd hJ hJ0 ((ge l k).var) ((ge l k).text) Y Y (.inl Y) (fun a w h=>⟨(h.get 4 Y),(h.get 2 Y),(h.get 0 Y)⟩) ?_))
   refine seK [0,6,7,8,9] U5 Y (nx (ln 0 fun hl3=>?_))
   refine YU tb hJ [1,2,3,1001] [.int (k+1:Nat),_] [0] U4 Y ⟨YT,U⟩ ?_
   exact Xk (k+1,XK bm ((ge l k).var) ((ge l k).text)) [0,1,2,3] ⟨oz,by rw[Zjh oz,←f1_2];simp[Zvg,hb2]⟩
  ·
   try simp at hb2
   refine Zb (nx (YU tb hJ [1,2,3,1001] [.int (k+1:Nat),_] [0] U4 Y ⟨YT,U⟩ ?_))
   exact Xk (k+1,bm) [0,1,2,3] ⟨oz,by rw[Zjh oz,←f1_2];simp[Zvg,hb2]⟩
 ·
  try simp at hb1
  refine Zu (nx (qso tb hJ [1001] U2 [_] ?_))
  exact tw (ob0 (congrArg (fun z'=>OB.map keyS (fun z':List BA=>AV.rd (Zg z')) m1 (z')) (show bm=(ZQ l)from by rw[f1_2,ZX oz]))) (Zs (fun a w h=>ZK  (m:=0) m1 Y h Y Y))
theorem ZeC (M:Nat) (bm:List (BA×List BA)) (s:BA)  :FnR prog J 133 [OB.map keyS (fun z':List BA=>AV.rd (Zg z')) M bm] [.lit (.map (some M)),.str s] (.rd (Zg (XP bm s))):=by
 refine fER Tryz.func133 fun S w0 hS hJ0 hH=>?_
 clear hJ0
 refine qs tb hJ [0,1] [_] U2 ?_
 refine Zf (hqs tb hJ [1,1004,1006,1007] [_,_,.tup [.rd (Zg ((Zy bm s).getD default)),.bool ((Zy bm s).isSome)],_,_,_,_,_] [2] U4 Y ⟨fun _ _ hk hx hl _=>XD (Kd:=keyS) (f:=(fun z':List BA=>AV.rd (Zg z'))) (L:=bm) Zbd QI s Y (YZ hH hk (mo 0 Y)) (hl.D 0 8 Y Y) (hl.D 1 9 Y Y) hx,U⟩ ?_)
 refine ln 1 fun hl1=>?_
 refine qs tb hJ [0,2,1000] [_] U3 ?_
 refine cj 2 (fun hb1=>?_) fun hb1=>?_
 ·
  try simp at hb1
  refine qs tb hJ [1001] U2 [_] ?_
  exact tRn 0 (hE:=congrArg (fun z=>AV.rd (Zg z)) (show((Zy bm s).getD default)=(XP bm s)from by cases h9:Zy bm s<;>simp_all[XP]))
 ·
  try simp at hb1
  refine Zb (nx (hqs tb hJ [1001,1002] [_,.rd (Zg ([s])),_] [1] U2 Y ⟨fun _ _ hk hx hl _=>YI Zj Zbn Y (hl.D 0 15 Y Y) (hS _ hk.size) (js hJ hx),U⟩ ?_))
  refine ln 0 fun hl2=>?_
  exact tRn 1 (hE:=congrArg (fun z=>AV.rd (Zg z)) (show([s])=(XP bm s)from by cases h9:Zy bm s<;>simp_all[XP]))
theorem Zwf (M:Nat) (bm:List (BA×List BA)) (t:List BA) (hb:(Xp bm t).length≤2000):FnR prog J 134 [OB.map keyS (fun z':List BA=>AV.rd (Zg z')) M bm] [.lit (.map (some M)),.rd (Zg t)] (.rd (Zg (Xp bm t))):=by
 refine fER Tryz.func134 fun S w0 hS hJ0 hH=>?_
 refine tw Z4 (ln 1 fun hl1=>?_)
 refine qso tb hJ [0,1] [_] U2 ?_
 refine qso tb hJ [0,1,1000] [_] U3 ?_
 refine Zf (ZF tb hJ [0,2,1000,1001,1002] [_,.int (t.length:Nat),_] [1] U5 Y ⟨Ym ZA,U⟩ ?_)
 refine Zd (tw (Yd 9 1 hJ) (lpo (ι:=Nat×Value×(List BA)) (fun(k,_,out)=>(k≤t.length)∧(out=Xp bm (t.take k))) (fun(_,v,out)=>[OB.row v 9 1 (out.map ZbZ)]) (fun(k,v,_)=>[(10,.int (k:Nat)),(5,.lit v)]) (fun(k,_,_)=>t.length-k) [0,2,3,4,1] U3 (0,(.slice none 0 0),([]:List BA)) ⟨nzl,Y⟩ ?_))
 rintro⟨k,v,out⟩ ⟨f1_1,f1_2⟩
 refine qso tb hJ (r5 [1000]) [_] U6 ?_
 refine cjS 5 (fun hb1=>?_) fun hb1=>?_
 ·
  try simp at hb1
  refine Zb (nx (Zf (Zd (ZF tb hJ (r5 [1002]) [.ptr [lS (ge t k)],_,_] [0] U6 Y ⟨iIx Zj,U⟩ ?_))))
  refine ZO (snK 3 tb Y (sy (.rd (Zg (XP bm (ge t k)))) (fun h=>Y3 (ZeC hJ M bm (ge t k)) ZcW Y (Zk hS _ h.keep h.x) (h.x.1) (ZH (ZJ hH h.keep h.x (mo 0 Y)) Zq) (Za (h.get 1 Y) (Za (h.get 0 Y) Zc)) (jo hJ h.x)) ?_))
  refine YD (f:=ZbZ) (m:=3) (s:=14) out (XP bm (ge t k)) (fun _=>Y) Qu hJ hJ0 Y Y Y (lb Y) Y Y (fun a w h=>(h.get 0 Y)) (by have h9:=Zav bm t (k+1);rw[QD oz,List.length_append,←f1_2]at h9;omega) (by have h9:=Zav bm t (k+1);rw[QD oz,List.length_append,←f1_2]at h9;omega) fun v1=>?_
  refine snK 1 tb Y (seK [0,2,6,7,8,9] U6 Y ?_)
  refine nx (ln 1 fun hl2=>?_)
  refine YU tb hJ [0,2,3,4,1001] [.int (k+1:Nat),_] [0] U5 Y ⟨YT,U⟩ ?_
  exact Xk (k+1,v1,out++(XP bm (ge t k))) [1,2,3,4,0] ⟨oz,by rw[QD oz,←f1_2]⟩
 ·
  try simp at hb1
  refine Zu (nx (qso tb hJ [1001] U2 [_] ?_))
  exact tw (fun h=>Ya hS h (m:=0) (s:=4) Y) (tRo 0 (hE:=congrArg (fun z=>AV.rd (Zg z)) (show out=(Xp bm t)from by rw[f1_2,ZX oz])))
theorem Zr0 (l:List BA)  :FnM (ι:=Nat) prog J 148 [] [.rd (Zg l)] [] (fun i'=>.lit (.map (some (i')))) (fun i'=>[OB.set keyS (i') (QP l)]):=by
 refine fEM Tryz.func148 fun S w0 R hS hJ0 hH=>?_
 refine YS (B:=So J S w0 17 (R) [(0,.rd (Zg l))]) ?_ fun a w h=>h
 refine ln 0 fun hl1=>?_
 refine ZF tb hJ [0] [.rd (.lit (.map none))] [0] [_] Y ⟨fun _ _ _ hx _ _=>YA Y (Rel.of_lit (.map none)) hx,U⟩ ?_
 refine tsq (Zce keyS hJ Y Y Y (lb Y) fun m1=>?_)
 refine snK 1 tb Y (seK [0,2] U2 Y ?_)
 refine nx (Zf (ZF tb hJ [0,1000,1001,1002] [_,.int (l.length:Nat),_] [1] U4 Y ⟨Ym ZA,U⟩ ?_))
 refine Zd (lpo (ι:=Nat×(List BA)) (fun(k,ys)=>(k≤l.length)∧(ys=QP (l.take k))) (fun(_,ys)=>(OB.set keyS m1 ys::R)) (fun(k,_)=>[(9,.int (k:Nat))]) (fun(k,_)=>l.length-k) [0,1,2,3] U3 (0,([]:List BA)) ⟨nzl,Y⟩ ?_)
 rintro⟨k,ys⟩ ⟨f1_1,f1_2⟩
 refine qso tb hJ [0,1,2,3,1000] [_] U5 ?_
 refine cjS 4 (fun hb1=>?_) fun hb1=>?_
 ·
  try simp at hb1
  refine Zb (nx (Zf (Zd (ZF tb hJ [0,1,2,3,1002] [.ptr [lS (ge l k)],_,_] [0] U5 Y ⟨iIx Zj,U⟩ ?_))))
  refine ZO (snK 2 tb Y (Zc8 Zas hJ hJ0 (ge l k) Y Y (.inl Y) (fun a w h=>⟨(h.get 1 Y),(h.get 0 Y),(Rel.of_lit (.bool true))⟩) ?_))
  refine seK [2,3,4,5] U4 Y (nx (YU tb hJ [0,1,2,1001] [.int (k+1:Nat),_] [0] U4 Y ⟨YT,U⟩ ?_))
  exact Xk (k+1,QE ys (ge l k)) [0,1,2,3] ⟨oz,by rw[ZpE oz,←f1_2]⟩
 ·
  try simp at hb1
  refine Zu (nx (qso tb hJ [1001] U2 [_] ?_))
  exact tw (ob0 (congrArg (fun z'=>OB.set keyS m1 (z')) (show ys=(QP l)from by rw[f1_2,ZX oz]))) (Zs (fun a w h=>ZK  (m:=0) m1 Y h Y Y))
theorem Zdw (M:Nat) (vs t:List BA) (hb:t.length≤2000):FnR prog J 149 [OB.set keyS M vs] [.rd (Zg t),.lit (.map (some M))] (.rd (Zg (Zba t vs))):=by
 refine fER Tryz.func149 fun S w0 hS hJ0 hH=>?_
 refine tw Z4 (ln 0 fun hl1=>?_)
 refine qso tb hJ [0,1] [_] U2 ?_
 refine qso tb hJ [0,1,1000] [_] U3 ?_
 refine tsq (Zce keyS hJ Y Y Y (lb Y) fun m1=>?_)
 refine snK 1 tb Y (seK [0,2,3,4] U4 Y ?_)
 refine nx (Zf (ZF tb hJ [0,2,3,1000,1001,1002] [_,.int (t.length:Nat),_] [1] U6 Y ⟨Ym ZA,U⟩ ?_))
 refine Zd (tw (Yd 9 1 hJ) (lpo (ι:=Nat×Value×(List BA)×(List BA)) (fun(k,_,out,ys)=>(k≤t.length)∧(out=Zba (t.take k) vs)∧(ys=out)∧(out.length≤k)) (fun(_,v,out,ys)=>[OB.row v 9 1 (out.map ZbZ),OB.set keyS m1 ys]) (fun(k,v,_,_)=>[(12,.int (k:Nat)),(5,.lit v)]) (fun(k,_,_,_)=>t.length-k) [0,1,3,4,5,2] U4 (0,(.slice none 0 0),([]:List BA),([]:List BA)) ⟨nzl,Y,Y,Nat.le_refl _⟩ ?_))
 rintro⟨k,v,out,ys⟩ ⟨f1_1,f1_2,f1_3,f1_4⟩
 refine qso tb hJ (r6 [1000]) [_] U7 ?_
 refine cjS 6 (fun hb1=>?_) fun hb1=>?_
 ·
  try simp at hb1
  refine Zb (nx (Zf (Zd (ZF tb hJ (r6 [1002]) [.ptr [lS (ge t k)],_,_] [0] U7 Y ⟨iIx Zj,U⟩ ?_))))
  refine ZF tb hJ (r7 [1008]) [_,_,.bool (decide ((ge t k)∈vs)),_,_,_,.bool (decide ((ge t k)∈ys)),_,_] [2,6] U8 Y ⟨fun _ _ hk hx hl _=>YM (Kd:=keyS) (xs:=vs) Zas Yf (ge t k) Y (ZJ hH hk hx (mo 0 Y)) (hl.D 0 16 Y Y) (hl.D 1 17 Y Y) hx,fun _ _ _ hx hl hc=>YM (Kd:=keyS) (xs:=ys) Zas Yf (ge t k) Y (Ze hx (mo 1 Y)) (hl.D 4 20 Y hc) (hl.D 5 21 Y hc) hx,U⟩ ?_
  refine cj 7 (fun hb2=>?_) fun hb2=>?_
  ·
   try simp at hb2
   refine tsq (snK 2 tb Y (kw pm1 ?_))
   refine Zc8 Zas hJ hJ0 (ge t k) Y Y (.inl Y) (fun a w h=>⟨(h.get 1 Y),(h.get 0 Y),(Rel.of_lit (.bool true))⟩) ?_
   refine seK [2,3,4,5,6,7,8] U7 Y (nx (ZO (snK 2 tb Y ?_)))
   refine sy (.rd (Zg ([(ge t k)]))) (fun h=>YI Zj Zbn Y (h.get 0 Y) (Zk hS _ h.keep h.x _ nlr) (jo hJ h.x)) ?_
   refine kw pm1 (YD (f:=ZbZ) (m:=2) (s:=27) out ([(ge t k)]) (fun _=>Y) Qu hJ hJ0 Y Y Y (lb Y) Y Y (fun a w h=>(h.get 0 Y)) sfz sfz fun v2=>?_)
   refine snK 1 tb Y (seK [0,2,5,6,7,8,9] U7 Y ?_)
   refine nx (ln 1 fun hl2=>?_)
   refine YU tb hJ [0,2,3,4,5,1001] [.int (k+1:Nat),_] [0] U6 Y ⟨YT,U⟩ ?_
   exact Xk (k+1,v2,out++([(ge t k)]),QE ys (ge t k)) [1,2,3,4,5,0] ⟨oz,by rw[Zit oz,←f1_2];subst f1_3;simp_all[occG],by subst f1_3;simp_all[QE],by simp;omega⟩
  ·
   try simp at hb2
   refine Zb (nx (YU tb hJ [0,1,2,3,5,1001] [.int (k+1:Nat),_] [0] U6 Y ⟨YT,U⟩ ?_))
   exact Xk (k+1,v,out,ys) [0,1,2,3,5,4] ⟨oz,by rw[Zit oz,←f1_2];subst f1_3;simp[occG];grind,f1_3,oz⟩
 ·
  try simp at hb1
  refine Zu (nx (qso tb hJ [1001] U2 [_] ?_))
  exact tw (fun h=>Ya hS h (m:=0) (s:=4) Y) (tRo 0 (hE:=congrArg (fun z=>AV.rd (Zg z)) (show out=(Zba t vs)from by rw[f1_2,ZX oz])))
theorem p_Fits (t:List BA) (l:List Bd) (x:List BA)  :Fn prog J 114 [.rd (Zg t),.rd (Zgu l),.rd (Zg x)] (.bool (fitB t l x)):=by
 refine fE Tryz.func114 fun S w0 hS hJ0=>?_
 refine tw Z4 (ln 0 fun hl1=>?_)
 refine ln 1 fun hl2=>?_
 refine ln 2 fun hl3=>?_
 refine qso tb hJ [0,1,2] [_] U3 ?_
 refine Zgz (tsq (snK 1 tb Y (QK (O:=[]) (R:=[]) (Zpf hJ l) Zhr Y Y Y (lb Y) hS hJ0 Zq (fun a w h=>(Za (h.get 0 Y) Zc)) fun z1=>?_)))
 refine snK 1 tb Y (seK [0,3,5] U3 Y ?_)
 refine nx (qso tb hJ [0,1,2,1000] [_] U4 ?_)
 refine Zf (Zk2 (nx (Zf (ZF tb hJ [0,2,3,1000,1001,1002] [_,.int (t.length:Nat),_] [1] U6 Y ⟨Ym ZA,U⟩ ?_))))
 refine Zd (lpo (ι:=Nat×Nat) (fun(k,p)=>(k≤t.length)∧(p≤x.length)∧(x.take p=Xp (ZQ l) (t.take k))) (fun(_,_)=>[OB.map keyS (fun z':List BA=>AV.rd (Zg z')) z1 (ZQ l)]) (fun(k,p)=>[(17,.int (k:Nat)),(8,.int (p:Nat))]) (fun(k,_)=>t.length-k) [0,1,3,4,5,2] U4 (0,0) ⟨nzl,nzl,Y⟩ ?_)
 rintro⟨k,p⟩ ⟨f1_1,f1_2,f1_3⟩
 refine qso tb hJ (r6 [1000]) [_] U7 ?_
 refine cjS 6 (fun hb1=>?_) fun hb1=>?_
 ·
  try simp at hb1
  refine Zb (nx (Zf (Zd (ZF tb hJ (r6 [1002]) [.ptr [lS (ge t k)],_,_] [0] U7 Y ⟨iIx Zj,U⟩ ?_))))
  refine ZF tb hJ (r6 [1002,1003,1004]) [_,_,.rd (Zg (XP (ZQ l) (ge t k))),.int ((XP (ZQ l) (ge t k)).length:Nat),_] [2,3] U9 Y ⟨fun _ _ hk hx hl _=>Y3 (ZeC hJ z1 (ZQ l) (ge t k)) ZcW Y (Zk hS _ hk hx) (hx.1) (ZH (Ze hx (mo 0 Y)) Zq) (Za (hl.D 0 21 Y Y) (Za (hl.D 1 22 Y Y) Zc)) (jo hJ hx),Ym ZA,U⟩ ?_
  refine ln 6 fun hl4=>?_
  refine Zd (lpo (ι:=Nat×Nat) (fun(j,q)=>(j≤(XP (ZQ l) (ge t k)).length)∧(q≤x.length)∧(x.take q=Xp (ZQ l) (t.take k)++(XP (ZQ l) (ge t k)).take j)) (fun(_,_)=>[OB.map keyS (fun z':List BA=>AV.rd (Zg z')) z1 (ZQ l)]) (fun(j,q)=>[(25,.int (j:Nat)),(8,.int (q:Nat))]) (fun(j,_)=>(XP (ZQ l) (ge t k)).length-j) (r5 [6,7,8,5]) U7 (0,p) ⟨nzl,f1_2,by simpa using f1_3⟩ ?_)
  rintro⟨j,q⟩ ⟨f2_1,f2_2,f2_3⟩
  refine qso tb hJ (r9 [1000]) [_] U10 ?_
  refine cjS 9 (fun hb2=>?_) fun hb2=>?_
  ·
   try simp at hb2
   refine Zb (nx (Zf (Zd (ZF tb hJ (r9 [1002]) [.ptr [lS (ge (XP (ZQ l) (ge t k)) j)],_,_] [0] U10 Y ⟨iIx Zj,U⟩ ?_))))
   refine Zf (ZF tb hJ (r9 [1011]) [_,_,.int (x.length:Nat),_,_,_,_,.ptr [lS (ge x q)],_,_,_,_] [2,7] U10 Y ⟨Ym ZA,gIx Zj (hk:=fun(hc':((decide ((q:Int)=(x.length:Int)))==false)=true)=>by(try simp at hc');first | omega | (simp;omega) | grind[Zp]),U⟩ ?_)
   refine cj 9 (fun hb3=>?_) fun hb3=>?_
   ·
    try simp at hb3
    have e3:q=x.length∨ ¬ ge x q=ge (XP (ZQ l) (ge t k)) j:=by grind
    refine qso tb hJ [1,1000] [_] U2 ?_
    refine Zu (nx (ZF tb hJ [1004] [_,_,.int (x.length:Nat),_,_] [2] [_] Y ⟨Ym ZA,U⟩ ?_))
    exact tRo 0 (hE:=eB (by rw[fitB,decide_eq_false oz,decide_eq_false (fit_no oz hb2 f2_3 f2_2 e3)]))
   ·
    try simp at hb3
    have e3:q<x.length∧ge x q=ge (XP (ZQ l) (ge t k)) j:=by grind
    refine Zb (nx (YU tb hJ (r8 [1002]) [_,.int (q+1:Nat),_] [1] U9 Y ⟨YT,U⟩ ?_))
    refine nx (YU tb hJ (r7 [8,1001]) [.int (j+1:Nat),_] [0] U9 Y ⟨YT,U⟩ ?_)
    exact Xk (j+1,q+1) (r7 [8,7]) ⟨oz,oz,by rw[ZZ e3.1,ZZ hb2,←List.append_assoc,←f2_3,e3.2]⟩
  ·
   try simp at hb2
   refine Zu (nx (YU tb hJ [0,1,2,3,8,1001] [.int (k+1:Nat),_] [0] U6 Y ⟨YT,U⟩ ?_))
   exact Xk (k+1,q) [0,1,2,3,5,4] ⟨oz,f2_2,by rw[QD oz,f2_3,ZX (xs:=XP (ZQ l) (ge t k)) oz]⟩
 ·
  try simp at hb1
  refine Zu (nx (ZF tb hJ [1004] [_,_,.int (x.length:Nat),_,_] [2] [_] Y ⟨Ym ZA,U⟩ ?_))
  exact tRo 0 (hE:=eB (by rw[fitB,Zw9 (by rw[f1_3,ZX oz]) f1_2]))
theorem Zik (t:List BA) (l:List Bd) (n:Nat) (hn:n≤2000) (hl:∀ b∈l,b.text.length≤2000):Fn prog J 103 [.rd (Zg t),.rd (Zgu l),.int (n:Nat)] (.tup [.rd (Zg (if XZ (ZQ l) t n then Xp (ZQ l) t else [])),.int (if XZ (ZQ l) t n then 0 else 15)]):=by
 refine fE Tryz.func103 fun S w0 hS hJ0=>?_
 refine tw Z4 (ln 0 fun hl1=>?_)
 refine ln 1 fun hl2=>?_
 refine qso tb hJ [0,1,2] U2 U3 ?_
 refine Zf (qso tb hJ [0,1,2,1001] U2 U4 ?_)
 refine cj 3 (fun hb1=>?_) fun hb1=>?_
 ·
  try simp at hb1
  exact False.elim oz
 ·
  try simp at hb1
  refine Zb (nx (tsq (snK 1 tb Y (QK (O:=[]) (R:=[]) (Zpf hJ l) Zhr Y Y Y (lb Y) hS hJ0 Zq (fun a w h=>(Za (h.get 0 Y) Zc)) fun z1=>?_))))
  refine snK 1 tb Y (seK [0,3,5] U3 Y ?_)
  refine nx (qso tb hJ [0,1,1001] U2 U3 ?_)
  refine Zf (ZF tb hJ [0,1,2,1000,1001,1002] [_,.int (t.length:Nat),_] [1] U6 Y ⟨Ym ZA,U⟩ ?_)
  refine Zd (lpo (ι:=Nat×Int) (fun(k,z)=>(k≤t.length)∧(z=(n:Int)-(Xp (ZQ l) (t.take k)).length)∧(0≤z)) (fun(_,_)=>[OB.map keyS (fun z':List BA=>AV.rd (Zg z')) z1 (ZQ l)]) (fun(k,z)=>[(19,.int (k:Nat)),(9,.int z)]) (fun(k,_)=>t.length-k) [0,1,3,4,5,2] U4 (0,(n:Int)) ⟨nzl,by simp[Xp],oz⟩ ?_)
  rintro⟨k,z⟩ ⟨f1_1,f1_2,f1_3⟩
  refine qso tb hJ (r6 [1000]) [_] U7 ?_
  refine cjS 6 (fun hb2=>?_) fun hb2=>?_
  ·
   try simp at hb2
   refine Zb (nx (Zf (Zd (ZF tb hJ (r6 [1002]) [.ptr [lS (ge t k)],_,_] [0] U7 Y ⟨iIx Zj,U⟩ ?_))))
   refine ZF tb hJ (r5 [1003,1006]) (V3 [.rd (Zg (XP (ZQ l) (ge t k))),.int ((XP (ZQ l) (ge t k)).length:Nat),.int (z-(((XP (ZQ l) (ge t k)).length:Nat):Int)),_]) [3,4,5] U7 Y ⟨fun _ _ hk hx hl _=>Y3 (ZeC hJ z1 (ZQ l) (ge t k)) ZcW Y (Zk hS _ hk hx) (hx.1) (ZH (Ze hx (mo 0 Y)) Zq) (Za (hl.D 1 24 Y Y) (Za (hl.D 2 25 Y Y) Zc)) (jo hJ hx),Ym ZA,Zu2 (h0:=by have:=Zkd (m:=2000) oz hl (ge t k);omega),U⟩ ?_
   refine ln 5 fun hl3=>?_
   refine qso tb hJ (r5 [6,1001]) U2 U7 ?_
   refine cj 6 (fun hb3=>?_) fun hb3=>?_
   ·
    try simp at hb3
    have e3:XZ (ZQ l) t n=false:=by have h9:=Zav (ZQ l) t (k+1);rw[QD oz,List.length_append]at h9;simp only[XZ,decide_eq_false_iff_not];omega
    refine qso tb hJ [1000,1001] U2 U2 ?_
    exact tw (fun h=>Xx h (m:=0) (s:=6) Y) (Zs (fun a w h=>Yz (m:=0) (k:=1) Y (ZY h) Y Y (congrArg (fun z=>AV.rd (Zg z)) (show([]:List BA)=(if XZ (ZQ l) t n then Xp (ZQ l) t else [])from by simp[e3])) (eI (by simp[e3]))))
   ·
    try simp at hb3
    refine Zb (nx (YU tb hJ [0,1,2,3,5,1001] [.int (k+1:Nat),_] [0] U6 Y ⟨YT,U⟩ ?_))
    exact Xk (k+1,z-(((XP (ZQ l) (ge t k)).length:Nat):Int)) [0,1,2,3,5,4] ⟨oz,by rw[QD oz,List.length_append,f1_2];omega,oz⟩
  ·
   try simp at hb2
   have e4:XZ (ZQ l) t n=true:=by rw[ZX (xs:=t) oz]at f1_2;simp only[XZ,decide_eq_true_eq];omega
   refine Zu (nx (ZF tb hJ [1002,1003,1004] [_,_,.rd (Zg (Xp (ZQ l) t)),_,_] [2] U3 Y ⟨fun _ _ hk hx hl _=>Y3 (Zwf hJ z1 (ZQ l) t (by simp only[XZ,decide_eq_true_eq]at e4;omega)) Zt2 Y (Zk hS _ hk hx) (hx.1) (ZH (Ze hx (mo 0 Y)) Zq) (Za (hl.D 0 32 Y Y) (Za (hl.D 1 33 Y Y) Zc)) (jo hJ hx),U⟩ ?_))
   refine ln 0 fun hl4=>?_
   exact Zs (fun a w h=>Yz (m:=1) (k:=2) Y (ZY h) Y Y (congrArg (fun z=>AV.rd (Zg z)) (show(Xp (ZQ l) t)=(if XZ (ZQ l) t n then Xp (ZQ l) t else [])from by simp[e4])) (eI (by simp[e4])))
theorem Zig (x:Pr)  :Fn prog J 144 [.agg (prC x)] (.agg (prC (ZcG x))):=by
 refine fE Tryz.func144 fun S w0 hS hJ0=>?_
 refine tw Z4 (tsq ?_)
 refine Zcf (cs:=[lS x.a,lS x.b]) hJ Y Y Y (lb Y) (fun a w h=>(h.get 0 Y)) fun b1=>?_
 refine Zv X0 hJ Y Y Y (lb Y) fun b2=>?_
 refine seK [0,1] U2 Y (nx (Zf (ZF tb hJ [0,1,1004] [.at b1 1,.str x.b,.at b1 0,.str x.a,_] [0,1,2,3] U3 Y ⟨fun _ _ _ hx hl _=>Zx Q7 Y (hl.env 1 1 _ Y Y) hx,fun a _ _ hx hl _=>Zo Qx Y (Ze hx (mo 1 Y)) (hl.D 0 3 Y Y) Y hx,fun _ _ _ hx hl _=>Zx Q8 Y (hl.env 1 1 _ Y Y) hx,fun a _ _ hx hl _=>Zo Qx Y (Ze hx (mo 1 Y)) (hl.D 2 5 Y Y) Y hx,U⟩ ?_)))
 refine cj 2 (fun hb1=>?_) fun hb1=>?_
 ·
  try simp at hb1
  refine ZO (sq (.at b1 1) Y Y (lb Y) (fun _ _ h=>Zx Q7 Y (h.get 1 Y) h.x) ?_)
  refine sy (.str x.b) (fun h=>Zo Qx Y (Ze h.x (mo 1 Y)) (h.get 0 Y) Y h.x) ?_
  refine sy (.at b1 0) (fun h=>Zx Q8 Y (h.get 3 Y) h.x) ?_
  refine sy (.str x.a) (fun h=>Zo Qx Y (Ze h.x (mo 1 Y)) (h.get 0 Y) Y h.x) ?_
  refine sy (.at b1 0) (fun h=>Zx Q8 Y (h.get 5 Y) h.x) ?_
  refine kw pm1 (Z6 (b:=b1) (off:=0) (es:=U2) hJ hJ0 Zlb Y Y Y (lb Y) Y (fun a w h=>⟨(h.get 0 Y),(h.get 3 Y)⟩) ?_)
  refine sy (.at b1 1) (fun h=>Zx Q7 Y (h.get 6 Y) h.x) ?_
  refine Z6 (b:=b1) (off:=1) (es:=U2) hJ hJ0 Zlb Y Y Y (lb Y) Y (fun a w h=>⟨(h.get 0 Y),(h.get 2 Y)⟩) ?_
  refine seK [6,7] U2 Y (nx (tsq ?_))
  refine sy (.agg [lS x.b,lS x.a]) (fun h=>Yb (ds:=[lS x.b,lS x.a]) Xt Y (Ze h.x (mo 0 Y)) (h.get 1 Y) Y Y h.x) ?_
  refine kw pm1 (Zn (b:=b2) (off:=0) (es:=U2) (news:=U2) hJ hJ0 Xj Y Y Y (lb Y) Y (fun a w h=>⟨(h.get 1 Y),(h.get 0 Y)⟩) ?_)
  exact seK [1] [_] Y (nx (Zs (fun a w h=>Zb7 (m:=0) Y Xt h Y Y (show(_:List CD)=[lS ((ZcG x).a),lS ((ZcG x).b)]from by(simp[ZcG,hb1])<;>rfl))))
 ·
  try simp at hb1
  refine Zb (nx (tsq (sy (.agg (prC x)) (fun h=>Yb (ds:=[lS x.a,lS x.b]) Xt Y (Ze h.x (mo 1 Y)) (h.get 1 Y) Y Y h.x) ?_)))
  refine Zn (b:=b2) (off:=0) (es:=U2) (news:=U2) hJ hJ0 Xj Y Y Y (lb Y) Y (fun a w h=>⟨(h.get 1 Y),(h.get 0 Y)⟩) ?_
  exact seK [1] [_] Y (nx (Zs (fun a w h=>Zb7 (m:=0) Y Xt h Y Y (show(_:List CD)=[lS ((ZcG x).a),lS ((ZcG x).b)]from by(simp[ZcG,hb1])<;>rfl))))
end
end Go.Proofs.YtdfadihhfppjaaaGreatDoor
namespace Go.Proofs.YtdfadihhfppjaaaGreatDoor
section
variable {n:Rn} {P:Program} {S:Nat→Prop} {X:WP} {o:Oper} {a:Act} {w:World} {t u:TypeId} {x y:Operand}
theorem ZfY {i j:Nat} (hop:o.op= .binOp .sub t x y u) (h1:Rel S w (.int (i:Int)) (a.eval x)) (h2:Rel S w (.int (j:Int)) (a.eval y)) (hl:j≤i) (hi:i≤9223372036854775807) (hx:X w):Does n P o a w (YC S X (.int ((i-j:Nat):Int)) w):=by
 rw[show((i-j:Nat):Int)=(i:Int)-(j:Int) by omega]
 exact Zv0 hop h1 h2 oz oz hx
end
end Go.Proofs.YtdfadihhfppjaaaGreatDoor
namespace Go.Proofs.YtdfadihhfppjaaaGreatDoor
open Go.RowKit
section
variable {n:Rn} {N:Nat} {P:Program} {J:WP} {S:Nat→Prop} {O:List OB} {w0:World} {env:List (Nat×AV)} {Q:Exit→Act→WP}
theorem ZvU {v:Value} {e:TypeId} {size:Nat} {rows:List (List CD)} {lo m:Nat} {T:Nat→Prop} {w:World} (hm:m≤rows.length) (h:(OB.row v e size rows).inv lo T w):(OB.row (Zaf v m) e size (rows.take m)).inv lo T w:=by
 obtain⟨us,⟨h0,h1⟩,h2,h3⟩:=h
 have hl:us.length=rows.length*size:=h0
 refine⟨us.take (m*size),⟨?_,?_⟩,?_,fun r hr=>h3 r (List.mem_of_mem_take hr)⟩
 · rw[List.length_take,List.length_take,hl,Nat.min_eq_left hm]
   exact Nat.min_eq_left (Nat.mul_le_mul_right _ hm)
 · rw[List.length_take,Nat.min_eq_left hm]
   rcases h1 with⟨rfl,hz⟩ | ⟨g,cap,cur,rfl,hb,hg,hnc,hcm,hcs,ht⟩
   · have:m=0:=by omega
     subst this
     exact .inl ⟨rfl,rfl⟩
   · refine .inr ⟨g,cap,cur,rfl,hb,hg,Nat.le_trans hm hnc,hcm,hcs,?_⟩
     rw[←ht,List.take_take,Nat.min_eq_left (Nat.mul_le_mul_right _ hm)]
 · have hf:(rows.take m).flatten=rows.flatten.take (m*size):=by
    have key:∀(rows:List (List CD)) (m:Nat),(∀ r∈rows,r.length=size)→m≤rows.length→(rows.take m).flatten=rows.flatten.take (m*size):=by
     intro rows
     induction rows with
     | nil=>intro m _ hm;simp at hm;subst hm;simp
     | cons r rs ih=>
      intro m hr hm
      cases m with
      | zero=>simp
      | succ m=>
       have hrl:=hr r yz
       simp only[List.take_succ_cons,List.flatten_cons]
       rw[ih m (fun q hq=>hr q (by simp[hq])) (by simpa using hm)]
       have e1:(m+1)*size=r.length+m*size:=by rw[hrl,Nat.succ_mul];omega
       rw[e1,List.take_length_add_append]
    exact key rows m h3 hm
   rw[hf]
   refine RdL.of_get (by rw[List.length_take,List.length_take,h2.length]) fun i c u hc hu=>?_
   rw[List.getElem?_take]at hc hu
   split at hc
   · rename_i hi
     rw[if_pos hi]at hu
     exact h2.get hc hu
   · cases hc
theorem Zop {a:Act} {w:World} {v:Value} {e:TypeId} {size:Nat} {rows:List (List CD)} {m:Nat} (hm:m≤rows.length) (h:So J S w0 N (OB.row v e size rows::O) env a w):
 So J S w0 N (OB.row (Zaf v m) e size (rows.take m)::O) env a w:=by
 have hblk:∀ k,(OB.row (Zaf v m) e size (rows.take m)).blk k↔ (OB.row v e size rows).blk k:=fun k=>by
  show(Zaf v m).ownBlock=some k↔v.ownBlock=some k
  cases v with
  | slice ad l c=>cases ad<;>exact Iff.rfl
  | _=>exact Iff.rfl
 have hs:∀ k,SO S (OB.row v e size rows::O) k→SO S (OB.row (Zaf v m) e size (rows.take m)::O) k:=fun k hk=>⟨hk.1,fun p hp=>by
  rcases List.mem_cons.1 hp with rfl | hp
  · rw[hblk];exact hk.2 (OB.row v e size rows) yz
  · exact hk.2 p (by simp[hp])⟩
 have hpw:=List.pairwise_cons.1 h.x.2.2
 refine⟨h.defs,h.size,h.keep,⟨h.x.1,fun p hp=>?_,.cons (fun p hp k hk=>hpw.1 p hp k ((hblk k).1 hk)) hpw.2⟩,fun p hp=>⟨(h.env p hp).1,(h.env p hp).2.sub fun k _=>hs k⟩⟩
 rcases List.mem_cons.1 hp with rfl | hp
 · exact OB.sub (ZvU hm (h.x.2.1 (OB.row v e size rows) yz)) fun k _=>hs k
 · exact OB.sub (h.x.2.1 p (by simp[hp])) fun k _=>hs k
end
section
variable {n:Rn} {N:Nat} {P:Program} {J X:WP} {S S' S'':Nat→Prop} {O:List OB} {w0:World} {env:List (Nat×AV)} {Q:Exit→Act→WP}
variable {o:Oper} {a:Act} {w:World} {x y:Operand} {t e:TypeId} {k:Nat} {v:Value} {rows:List (List CD)}
theorem Zex {lo:Nat} {i:Int} (h1:Yp P t e k) (hop:o.op= .indexAddr t x y) (hi:∃ l,(OB.row v e k rows).inv l S w) (h:Rel S' w (.lit (ZhX v lo k)) (a.eval x)) (hy:Rel S'' w (.int i) (a.eval y)) (h0:0≤i) (hl:(lo:Int)+i< (rows.length:Int)) (hx:X w):
 Does n P o a w (YC S X (.lit (YG v ((lo+i.toNat)*k))) w):=by
 obtain⟨l,hi⟩:=hi
 obtain⟨g,cap,us,cur,rfl,hc⟩:=Za7 hi oz
 have hcap:rows.length≤cap:=by
  obtain⟨us,⟨_,h3⟩,_⟩:=hi
  rcases h3 with⟨h4,_⟩ | ⟨g',cap',cur',h4,_,_,h5,_⟩
  · cases h4
  · injection h4 with e1 e2 e3;omega
 have hne:¬ cap=lo:=by omega
 have hsub:ZhX (.slice (some ⟨g,0,none⟩) rows.length cap) lo k= .slice (some ⟨g,lo*k,none⟩) (rows.length-lo) (cap-lo):=by
  simp only[ZhX,if_neg hne,Option.map_some,Zck]
  simp
 rw[hsub]at h
 have hi2:0≤i∧i< ((rows.length-lo:Nat):Int):=⟨h0,oz⟩
 refine Zr (v:=.pointer (some ⟨g,(lo+i.toNat)*k,none⟩)) ?_ (Rel.of_lit _) hx
 rw[Nat.add_mul]
 simp[execOp,hop,h.lit,hy.lit,Instr.indexAt,asIntOf,Sem.run_bind,run_underlying h1.1,h1.2 w,hi2.1,hi2.2,Zck]
theorem ZcC {rows:List (List CD)} {m:Nat} (hm:rows.length=m) {S':Nat→Prop} (h1:P.underlying t=some (.slice e)) (hop:o.op= .call { callee:=.builtin .len,args:= #[x],argTypes:= #[t] }) (hi:∃ lo,(OB.row v e k rows).inv lo S w) (h:Rel S' w (.lit v) (a.eval x)) (hx:X w):
 Does n P o a w (YC S X (.int m) w):=by
 subst hm
 obtain⟨lo,us,g1,_⟩:=hi
 refine Zr (v:=.int .i64 rows.length) ?_ (Rel.of_lit _) hx
 rcases g1.2 with⟨hv,h4⟩ | ⟨g,cap,cur,hv,_⟩
 · simp[execOp,hop,h.lit,hv,resolve,invoke,builtin,Builtin.len_,Sem.run_bind,run_underlying h1,goInt,h4]
 · simp[execOp,hop,h.lit,hv,resolve,invoke,builtin,Builtin.len_,Sem.run_bind,run_underlying h1,goInt]
end
section
variable {n:Rn} {P:Program} {S:Nat→Prop} {X:WP} {o:Oper} {a:Act} {w:World} {x y:Operand} {t e:TypeId}
theorem ZrO {cs:List CD} {c:CD} {z:Int} {k:Nat} (ht:P.underlying t=some (.array k e)) (h1:XA P e) (hs:∀ w,(sizeOf e).run P w= .ok 1 w) (hop:o.op= .index t x y) (h:Rel S w (.agg cs) (a.eval x)) (hy:Rel S w (.int z) (a.eval y)) (h0:0≤z) (hk:cs.length=k) (hc:cs[z.toNat]?=some c) (hx:X w):Does n P o a w (YC S X (.rd c) w):=by
 simp only[Rel]at h
 obtain⟨us,hv,hr⟩:=h
 have hlt:z.toNat<cs.length:=(List.getElem?_eq_some_iff.1 hc).1
 have hlu:z.toNat<us.length:=by rw[hr.length];exact hlt
 refine Zr (v:=us[z.toNat]) ?_ (by simp only[Rel];exact hr.get hc (List.getElem?_eq_getElem hlu)) hx
 have hz:z< (k:Int):=by omega
 simp[execOp,hop,hv,hy.lit,Instr.index,asIntOf,Sem.run_bind,run_underlying ht,h0,hz,hs w,part,h1 w,hlu]
end
theorem ZiZ {k:Nat} {place:Nat→Option (Nat×Nat)} (hp:∀ j,j<k→place j=some (j,1)):∀(ps:List (Nat×Value)) (cells:Array Value),cells.size=k→(∀ p∈ps,p.1<k∧p.2.oneCell'=true)→
 Instr.fill place cells ps=some (ps.foldl (fun c p=>c.setIfInBounds p.1 p.2) cells)
 | [],_,_,_=>by simp[Instr.fill]
 | (i,u)::ps,cells,hc,h1=>by
  obtain⟨h2,h3⟩:=h1 (i,u) yz
  have hcell:u.cells= #[u]:=by revert h3;cases u<;>simp[Value.cells,Value.oneCell']
  simp only[Instr.fill,hp i h2,hcell]
  rw[if_neg (by simp;omega)]
  have e:(Array.foldl (fun cs (x:Value×Nat)=>cs.setIfInBounds (i+x.snd) x.fst) cells #[u].zipIdx)=cells.setIfInBounds i u:=rfl
  rw[e,ZiZ hp ps _ (by simpa using hc) fun p hq=>h1 p (by simp[hq])]
  rfl
def ZdH (P:Program) (t:TypeId) (z:List Value):Prop:=∃ place:Nat→Option (Nat×Nat),(∀ j,j<z.length→place j=some (j,1))∧∀ parts,P.built t parts=Instr.fill place z.toArray parts
theorem Y7 {P:Program} {n:Rn} {S:Nat→Prop} {X:WP} {o:Oper} {a:Act} {w:World} {t:TypeId} {z:List Value} {parts:Array (Nat×Operand)} {ps:List (Nat×Value)} {us:List Value} {cs:List CD} (h1:ZdH P t z) (hop:o.op= .build t parts) (hp:(parts.map fun(i,x)=>(i,a.eval x)).toList=ps) (hq:∀ p∈ps,p.1<z.length∧p.2.oneCell'=true)
 (hu:ps.foldl (fun c p=>c.set p.1 p.2) z=us) (h:RdL S w cs us) (hx:X w):Does n P o a w (YC S X (.agg cs) w):=by
 obtain⟨place,hpl,hb⟩:=h1
 have hf:=ZiZ hpl ps z.toArray yz hq
 have hfold:∀(ps:List (Nat×Value)) (z:List Value),ps.foldl (fun c p=>c.setIfInBounds p.1 p.2) z.toArray=(ps.foldl (fun c p=>c.set p.1 p.2) z).toArray:=by
  intro ps
  induction ps with
  | nil=>intro z;rfl
  | cons p ps ih=>intro z;simp only[List.foldl_cons,List.setIfInBounds_toArray,ih]
 have hrun:=run_build (P:=P) w t (parts.map fun(i,x)=>(i,a.eval x)) us.toArray (by
  rw[hp,hb,hf,hfold,hu])
 refine Zr (v:=.agg us.toArray) ?_ (by simp only[Rel];exact⟨us,rfl,h⟩) hx
 rw[execOp,hop]
 simp only[Sem.run_bind]
 rw[hrun]
 rfl
theorem X1 {S:Nat→Prop} {w:World} {c:CD} {cs:List CD} {u:Value} {us:List Value} (h:Rd S w c u) (k:RdL S w cs us):RdL S w (c::cs) (u::us):=⟨h,k⟩
theorem Rel.oneC {S:Nat→Prop} {w:World} {c:CD} {u:Value} (h:Rel S w (.rd c) u):u.oneCell'=true:=by
 simp only[Rel]at h
 exact h.one
theorem ZnM {k i:Nat} {u:Value} {ps:List (Nat×Value)} (hi:i<k) (h:u.oneCell'=true) (hr:∀ p∈ps,p.1<k∧p.2.oneCell'=true):∀ p∈(i,u)::ps,p.1<k∧p.2.oneCell'=true:=by
 intro p hp
 rcases List.mem_cons.1 hp with rfl | hp
 · exact⟨hi,h⟩
 · exact hr p hp
theorem Zjr {k:Nat}:∀ p∈([]:List (Nat×Value)),p.1<k∧p.2.oneCell'=true:=by simp
theorem r_gtrS {P:Program} {n:Rn} {S:Nat→Prop} {X:WP} {o:Oper} {a:Act} {w:World} {t u:TypeId} {x y:Operand} {i j:BA} (hop:o.op= .binOp .gtr t x y u) (h1:Rel S w (.str i) (a.eval x)) (h2:Rel S w (.str j) (a.eval y)) (hx:X w):Does n P o a w (YC S X (.bool (!(Op.bytesLess i.toList j.toList||decide (i=j)))) w):=
 Zb0 True.intro (ZaT ..) (by simp only[binOp,Op.stringOp,QW];rfl) hop h1 h2 hx
section
variable {n:Rn} {N:Nat} {P:Program} {J X:WP} {S S' S'':Nat→Prop} {O:List OB} {w0:World} {env:List (Nat×AV)} {Q:Exit→Act→WP}
variable {o:Oper} {a:Act} {w:World} {x y:Operand} {t:TypeId} {b:Nat} {cs:List CD}
theorem Zay {fn:Func} {d m q u:Nat} {k:Nat} {cs':List CD} {r1 r2:AV} (hr:fn.results= #[.cell d t,.tmp u]) (h1:Xl P t k) (h:So J S w0 N (OB.var b cs::O) env a w) (he:env[m]?=some (d,.at b 0)) (hl:cs.length=k) (hE:cs=cs') (he2:env[q]?=some (u,r1)) (hE2:r1=r2):
 bodyPost P fn (fun e w'=>∃ v,e= .returned v∧Rel S w' (.tup [.agg cs',r2]) v∧Keeps All w0 w'∧J w') .ret a w:=by
 subst hE
 subst hE2
 obtain⟨h0,us,e,hb,hrd⟩:=h.x.2.1 (OB.var b cs) yz
 have hd:a.tmps.getD d undef= .pointer (some ⟨b,0,none⟩):=(h.get m he).lit
 have hrun:=Yr (P:=P) b 0 w us 0 #[] fun j u hj=>by rw[Nat.zero_add];simp[World.cell?,hb,hj]
 rw[show us.length=k by rw[hrd.length,hl]]at hrun
 have hd':a.tmps[d]?.getD undef= .pointer (some ⟨b,0,none⟩):=by rw[←Array.getD_eq_getD_getElem?];exact hd
 refine⟨h.defs,.tuple #[.agg us.toArray,a.tmps.getD u undef],by simp[results,hr,hd',asAddr,Sem.run_bind,loadVar,loadCells,h1.1 w,h1.2 w,hrun],_,rfl,?_,h.keep,h.x.1⟩
 have h2:=(h.get q he2).sub (T:=S) fun _ _ hk=>hk.1
 simp only[Rel,RelL]
 exact⟨_,rfl,_,_,rfl,⟨us,rfl,hrd.sub fun _ _ hk=>hk.1⟩,_,_,rfl,h2,rfl⟩
end
section
variable {N:Nat} {J:WP} {S:Nat→Prop} {O:List OB} {w0:World} {env:List (Nat×AV)} {a:Act} {w:World} {b:Nat} {cs cs':List CD}
theorem Zk9 {k:Nat} (h:SO S (OB.var b cs::O) k):SO S (OB.var b cs'::O) k:=⟨h.1,fun p hp=>by
 rcases List.mem_cons.1 hp with rfl | hp
 · exact h.2 (OB.var b cs) yz
 · exact h.2 p (by simp[hp])⟩
theorem Xn {v:Value} {e:TypeId} {size:Nat} {rows:List (List CD)} {j:Nat} (hS:∀ b,w0.heap.size≤b→S b) (hj:cs[j]?=some (.lit v)) (hc:cs'=cs.set j (.sl rows)) (h:So J S w0 N (OB.row v e size rows::OB.var b cs::O) env a w):
 So J S w0 N (OB.var b cs'::O) env a w:=by
 have h':=Zz h
 have hrow:=ZfW (v:=v) (e:=e) (size:=size) (rows:=rows) (ZcR hS h) (OB.sub (h.x.2.1 (OB.row v e size rows) yz) fun k _ hk=>hk.drop)
 refine⟨h'.defs,h'.size,h'.keep,⟨h'.x.1,fun p hp=>?_,?_⟩,fun p hp=>⟨(h'.env p hp).1,(h'.env p hp).2.sub fun _ _ hk=>Zk9 hk⟩⟩
 · rcases List.mem_cons.1 hp with rfl | hp
   · obtain⟨h0,us,e',hb,hr⟩:=h'.x.2.1 (OB.var b cs) yz
     refine⟨h0,us,e',hb,RdL.of_get (by rw[hc,List.length_set];exact hr.length) fun i c u h1 h2=>?_⟩
     rw[hc,List.getElem?_set]at h1
     split at h1
     · rename_i hij
       subst hij
       split at h1
       · cases h1
         obtain rfl:=(hr.get hj h2).of_lit
         simp only[Rel]at hrow
         exact hrow.sub fun _ _ hk=>Zk9 hk
       · cases h1
     · exact(hr.get h1 h2).sub fun _ _ hk=>Zk9 hk
   · exact OB.sub (h'.x.2.1 p (List.mem_cons_of_mem _ hp)) fun _ _ hk=>Zk9 hk
 · have:=List.pairwise_cons.1 h'.x.2.2
   exact List.pairwise_cons.2 ⟨fun p hp k h1 h2=>this.1 p hp k h1 h2,this.2⟩
end
theorem two_at {α:Type} {f:α→CD} {x y:α} {k:Nat} (h:k<2):([f x,f y]:List CD)[((k:Nat):Int).toNat]?=some (f (Zdt x y k)):=by
 match k,h with
 | 0,_=>rfl
 | 1,_=>rfl
set_option maxHeartbeats 8000000
set_option maxRecDepth 100000
section
variable {J:WP} (hJ:Stab J)
include hJ
theorem Zo9 (s:BA)  :Fn Tryz.prog J 152 [.str s] (.bool false):=by
 refine fE Tryz.func152 fun S w0 hS hJ0=>?_
 clear hJ0
 refine qs tb hJ [0] [_] [_] ?_
 refine qs tb hJ [1003] U4 [_] ?_
 exact tRn 0 (hE:=eB yz)
theorem ZuO (x y:BA)  :Fn Tryz.prog J 126 [.str x,.str y] (.int (ZaC x y)):=by
 refine fE Tryz.func126 fun S w0 hS hJ0=>?_
 clear hJ0
 refine qs tb hJ [0,1] [_] U2 ?_
 refine hqs tb hJ [0,1,1002] [_,.bool false,_] [1] U3 Y ⟨iFn hS hJ (Zo9 hJ x) Zmm,U⟩ ?_
 refine hqs tb hJ [0,1,2,1002] [_,.bool false,_] [1] U4 Y ⟨iFn hS hJ (Zo9 hJ y) Zmm,U⟩ ?_
 refine Zf (qs tb hJ [0,1,3,1000] [_] U4 ?_)
 refine cj 3 (fun hb1=>?_) fun hb1=>?_
 ·
  exact False.elim (by cases hb1)
 ·
  refine Zb (nx (Zf (qs tb hJ [0,1,1000] [_] U3 ?_)))
  refine cj 2 (fun hb3=>?_) fun hb3=>?_
  ·
   exact False.elim (by cases hb3)
  ·
   refine Zb (nx (Zf (qs tb hJ [0,1,1002] U3 U3 ?_)))
   refine cj 2 (fun hb4=>?_) fun hb4=>?_
   ·
    try simp at hb4
    refine qs tb hJ [1000] [_] [_] ?_
    exact tRn 0 (hE:=eI (by first | (simp_all[ZaC];done) | grind[ZaC]))
   ·
    try simp at hb4
    refine Zb (nx (Zf (hqs tb hJ [1002] [_,_,.bool (!(Op.bytesLess x.toList y.toList||decide (x=y)))] [2] [_] Y ⟨fun _ _ _ hx hl _=>r_gtrS Y (hl.D 0 17 Y Y) (hl.D 1 18 Y Y) hx,U⟩ ?_)))
    refine cj 0 (fun hb5=>?_) fun hb5=>?_
    ·
     try simp at hb5
     refine qs tb hJ [1000] [_] [_] ?_
     exact tRn 0 (hE:=eI (by first | (simp_all[ZaC];done) | grind[ZaC]))
    ·
     try simp at hb5
     refine Zb (nx (qs tb hJ [1000] [_] [_] ?_))
     exact tRn 0 (hE:=eI (by first | (simp_all[ZaC];done) | grind[ZaC]))
theorem p_OrI (l:List Int)  :Fn Tryz.prog J 44 [.rd (Z3 l)] (.int (orI l)):=by
 refine fE Tryz.func44 fun S w0 hS hJ0=>?_
 clear hJ0
 refine ln 0 fun hl1=>?_
 refine qs tb hJ [0] [_] [_] ?_
 refine qs tb hJ [0,1000] [_] U2 ?_
 refine Zf (hqs tb hJ [1,1000,1001,1002] [_,.int (l.length:Nat),_] [1] U4 Y ⟨Ym YL,U⟩ ?_)
 refine Zd (lp (ι:=Nat) (fun k=>(k≤l.length)∧(∀ j,j<k→ge l j=0)) (fun k=>[(8,.int (k:Nat))]) (fun k=>l.length-k) [0,1,2,3] U3 0 ⟨nzl,fun j hj=>by omega⟩ ?_)
 rintro k ⟨f1_1,f1_2⟩
 refine qs tb hJ [0,1,2,3,1000] [_] U5 ?_
 refine cjS 4 (fun hb1=>?_) fun hb1=>?_
 ·
  try simp at hb1
  refine Zb (nx (Zf (Zd (hqs tb hJ [0,1,2,3,1002] [.ptr [lI (ge l k)],_,_] [0] U5 Y ⟨iIx Zw,U⟩ ?_))))
  refine qs tb hJ (r5 [1002]) U3 U6 ?_
  refine cj 5 (fun hb2=>?_) fun hb2=>?_
  ·
   try simp at hb2
   refine qs tb hJ [1001] U2 [_] ?_
   exact tRn 0 (hE:=eI (by first | exact(Zpm hb1 f1_2 (by simpa using hb2)).symm | exact(ZuS fun j hj=>f1_2 j oz).symm))
  ·
   try simp at hb2
   refine Zb (nx (hqp tb hJ [0,1,2,1001] [.int (k+1:Nat),_] [0] U4 Y ⟨YT,U⟩ ?_))
   exact lpE (k+1) [0,1,2,3] ⟨oz,Z2 f1_2 (by simpa using hb2)⟩
 ·
  try simp at hb1
  refine Zu (nx (qs tb hJ [1001] U2 [_] ?_))
  exact tRn 0 (hE:=eI (by first | exact(Zpm hb1 f1_2 (by simpa using hb2)).symm | exact(ZuS fun j hj=>f1_2 j oz).symm))
theorem Zpc (p q:Pr)  :Fn Tryz.prog J 123 [.agg (prC p),.agg (prC q)] (.int (Zgp p q)):=by
 refine fE Tryz.func123 fun S w0 hS hJ0=>?_
 clear hJ0
 refine hqs tb hJ [1000,1001] [.ptr (prC p),.ptr (prC q),_] [0,1] U2 Y ⟨iBs hS hJ,iBs hS hJ,U⟩ ?_
 refine hqs tb hJ [1010,1012] (V4 [.int (ZaC p.a q.a),_,_,_,_,.int (ZaC p.b q.b),.rd (Z3 ([ZaC p.a q.a,ZaC p.b q.b]:List Int)),.int (orI ([ZaC p.a q.a,ZaC p.b q.b]:List Int)),_]) [4,9,10,11] U2 Y ⟨iFn hS hJ (ZuO hJ p.a q.a) ZcX,iFn hS hJ (ZuO hJ p.b q.b) ZcX,fun a _ hk hx hl _=>Zan (k:=2) (us:=[a.eval (.tmp 9),a.eval (.tmp 14)]) Zw Zec Y yz (Zt (hl.D 4 9 Y Y) (Zt (hl.D 9 14 Y Y) Z0)) Y dz dz (hS _ hk.size) (js hJ hx),iFn hS hJ (p_OrI hJ ([ZaC p.a q.a,ZaC p.b q.b]:List Int)) ZkC,U⟩ ?_
 refine ln 0 fun hl1=>?_
 exact tRn 1 (hE:=eI (ZqB p q))
end
end Go.Proofs.YtdfadihhfppjaaaGreatDoor
