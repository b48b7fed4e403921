/-
  Part of the proof that MinimizeChecks returns true. Conditions: none.
-/
import Derived.RecoverIn
import Derived.RangeFuncLeaves
import Derived.RangeFuncBound
import Derived.Test.YtdfadihhfppjaaaGreatDoorBEU
namespace Go.Proofs.YtdfadihhfppjaaaGreatDoor
set_option maxRecDepth 100000
set_option maxHeartbeats 8000000
open Go.Proofs.Tryz
open List (length_append length_take mem_cons)
section
open Go.RowKit
abbrev eY (v:Value):List PanicEntry:=[{ v,recovered:=false }]
def rh {ι κ:Type} (J:WP) (S:Nat->Prop) (w0:World) (R:List OB) (res:ι->AV) (O':ι->List OB) (pv:κ->Value) (jB:κ->List OB) (e:Ending) (w':World):Prop:=
 (∃ i v,e= .returned v/\Rel (SO S (O' i++R)) w' (res i) v/\Keeps All w0 w'/\XO J S w0.heap.size (O' i++R) w')∨
 (∃ k,e= .panicked (eY (pv k))/\Keeps All w0 w'/\XO J S w0.heap.size (jB k++R) w')
def nA (n:Rn) (P:Program) (o:Oper) (a:Act) (w:World) (post:Value->WP) (fl:List PanicEntry->WP):Prop:=
 ∀(K:Act->WP) (Q:Exit->Act->WP),(∀ v w',post v w'->K (a.put o.dst v) w')->(∀ ch w',fl ch w'->Q (.panic ch) a w')->o.wpIn n.F n.d P a w K Q
section
variable {n:Rn} {N:Nat} {P:Program} {J:WP} {S:Nat->Prop} {O:List OB} {w0:World} {env:List (Nat×AV)} {Q:Exit->Act->WP} {ι κ:Type}
variable {o:Oper} {a:Act} {w:World}
theorem L7 {post:Value->WP} {fl:List PanicEntry->WP} {f:FuncId} {args:Array Value} {w1:World} (hrun:(execOp a.eval o).run P w= .ok (.enter f args) w1) (hc:Calls P f args w1 λe w'=>(∃ v,e= .returned v/\post v w')∨(∃ ch,e= .panicked ch/\fl ch w')):nA n P o a w post fl:=
 λK Q hK hQ=>⟨λ_ _=>trivial,by
  show o.uponIn n.F n.d P a K Q ((o.semAt n.r a.eval).run P w)
  rw[xN hrun λ_ e=>(by cases e)]
  refine⟨λh=>(by cases h),(Dz (callsIn_wide.2 hc)).mono λe w' h=>?_⟩
  rcases h with⟨v,rfl,hv⟩ | ⟨ch,rfl,hv⟩
  ·exact hK _ _ hv
  ·exact hQ _ _ hv⟩
theorem VI {ops:Array Oper} {rest:List Oper} {d:Nat} {O2:ι->List OB} {av:ι->AV} {pv:κ->Value} {O3:κ->List OB} (hg:o.guard=none) (hd:o.dst=some d) (hN:d<N)
 (ob:∀ a w,So J S w0 N O env a w->nA n P o a w (λv w'=>∃ i,dc J S w0 O w (O2 i) w'/\Rel (SO S (O2 i)) w' (av i) v) (λch w'=>∃ k,ch=eY (pv k)/\dc J S w0 O w (O3 k) w'))
 (od:∀ k a w,So J S w0 N (O3 k) env a w->Q (.panic (eY (pv k))) a w)
 (next:∀ i a w,So J S w0 N (O2 i) ((d,av i)::dP d env) a w->wpListIn n.F n.d P ops Q rest a w):
 ∀ a w,So J S w0 N O env a w->wpListIn n.F n.d P ops Q (o::rest) a w:=λa w h=>by
 refine wpListIn_plain hg λK' hK=>ob a w h K' Q (λu w2 ⟨i,hs,hr⟩=>?_) λch w2 ⟨k,hc,hs⟩=>?_
 ·rw[hd]
  exact hK _ _ (next i _ _ (h.step hs hN hr))
 ·rw[hc]
  exact od k _ _ (h.step0 hs undef)
theorem sc {args:List AV} {vs:List Value} {T:Nat->Prop} {M:Nat} (hl:args.length<=N) (hM:M=N) (ha:bi T w args vs):
 (vs.toArray++Array.replicate (M-vs.toArray.size) undef).size=N/\∀ p∈jq 0 args,p.1<N/\Rel T w p.2 ((vs.toArray++Array.replicate (M-vs.toArray.size) undef).getD p.1 undef):=by
 have hlen:vs.length=args.length:=by
  clear hl
  induction args generalizing vs with
  | nil=>simp only[bi]at ha;subst ha;rfl
  | cons a l ih=>simp only[bi]at ha;obtain⟨u,us',rfl,_,h2⟩:=ha;simp[ih h2]
 refine⟨by simp;omega,?_⟩
 have key:∀(args:List AV) (us pre:List Value) (i:Nat),pre.length=i->vs=pre++us->bi T w args us->∀ p∈jq i args,p.1<N/\Rel T w p.2 ((vs.toArray++Array.replicate (M-vs.toArray.size) undef).getD p.1 undef):=by
  intro args
  induction args with
  | nil=>intro us pre i _ _ _ p hp;cases hp
  | cons x l ih=>
   intro us pre i hi hv hr p hp
   simp only[bi]at hr
   obtain⟨u,us',rfl,h1,h2⟩:=hr
   rcases mem_cons.1 hp with rfl | hp
   ·have hlt:i<vs.length:=by rw[hv];simp;omega
    refine⟨oz,?_⟩
    have:(vs.toArray++Array.replicate (M-vs.toArray.size) undef).getD i undef=u:=by
     rw[Array.getD_eq_getD_getElem?,Array.getElem?_append_left (by simpa using hlt)]
     simp[hv,<-hi]
    rw[this];exact h1
   ·exact ih us' (pre++[u]) (i+1) (by simp[hi]) (by simp[hv]) h2 p hp
 exact key args vs [] 0 rfl rfl ha
theorem Kq {fn:Func} {R R':Ending->WP} (h:bodyPost P fn R .ret a w) (hR:∀ e w',R e w'->R' e w'):bodyPost P fn R' .ret a w:=by
 obtain⟨h1,v,h2,h3⟩:=h
 exact⟨h1,v,h2,hR _ _ h3⟩
theorem ph {fn:Func} {R:List OB} {res:ι->AV} {O':ι->List OB} {pv:κ->Value} {jB:κ->List OB} (h:bodyPost P fn (λe w'=>∃ i v,e= .returned v/\Rel (SO S (O' i++R)) w' (res i) v/\Keeps All w0 w'/\XO J S w0.heap.size (O' i++R) w') .ret a w):bodyPost P fn (rh J S w0 R res O' pv jB) .ret a w:=
 Kq h λ_ _ hr=>.inl hr
theorem Hv {R:List OB} {res:ι->AV} {O':ι->List OB} {pv:κ->Value} {jB:κ->List OB} {v:Value} (k:κ) (hv:v=pv k):∀ a w,So J S w0 N (jB k++R) env a w->a.defers=[]/\rh J S w0 R res O' pv jB (.panicked (eY v)) w:=λa w h=>
 ⟨h.defs,.inr ⟨k,by rw[hv],h.keep,h.x⟩⟩
end

def It (P:Program) (l:Nat) (R:Ending->WP):Exit->Act->WP
 | .normal,_,w=>∃ v w',(Instr.endRound l none).run P w= .ok v w'/\R (.returned v) w'
 | .ret,_,w=>∃ v w',(Instr.endRound l (some .ret)).run P w= .ok v w'/\R (.returned v) w'
 | .panic ch,a,w=>a.defers=[]/\R (.panicked ch) w
 | _,_,_=>False
theorem UO {F:Fence} {n:Nat} {P:Program} {l:Nat} {f:FuncId} {tmps:Array Value} {assign body:Code} {w:World} {R:Ending->WP} (hF:F.fn f) (hfn:∃ fn,P.funcs[f]?=some fn)
 (h:assign.wpIn (F.inRound l) n P (Exit.then (λa₁ w₁=>∃ w₂,(Instr.beginRound l).run P w₁= .ok () w₂/\body.wpIn (F.inRound l) n P (It P l R) a₁ w₂) (λ_ _ _=>False))
  { tmps:=tmps,defers:=[] } w):
 RoundIn F n P l f tmps assign body w R:=by
 refine⟨hF,λc cs hr=>?_⟩
 let b:Frame:= { (default:Frame)with fn:=f,kind:=.normal,roundOf:=some l }
 have Ac:Frame.round l f tmps assign body .normal=b.atR { tmps:=tmps,defers:=[] } [.code assign,.beginRound,.code body]:=by
  simp[Frame.round,Frame.atR,b]
 have hr':(F.inRound l).room ((c::cs).length+1+n):=hr
 have hF':(F.inRound l).fn b.fn:=hF
 obtain⟨e,a₁,w₁,hq,harr⟩:=h b [.beginRound,.code body] (c::cs) rfl hF' hr'
 rw[<-Ac]at harr
 cases e with
 | normal=>
  obtain⟨w₂,OR,hbody⟩:=hq
  have s1:StepsIn (Machine.fenced P (F.inRound l)) P (lone (b.atR a₁ [.beginRound,.code body]) (c::cs) w₁) (lone (b.atR a₁ [.code body]) (c::cs) w₂):=
   .one (fenced_calm (fr:=b.atR a₁ [.beginRound,.code body]) hF' hr' rfl) (stepR_beginRound rfl OR)
  obtain⟨e₂,a₂,w₃,hq₂,harr₂⟩:=hbody b [] (c::cs) rfl hF' hr'
  cases e₂ with
  | normal=>
   obtain⟨v,w₄,hend,hR⟩:=hq₂
   exact⟨.returned v,w₄,hR,(StepsIn.trans harr s1).trans (StepsIn.trans harr₂ (.one (fenced_calm (fr:=b.atR a₂ []) hF' hr' rfl) (stepR_round_end rfl rfl hend)))⟩
  | panic ch=>
   obtain⟨hd,hR⟩:=hq₂
   obtain⟨todo,hs⟩:=harr₂
   have hl:({ b.atR a₂ todo with mode:=.panicking ch }:Frame).leaving P w₃ (.panicked ch):=⟨rfl,hd,hfn⟩
   exact⟨.panicked ch,w₃,hR,(StepsIn.trans harr s1).trans (StepsIn.trans hs (.one (fenced_leaving hF' hr' hl) (step_leave_panicked hl)))⟩
  | ret=>
   obtain⟨v,w₄,hend,hR⟩:=hq₂
   obtain⟨k₁,hs⟩:=harr₂.2 rfl
   exact⟨.returned v,w₄,hR,(StepsIn.trans harr s1).trans (StepsIn.trans hs (.one (fenced_calm (fr:=b.atR a₂ (.code .ret::k₁)) hF' hr' rfl) (stepR_round_ret rfl rfl hend)))⟩
  | exit id=>exact hq₂.elim
  | goto t=>exact hq₂.elim
  | outgrown=>exact hq₂.elim
 | exit id=>exact hq.elim
 | goto t=>exact hq.elim
 | ret=>exact hq.elim
 | panic chain=>exact hq.elim
 | outgrown=>exact hq.elim
end
section
open Go.RowKit
section
variable {J:WP} (V:aR J)
include V
theorem Br (l:List Bd)  :fc (ι:=Nat) prog J 132 [] [.rd (fq l)] [] (λi'=>.lit (.map (some (i')))) (λi'=>[OB.map aB (λz':List BA=>AV.rd (ai z')) (i') (az l)]):=by
 refine ji func132 λS w0 R hS hJ0 hH=>?_
 refine g5 (B:=So J S w0 31 (R) [(0,.rd (fq l))]) ?_ λa w h=>h
 refine ln 0 λ_=>?_
 refine au tb V [0] [.rd (.lit (.map none))] [0] [_] Y ⟨λ_ _ _ Z _ _=>gY Y (Rel.aH (.map none)) Z,U⟩ ?_
 refine aL (qR aB (λz':List BA=>AV.rd (ai z')) V Y Y Y (lb Y) λm1=>ao 1 tb Y (aA [0,2] U2 Y (nx (af (au tb V [0,1000,1001,1002] [_,.int (l.length:Nat),_] [1] U4 Y ⟨aC Jo,U⟩ ?_)))))
 refine ax (lpo (ι:=Nat×(List (BA×List BA))) (λ(k,bm)=>(k<=l.length)/\(bm=az (l.take k))) (λ(_,bm)=>(OB.map aB (λz':List BA=>AV.rd (ai z')) m1 bm::R)) (λ(k,_)=>[(11,.int (k:Nat))]) (λ(k,_)=>l.length-k) [0,1,2,3] U3 (0,([]:List (BA×List BA))) ⟨aI,Y⟩ ?_)
 rintro⟨k,bm⟩ ⟨aQ,ah⟩
 refine aj tb V [0,1,2,3,1000] [_] U5 ?_
 refine cE 4 ?_ ?_<;>intro hb1<;>try simp at hb1
 ·refine ak (nx (af (ax (aL (sy (.ptr (fj (G l k))) (λh=>cb (i:=(k:Int)) p6 Y (h.get 1 Y) (h.get 3 Y) bK (cl (xs:=l) (k:=k) ay) Y h.x) ?_)))))
  refine ao 1 tb Y (iX (cs:=fj (G l k)) W2 Y Y Y (lb Y) Y Y Y dz (m:=0) Y Y (λa w h=>aK hS _ h.keep h.x _ aV) (λa w h w' hk'=>fo V _ _ hk' h.x) (aA [0,3,4,5,6] U5 Y (nx (au tb V (r5 [1005,1007,1008]) (V3 [.bF [.rd (ai ((aw bm ((G l k).var)).getD default)),.bool ((aw bm ((G l k).var)).isSome)],_,_,_,_,_]) [3] U8 Y ⟨λ_ _ _ Z hl _=>mn (Kd:=aB) (f:=(λz':List BA=>AV.rd (ai z'))) (L:=bm) A1 yu ((G l k).var) Y (aG Z (mo 0 Y)) (hl.D 0 16 Y Y) (hl.D 2 18 Y Y) Z,U⟩ ?_))))
  refine ln 5 λ_=>?_
  refine aj tb V (r5 [1001]) U2 U6 ?_
  refine cj 5 ?_ ?_<;>intro hb2<;>try simp at hb2
  ·refine cC (ao 5 tb Y (B4 (f:=(λz':List BA=>AV.rd (ai z'))) A1 V hJ0 ((G l k).var) ((G l k).ac) Y Y (.inl Y) (λa w h=>⟨(h.get 4 Y),(h.get 2 Y),(h.get 0 Y)⟩) (aA [0,6,7,8,9] U5 Y (nx (ln 0 λhl3=>?_)))))
   refine aT tb V [1,2,3,1001] [.int (k+1:Nat),_] [0] U4 Y ⟨aM,U⟩ ?_
   exact br (k+1,cn bm ((G l k).var) ((G l k).ac)) [0,1,2,3] ⟨oz,by rw[Da oz,<-ah];simp[nI,hb2]⟩
  ·refine ak (nx (aT tb V [1,2,3,1001] [.int (k+1:Nat),_] [0] U4 Y ⟨aM,U⟩ ?_))
   exact br (k+1,bm) [0,1,2,3] ⟨oz,by rw[Da oz,<-ah];simp[nI,hb2]⟩
 ·refine aW (nx (aj tb V [1001] U2 [_] ?_))
  exact tw (jr (congrArg (λz'=>OB.map aB (λz':List BA=>AV.rd (ai z')) m1 (z')) (show bm=(az l)from by rw[ah,cS oz]))) (aX (λa w h=>dx  (m:=0) m1 Y h Y Y))
theorem uw (M:Nat) (bm:List (BA×List BA)) (s:BA)  :cD prog J 133 [OB.map aB (λz':List BA=>AV.rd (ai z')) M bm] [.lit (.map (some M)),.str s] (.rd (ai (bp bm s))):=by
 refine eV func133 λS w0 hS hJ0 hH=>?_
 clear hJ0
 refine qs tb V [0,1] [_] U2 ?_
 refine af (aJ tb V [1,1004,1006,1007] [_,_,.bF [.rd (ai ((aw bm s).getD default)),.bool ((aw bm s).isSome)],_,_,_,_,_] [2] U4 Y ⟨λ_ _ hk Z hl _=>mn (Kd:=aB) (f:=(λz':List BA=>AV.rd (ai z'))) (L:=bm) A1 yu s Y (f7 hH hk (mo 0 Y)) (hl.D 0 8 Y Y) (hl.D 1 9 Y Y) Z,U⟩ ?_)
 refine ln 1 λ_=>?_
 refine qs tb V [0,2,1000] [_] U3 ?_
 refine cj 2 ?_ ?_<;>intro hb1<;>try simp at hb1
 ·refine qs tb V [1001] U2 [_] ?_
  exact aU 0 (hE:=congrArg (λz=>AV.rd (ai z)) (show((aw bm s).getD default)=(bp bm s)from by cases h9:aw bm s<;>simp_all[bp]))
 ·refine ak (nx (aJ tb V [1001,1002] [_,.rd (ai ([s])),_] [1] U2 Y ⟨λ_ _ hk Z hl _=>fz bz j7 Y (hl.D 0 15 Y Y) (hS _ hk.size) (js V Z),U⟩ ?_))
  refine ln 0 λ_=>?_
  exact aU 1 (hE:=congrArg (λz=>AV.rd (ai z)) (show([s])=(bp bm s)from by cases h9:aw bm s<;>simp_all[bp]))
theorem S0 (M:Nat) (bm:List (BA×List BA)) (t:List BA) (hb:(bA bm t).length<=2000):cD prog J 134 [OB.map aB (λz':List BA=>AV.rd (ai z')) M bm] [.lit (.map (some M)),.rd (ai t)] (.rd (ai (bA bm t))):=by
 refine eV func134 λS w0 hS hJ0 hH=>?_
 refine tw cc (ln 1 λcr=>?_)
 refine aj tb V [0,1] [_] U2 ?_
 refine aj tb V [0,1,1000] [_] U3 ?_
 refine af (au tb V [0,2,1000,1001,1002] [_,.int (t.length:Nat),_] [1] U5 Y ⟨aC b7,U⟩ ?_)
 refine ax (tw (iJ 9 1 V) (lpo (ι:=Nat×Value×(List BA)) (λ(k,_,out)=>(k<=t.length)/\(out=bA bm (t.take k))) (λ(_,v,out)=>[OB.row v 9 1 (out.map dO)]) (λ(k,v,_)=>[(10,.int (k:Nat)),(5,.lit v)]) (λ(k,_,_)=>t.length-k) [0,2,3,4,1] U3 (0,(.slice none 0 0),([]:List BA)) ⟨aI,Y⟩ ?_))
 rintro⟨k,v,out⟩ ⟨aQ,ah⟩
 refine aj tb V (r5 [1000]) [_] U6 ?_
 refine cE 5 ?_ ?_<;>intro hb1<;>try simp at hb1
 ·refine ak (nx (af (ax (au tb V (r5 [1002]) [.ptr [lS (G t k)],_,_] [0] U6 Y ⟨bq bz,U⟩ ?_))))
  refine cC (ao 3 tb Y (sy (.rd (ai (bp bm (G t k)))) (λh=>dv (uw V M bm (G t k)) (cO func133) Y (aK hS _ h.keep h.x) (h.x.1) (dJ (dC hH h.keep h.x (mo 0 Y)) b8) (aq (h.get 1 Y) (aq (h.get 0 Y) aN)) (jo V h.x)) ?_))
  refine fN (f:=dO) (m:=3) (s:=14) out (bp bm (G t k)) (λ_=>Y) ke V hJ0 Y Y Y (lb Y) Y Y (λa w h=>(h.get 0 Y)) (by have h9:=pK bm t (k+1);rw[kd oz,length_append,<-ah]at h9;omega) (by have h9:=pK bm t (k+1);rw[kd oz,length_append,<-ah]at h9;omega) λv1=>ao 1 tb Y (aA [0,2,6,7,8,9] U6 Y (nx (ln 1 λhl2=>?_)))
  refine aT tb V [0,2,3,4,1001] [.int (k+1:Nat),_] [0] U5 Y ⟨aM,U⟩ ?_
  exact br (k+1,v1,out++(bp bm (G t k))) [1,2,3,4,0] ⟨oz,by rw[kd oz,<-ah]⟩
 ·refine aW (nx (aj tb V [1001] U2 [_] ?_))
  exact tw (λh=>dU hS h (m:=0) (s:=4) Y) (bH 0 (hE:=congrArg (λz=>AV.rd (ai z)) (show out=(bA bm t)from by rw[ah,cS oz])))
theorem Tw (l:List BA)  :fc (ι:=Nat) prog J 148 [] [.rd (ai l)] [] (λi'=>.lit (.map (some (i')))) (λi'=>[OB.set aB (i') (cZ l)]):=by
 refine ji func148 λS w0 R hS hJ0 hH=>?_
 refine g5 (B:=So J S w0 17 (R) [(0,.rd (ai l))]) ?_ λa w h=>h
 refine ln 0 λ_=>?_
 refine au tb V [0] [.rd (.lit (.map none))] [0] [_] Y ⟨λ_ _ _ Z _ _=>gY Y (Rel.aH (.map none)) Z,U⟩ ?_
 refine aL (qS aB V Y Y Y (lb Y) λm1=>ao 1 tb Y (aA [0,2] U2 Y (nx (af (au tb V [0,1000,1001,1002] [_,.int (l.length:Nat),_] [1] U4 Y ⟨aC b7,U⟩ ?_)))))
 refine ax (lpo (ι:=Nat×(List BA)) (λ(k,ys)=>(k<=l.length)/\(ys=cZ (l.take k))) (λ(_,ys)=>(OB.set aB m1 ys::R)) (λ(k,_)=>[(9,.int (k:Nat))]) (λ(k,_)=>l.length-k) [0,1,2,3] U3 (0,([]:List BA)) ⟨aI,Y⟩ ?_)
 rintro⟨k,ys⟩ ⟨aQ,ah⟩
 refine aj tb V [0,1,2,3,1000] [_] U5 ?_
 refine cE 4 ?_ ?_<;>intro hb1<;>try simp at hb1
 ·refine ak (nx (af (ax (au tb V [0,1,2,3,1002] [.ptr [lS (G l k)],_,_] [0] U5 Y ⟨bq bz,U⟩ ?_))))
  refine cC (ao 2 tb Y (sz w8 V hJ0 (G l k) Y Y (.inl Y) (λa w h=>⟨(h.get 1 Y),(h.get 0 Y),(Rel.aH (.bool true))⟩) (aA [2,3,4,5] U4 Y (nx (aT tb V [0,1,2,1001] [.int (k+1:Nat),_] [0] U4 Y ⟨aM,U⟩ ?_)))))
  exact br (k+1,cX ys (G l k)) [0,1,2,3] ⟨oz,by rw[QY oz,<-ah]⟩
 ·refine aW (nx (aj tb V [1001] U2 [_] ?_))
  exact tw (jr (congrArg (λz'=>OB.set aB m1 (z')) (show ys=(cZ l)from by rw[ah,cS oz]))) (aX (λa w h=>dx  (m:=0) m1 Y h Y Y))
theorem Hl (M:Nat) (vs t:List BA) (hb:t.length<=2000):cD prog J 149 [OB.set aB M vs] [.rd (ai t),.lit (.map (some M))] (.rd (ai (c9 t vs))):=by
 refine eV func149 λS w0 hS hJ0 hH=>?_
 refine tw cc (ln 0 λcr=>?_)
 refine aj tb V [0,1] [_] U2 ?_
 refine aj tb V [0,1,1000] [_] U3 ?_
 refine aL (qS aB V Y Y Y (lb Y) λm1=>ao 1 tb Y (aA [0,2,3,4] U4 Y (nx (af (au tb V [0,2,3,1000,1001,1002] [_,.int (t.length:Nat),_] [1] U6 Y ⟨aC b7,U⟩ ?_)))))
 refine ax (tw (iJ 9 1 V) (lpo (ι:=Nat×Value×(List BA)×(List BA)) (λ(k,_,out,ys)=>(k<=t.length)/\(out=c9 (t.take k) vs)/\(ys=out)/\(out.length<=k)) (λ(_,v,out,ys)=>[OB.row v 9 1 (out.map dO),OB.set aB m1 ys]) (λ(k,v,_,_)=>[(12,.int (k:Nat)),(5,.lit v)]) (λ(k,_,_,_)=>t.length-k) [0,1,3,4,5,2] U4 (0,(.slice none 0 0),([]:List BA),([]:List BA)) ⟨aI,Y,Y,Nat.le_refl _⟩ ?_))
 rintro⟨k,v,out,ys⟩ ⟨aQ,ah,bh,ic⟩
 refine aj tb V (r6 [1000]) [_] U7 ?_
 refine cE 6 ?_ ?_<;>intro hb1<;>try simp at hb1
 ·refine ak (nx (af (ax (au tb V (r6 [1002]) [.ptr [lS (G t k)],_,_] [0] U7 Y ⟨bq bz,U⟩ ?_))))
  refine au tb V (r7 [1008]) [_,_,.bool (decide ((G t k)∈vs)),_,_,_,.bool (decide ((G t k)∈ys)),_,_] [2,6] U8 Y ⟨λ_ _ hk Z hl _=>jL (Kd:=aB) (xs:=vs) w8 jQ (G t k) Y (dC hH hk Z (mo 0 Y)) (hl.D 0 16 Y Y) (hl.D 1 17 Y Y) Z,λ_ _ _ Z hl hc=>jL (Kd:=aB) (xs:=ys) w8 jQ (G t k) Y (aG Z (mo 1 Y)) (hl.D 4 20 Y hc) (hl.D 5 21 Y hc) Z,U⟩ ?_
  refine cj 7 ?_ ?_<;>intro hb2<;>try simp at hb2
  ·refine aL (ao 2 tb Y (kw bO (sz w8 V hJ0 (G t k) Y Y (.inl Y) (λa w h=>⟨(h.get 1 Y),(h.get 0 Y),(Rel.aH (.bool true))⟩) (aA [2,3,4,5,6,7,8] U7 Y (nx (cC (ao 2 tb Y (sy (.rd (ai ([(G t k)]))) (λh=>fz bz j7 Y (h.get 0 Y) (aK hS _ h.keep h.x _ aV) (jo V h.x)) ?_))))))))
   refine kw bO (fN (f:=dO) (m:=2) (s:=27) out ([(G t k)]) (λ_=>Y) ke V hJ0 Y Y Y (lb Y) Y Y (λa w h=>(h.get 0 Y)) ay ay λv2=>ao 1 tb Y (aA [0,2,5,6,7,8,9] U7 Y (nx (ln 1 λhl2=>?_))))
   refine aT tb V [0,2,3,4,5,1001] [.int (k+1:Nat),_] [0] U6 Y ⟨aM,U⟩ ?_
   exact br (k+1,v2,out++([(G t k)]),cX ys (G t k)) [1,2,3,4,5,0] ⟨oz,by rw[xi oz,<-ah];subst bh;simp_all[kH],by subst bh;simp_all[cX],by simp;omega⟩
  ·refine ak (nx (aT tb V [0,1,2,3,5,1001] [.int (k+1:Nat),_] [0] U6 Y ⟨aM,U⟩ ?_))
   exact br (k+1,v,out,ys) [0,1,2,3,5,4] ⟨oz,by rw[xi oz,<-ah];subst bh;simp[kH];grind,bh,oz⟩
 ·refine aW (nx (aj tb V [1001] U2 [_] ?_))
  exact tw (λh=>dU hS h (m:=0) (s:=4) Y) (bH 0 (hE:=congrArg (λz=>AV.rd (ai z)) (show out=(c9 t vs)from by rw[ah,cS oz])))
theorem SI (t:List BA) (l:List Bd) (x:List BA)  :Fn prog J 114 [.rd (ai t),.rd (fq l),.rd (ai x)] (.bool (lW t l x)):=by
 refine fE func114 λS w0 hS hJ0=>?_
 refine tw cc (ln 0 λcr=>?_)
 refine ln 1 λ_=>?_
 refine ln 2 λ_=>?_
 refine aj tb V [0,1,2] [_] U3 ?_
 refine Wo (aL (ao 1 tb Y (iI (O:=[]) (R:=[]) (Br V l) (cO func132) Y Y Y (lb Y) hS hJ0 b8 (λa w h=>(aq (h.get 0 Y) aN)) λz1=>ao 1 tb Y (aA [0,3,5] U3 Y (nx (aj tb V [0,1,2,1000] [_] U4 ?_))))))
 refine af (Wn (nx (af (au tb V [0,2,3,1000,1001,1002] [_,.int (t.length:Nat),_] [1] U6 Y ⟨aC b7,U⟩ ?_))))
 refine ax (lpo (ι:=Nat×Nat) (λ(k,p)=>(k<=t.length)/\(p<=x.length)/\(x.take p=bA (az l) (t.take k))) (λ(_,_)=>[OB.map aB (λz':List BA=>AV.rd (ai z')) z1 (az l)]) (λ(k,p)=>[(17,.int (k:Nat)),(8,.int (p:Nat))]) (λ(k,_)=>t.length-k) [0,1,3,4,5,2] U4 (0,0) ⟨aI,aI,Y⟩ ?_)
 rintro⟨k,p⟩ ⟨aQ,ah,bh⟩
 refine aj tb V (r6 [1000]) [_] U7 ?_
 refine cE 6 ?_ ?_<;>intro hb1<;>try simp at hb1
 ·refine ak (nx (af (ax (au tb V (r6 [1002]) [.ptr [lS (G t k)],_,_] [0] U7 Y ⟨bq bz,U⟩ ?_))))
  refine au tb V (r6 [1002,1003,1004]) [_,_,.rd (ai (bp (az l) (G t k))),.int ((bp (az l) (G t k)).length:Nat),_] [2,3] U9 Y ⟨λ_ _ hk Z hl _=>dv (uw V z1 (az l) (G t k)) (cO func133) Y (aK hS _ hk Z) (Z.1) (dJ (aG Z (mo 0 Y)) b8) (aq (hl.D 0 21 Y Y) (aq (hl.D 1 22 Y Y) aN)) (jo V Z),aC b7,U⟩ ?_
  refine ln 6 λ_=>?_
  refine ax (lpo (ι:=Nat×Nat) (λ(j,q)=>(j<=(bp (az l) (G t k)).length)/\(q<=x.length)/\(x.take q=bA (az l) (t.take k)++(bp (az l) (G t k)).take j)) (λ(_,_)=>[OB.map aB (λz':List BA=>AV.rd (ai z')) z1 (az l)]) (λ(j,q)=>[(25,.int (j:Nat)),(8,.int (q:Nat))]) (λ(j,_)=>(bp (az l) (G t k)).length-j) (r5 [6,7,8,5]) U7 (0,p) ⟨aI,ah,by simpa using bh⟩ ?_)
  rintro⟨j,q⟩ ⟨fD,bu,i5⟩
  refine aj tb V (r9 [1000]) [_] fp ?_
  refine cE 9 ?_ ?_<;>intro hb2<;>try simp at hb2
  ·refine ak (nx (af (ax (au tb V (r9 [1002]) [.ptr [lS (G (bp (az l) (G t k)) j)],_,_] [0] fp Y ⟨bq bz,U⟩ ?_))))
   refine af (au tb V (r9 [1011]) [_,_,.int (x.length:Nat),_,_,_,_,.ptr [lS (G x q)],_,_,_,_] [2,7] fp Y ⟨aC b7,cT bz (hk:=λ(aF:((decide ((q:Int)=(x.length:Int)))==false)=true)=>by(try simp at aF);first | omega | (simp;omega) | grind[aE]),U⟩ ?_)
   refine cj 9 ?_ ?_<;>intro aD<;>try simp at aD
   ·have e3:q=x.length∨ ¬ G x q=G (bp (az l) (G t k)) j:=by grind
    refine aj tb V [1,1000] [_] U2 ?_
    refine aW (nx (au tb V [1004] [_,_,.int (x.length:Nat),_,_] [2] [_] Y ⟨aC b7,U⟩ ?_))
    exact bH 0 (hE:=eB (by rw[lW,decide_eq_false oz,decide_eq_false (Nu oz hb2 i5 bu e3)]))
   ·have e3:q<x.length/\G x q=G (bp (az l) (G t k)) j:=by grind
    refine ak (nx (aT tb V (r8 [1002]) [_,.int (q+1:Nat),_] [1] U9 Y ⟨aM,U⟩ ?_))
    refine nx (aT tb V (r7 [8,1001]) [.int (j+1:Nat),_] [0] U9 Y ⟨aM,U⟩ ?_)
    exact br (j+1,q+1) (r7 [8,7]) ⟨oz,oz,by rw[dF e3.1,dF hb2,<-List.append_assoc,<-i5,e3.2]⟩
  ·refine aW (nx (aT tb V [0,1,2,3,8,1001] [.int (k+1:Nat),_] [0] U6 Y ⟨aM,U⟩ ?_))
   exact br (k+1,q) [0,1,2,3,5,4] ⟨oz,bu,by rw[kd oz,i5,cS (xs:=bp (az l) (G t k)) oz]⟩
 ·refine aW (nx (au tb V [1004] [_,_,.int (x.length:Nat),_,_] [2] [_] Y ⟨aC b7,U⟩ ?_))
  exact bH 0 (hE:=eB (by rw[lW,En (by rw[bh,cS oz]) ah]))
theorem G8 (t:List BA) (l:List Bd) (n:Nat) (hn:n<=2000) (hl:∀ b∈l,b.ac.length<=2000):Fn prog J 103 [.rd (ai t),.rd (fq l),.int (n:Nat)] (.bF [.rd (ai (if ca (az l) t n then bA (az l) t else [])),.int (if ca (az l) t n then 0 else 15)]):=by
 refine fE func103 λS w0 hS hJ0=>?_
 refine tw cc (ln 0 λcr=>?_)
 refine ln 1 λ_=>?_
 refine aj tb V [0,1,2] U2 U3 ?_
 refine af (aj tb V [0,1,2,1001] U2 U4 ?_)
 refine cj 3 ?_ ?_<;>intro hb1<;>try simp at hb1
 ·exact False.elim oz
 ·refine ak (nx (aL (ao 1 tb Y (iI (O:=[]) (R:=[]) (Br V l) (cO func132) Y Y Y (lb Y) hS hJ0 b8 (λa w h=>(aq (h.get 0 Y) aN)) λz1=>ao 1 tb Y (aA [0,3,5] U3 Y (nx (aj tb V [0,1,1001] U2 U3 ?_)))))))
  refine af (au tb V [0,1,2,1000,1001,1002] [_,.int (t.length:Nat),_] [1] U6 Y ⟨aC b7,U⟩ ?_)
  refine ax (lpo (ι:=Nat×Int) (λ(k,z)=>(k<=t.length)/\(z=(n:Int)-(bA (az l) (t.take k)).length)/\(0<=z)) (λ(_,_)=>[OB.map aB (λz':List BA=>AV.rd (ai z')) z1 (az l)]) (λ(k,z)=>[(19,.int (k:Nat)),(9,.int z)]) (λ(k,_)=>t.length-k) [0,1,3,4,5,2] U4 (0,(n:Int)) ⟨aI,by simp[bA],oz⟩ ?_)
  rintro⟨k,z⟩ ⟨aQ,ah,bh⟩
  refine aj tb V (r6 [1000]) [_] U7 ?_
  refine cE 6 ?_ ?_<;>intro hb2<;>try simp at hb2
  ·refine ak (nx (af (ax (au tb V (r6 [1002]) [.ptr [lS (G t k)],_,_] [0] U7 Y ⟨bq bz,U⟩ ?_))))
   refine au tb V (r5 [1003,1006]) (V3 [.rd (ai (bp (az l) (G t k))),.int ((bp (az l) (G t k)).length:Nat),.int (z-(((bp (az l) (G t k)).length:Nat):Int)),_]) [3,4,5] U7 Y ⟨λ_ _ hk Z hl _=>dv (uw V z1 (az l) (G t k)) (cO func133) Y (aK hS _ hk Z) (Z.1) (dJ (aG Z (mo 0 Y)) b8) (aq (hl.D 1 24 Y Y) (aq (hl.D 2 25 Y Y) aN)) (jo V Z),aC b7,md (h0:=by have:=qo (m:=2000) oz hl (G t k);omega),U⟩ ?_
   refine ln 5 λ_=>?_
   refine aj tb V (r5 [6,1001]) U2 U7 ?_
   refine cj 6 ?_ ?_<;>intro aD<;>try simp at aD
   ·have e3:ca (az l) t n=false:=by have h9:=pK (az l) t (k+1);rw[kd oz,length_append]at h9;simp only[ca,decide_eq_false_iff_not];omega
    refine aj tb V [1000,1001] U2 U2 ?_
    exact tw (λh=>gu h (m:=0) (s:=6) Y) (aX (λa w h=>di (m:=0) (k:=1) Y (dw h) Y Y (congrArg (λz=>AV.rd (ai z)) (show([]:List BA)=(if ca (az l) t n then bA (az l) t else [])from by simp[e3])) (eI (by simp[e3]))))
   ·refine ak (nx (aT tb V [0,1,2,3,5,1001] [.int (k+1:Nat),_] [0] U6 Y ⟨aM,U⟩ ?_))
    exact br (k+1,z-(((bp (az l) (G t k)).length:Nat):Int)) [0,1,2,3,5,4] ⟨oz,by rw[kd oz,length_append,ah];omega,oz⟩
  ·have e4:ca (az l) t n=true:=by rw[cS (xs:=t) oz]at ah;simp only[ca,decide_eq_true_eq];omega
   refine aW (nx (au tb V [1002,1003,1004] [_,_,.rd (ai (bA (az l) t)),_,_] [2] U3 Y ⟨λ_ _ hk Z hl _=>dv (S0 V z1 (az l) t (by simp only[ca,decide_eq_true_eq]at e4;omega)) (cO func134) Y (aK hS _ hk Z) (Z.1) (dJ (aG Z (mo 0 Y)) b8) (aq (hl.D 0 32 Y Y) (aq (hl.D 1 33 Y Y) aN)) (jo V Z),U⟩ ?_))
   refine ln 0 λ_=>?_
   exact aX (λa w h=>di (m:=1) (k:=2) Y (dw h) Y Y (congrArg (λz=>AV.rd (ai z)) (show(bA (az l) t)=(if ca (az l) t n then bA (az l) t else [])from by simp[e4])) (eI (by simp[e4])))
theorem Hn (x:Pr)  :Fn prog J 144 [.agg (aS x)] (.agg (aS (da x))):=by
 refine fE func144 λS w0 hS hJ0=>?_
 refine tw cc (aL (qQ (cs:=[lS x.a,lS x.b]) V Y Y Y (lb Y) (λa w h=>(h.get 0 Y)) λb1=>cx nw V Y Y Y (lb Y) λb2=>aA [0,1] U2 Y (nx (af (au tb V [0,1,1004] [.at b1 1,.str x.b,.at b1 0,.str x.a,_] [0,1,2,3] U3 Y ⟨λ_ _ _ Z hl _=>cy tz Y (hl.env 1 1 _ Y Y) Z,λa _ _ Z hl _=>cg fh Y (aG Z (mo 1 Y)) (hl.D 0 3 Y Y) Y Z,λ_ _ _ Z hl _=>cy tv Y (hl.env 1 1 _ Y Y) Z,λa _ _ Z hl _=>cg fh Y (aG Z (mo 1 Y)) (hl.D 2 5 Y Y) Y Z,U⟩ ?_)))))
 refine cj 2 ?_ ?_<;>intro hb1<;>try simp at hb1
 ·refine cC (sq (.at b1 1) Y Y (lb Y) (λ_ _ h=>cy tz Y (h.get 1 Y) h.x) (sy (.str x.b) (λh=>cg fh Y (aG h.x (mo 1 Y)) (h.get 0 Y) Y h.x) ?_))
  refine sy (.at b1 0) (λh=>cy tv Y (h.get 3 Y) h.x) ?_
  refine sy (.str x.a) (λh=>cg fh Y (aG h.x (mo 1 Y)) (h.get 0 Y) Y h.x) ?_
  refine sy (.at b1 0) (λh=>cy tv Y (h.get 5 Y) h.x) ?_
  refine kw bO (gI (b:=b1) (off:=0) (es:=U2) V hJ0 II Y Y Y (lb Y) Y (λa w h=>⟨(h.get 0 Y),(h.get 3 Y)⟩) (sy (.at b1 1) (λh=>cy tz Y (h.get 6 Y) h.x) ?_))
  refine gI (b:=b1) (off:=1) (es:=U2) V hJ0 II Y Y Y (lb Y) Y (λa w h=>⟨(h.get 0 Y),(h.get 2 Y)⟩) (aA [6,7] U2 Y (nx (aL (sy (.agg [lS x.b,lS x.a]) (λh=>fA (ds:=[lS x.b,lS x.a]) jE Y (aG h.x (mo 0 Y)) (h.get 1 Y) Y Y h.x) ?_))))
  refine kw bO (ce (b:=b2) (off:=0) (es:=U2) (news:=U2) V hJ0 j6 Y Y Y (lb Y) Y (λa w h=>⟨(h.get 1 Y),(h.get 0 Y)⟩) (aA [1] [_] Y (nx (aX (λa w h=>j0 (m:=0) Y jE h Y Y (show(_:List CD)=[lS ((da x).a),lS ((da x).b)]from by(simp[da,hb1])<;>rfl))))))
 ·refine ak (nx (aL (sy (.agg (aS x)) (λh=>fA (ds:=[lS x.a,lS x.b]) jE Y (aG h.x (mo 1 Y)) (h.get 1 Y) Y Y h.x) ?_)))
  refine ce (b:=b2) (off:=0) (es:=U2) (news:=U2) V hJ0 j6 Y Y Y (lb Y) Y (λa w h=>⟨(h.get 1 Y),(h.get 0 Y)⟩) (aA [1] [_] Y (nx (aX (λa w h=>j0 (m:=0) Y jE h Y Y (show(_:List CD)=[lS ((da x).a),lS ((da x).b)]from by(simp[da,hb1])<;>rfl)))))
end
end
section
open Go.RowKit
section
variable {n:Rn} {N:Nat} {P:Program} {J:WP} {S:Nat->Prop} {O:List OB} {w0:World} {env:List (Nat×AV)} {a:Act} {w:World} {o:Oper} {x y:Operand} {t e e2:TypeId} {lo:Nat} {Q:Exit->Act->WP} {ps:List (Value×List Int)}
theorem vR {k:Nat} (ht:dA P t e k) (V:aR J) (hop:o.op= .buildSlice t 0 #[]) (hk0:Keeps All w0 w) (Z:XO J S w0.heap.size O w):Does n P o a w λv' w'=>dc J S w0 O w (OB.row v' e k []::O) w':=by
 have hk:Keeps All w (w.alloc (.cells #[] e)):=(Keeps.refl _ _).alloc _
 refine en (v:=.slice (some ⟨w.heap.size,0,none⟩) 0 0) (w':=w.alloc (.cells #[] e)) ?_ (lh V hk0 Z hk (λb hb=>?_) ⟨[],World.ownsRow_made w #[] 0 hk0.size aI yz,trivial,λr hr=>by cases hr⟩)
 ·have:=BQ ht w
  rw[execOp,hop]
  simp only[List.map_toArray,List.map_nil,Sem.run_bind,this]
  rfl
 ·simp[OB.row,Value.ownBlock]at hb;omega
end
end
section
section
variable {n:Rn} {P:Program} {S:Nat->Prop} {X:WP} {o:Oper} {a:Act} {w:World} {t u:TypeId} {x y:Operand}
theorem qI {i j:Nat} (hop:o.op= .binOp .sub t x y u) (h1:Rel S w (.int (i:Int)) (a.eval x)) (h2:Rel S w (.int (j:Int)) (a.eval y)) (hl:j<=i) (hi:i<=9223372036854775807) (Z:X w):Does n P o a w (bG S X (.int ((i-j:Nat):Int)) w):=by
 rw[show((i-j:Nat):Int)=(i:Int)-(j:Int) by omega]
 exact BH hop h1 h2 oz oz Z
end
end
section
open Go.RowKit
section
variable {n:Rn} {N:Nat} {P:Program} {J:WP} {S:Nat->Prop} {O:List OB} {w0:World} {env:List (Nat×AV)} {Q:Exit->Act->WP}
theorem UQ {v:Value} {e:TypeId} {size:Nat} {rows:List (List CD)} {lo m:Nat} {T:Nat->Prop} {w:World} (hm:m<=rows.length) (h:(OB.row v e size rows).inv lo T w):(OB.row (dB v m) e size (rows.take m)).inv lo T w:=by
 obtain⟨us,⟨h0,h1⟩,h2,h3⟩:=h
 have hl:us.length=rows.length*size:=h0
 refine⟨us.take (m*size),⟨?_,?_⟩,?_,λr hr=>h3 r (List.mem_of_mem_take hr)⟩
 ·rw[length_take,length_take,hl,Nat.min_eq_left hm]
  exact Nat.min_eq_left (Nat.mul_le_mul_right _ hm)
 ·rw[length_take,Nat.min_eq_left hm]
  rcases h1 with⟨rfl,hz⟩ | ⟨g,cap,cur,rfl,hb,hg,er,dg,iP,ht⟩
  ·have:m=0:=by omega
   subst this
   exact .inl ⟨rfl,rfl⟩
  ·refine .inr ⟨g,cap,cur,rfl,hb,hg,Nat.le_trans hm er,dg,iP,?_⟩
   rw[<-ht,List.take_take,Nat.min_eq_left (Nat.mul_le_mul_right _ hm)]
 ·have hf:(rows.take m).flatten=rows.flatten.take (m*size):=by
   have key:∀(rows:List (List CD)) (m:Nat),(∀ r∈rows,r.length=size)->m<=rows.length->(rows.take m).flatten=rows.flatten.take (m*size):=by
    intro rows
    induction rows with
    | nil=>intro m _ hm;simp at hm;subst hm;simp
    | cons r rs ih=>
     intro m hr hm
     cases m with
     | zero=>simp
     | succ m=>
      have ql:=hr r yz
      simp only[List.take_succ_cons,List.flatten_cons]
      rw[ih m (λq hq=>hr q (by simp[hq])) (by simpa using hm)]
      have e1:(m+1)*size=r.length+m*size:=by rw[ql,Nat.succ_mul];omega
      rw[e1,List.take_length_add_append]
   exact key rows m h3 hm
  rw[hf]
  refine bE.kp (by rw[length_take,length_take,h2.length]) λi c u hc hu=>?_
  rw[List.getElem?_take]at hc hu
  split at hc
  ·rename_i hi
   rw[if_pos hi]at hu
   exact h2.get hc hu
  ·cases hc
theorem B6 {a:Act} {w:World} {v:Value} {e:TypeId} {size:Nat} {rows:List (List CD)} {m:Nat} (hm:m<=rows.length) (h:So J S w0 N (OB.row v e size rows::O) env a w):
 So J S w0 N (OB.row (dB v m) e size (rows.take m)::O) env a w:=by
 have hblk:∀ k,(OB.row (dB v m) e size (rows.take m)).blk k↔ (OB.row v e size rows).blk k:=λk=>by
  show(dB v m).ownBlock=some k↔v.ownBlock=some k
  cases v with
  | slice ad l c=>cases ad<;>exact Iff.rfl
  | _=>exact Iff.rfl
 have hs:∀ k,SO S (OB.row v e size rows::O) k->SO S (OB.row (dB v m) e size (rows.take m)::O) k:=λk hk=>⟨hk.1,λp hp=>by
  rcases mem_cons.1 hp with rfl | hp
  ·rw[hblk];exact hk.2 (OB.row v e size rows) yz
  ·exact hk.2 p (by simp[hp])⟩
 have jY:=List.pairwise_cons.1 h.x.2.2
 refine⟨h.defs,h.size,h.keep,⟨h.x.1,λp hp=>?_,.cons (λp hp k hk=>jY.1 p hp k ((hblk k).1 hk)) jY.2⟩,λp hp=>⟨(h.env p hp).1,(h.env p hp).2.sub λk _=>hs k⟩⟩
 rcases mem_cons.1 hp with rfl | hp
 ·exact OB.sub (UQ hm (h.x.2.1 (OB.row v e size rows) yz)) λk _=>hs k
 ·exact OB.sub (h.x.2.1 p (by simp[hp])) λk _=>hs k
end
section
variable {n:Rn} {N:Nat} {P:Program} {J X:WP} {S S' gK:Nat->Prop} {O:List OB} {w0:World} {env:List (Nat×AV)} {Q:Exit->Act->WP}
variable {o:Oper} {a:Act} {w:World} {x y:Operand} {t e:TypeId} {k:Nat} {v:Value} {rows:List (List CD)}
theorem BI {lo:Nat} {i:Int} (h1:dA P t e k) (hop:o.op= .indexAddr t x y) (hi:∃ l,(OB.row v e k rows).inv l S w) (h:Rel S' w (.lit (jN v lo k)) (a.eval x)) (hy:Rel gK w (.int i) (a.eval y)) (h0:0<=i) (hl:(lo:Int)+i< (rows.length:Int)) (Z:X w):
 Does n P o a w (bG S X (.lit (cG v ((lo+i.toNat)*k))) w):=by
 obtain⟨l,hi⟩:=hi
 obtain⟨g,cap,us,cur,rfl,hc⟩:=qJ hi oz
 have hcap:rows.length<=cap:=by
  obtain⟨us,⟨_,h3⟩,_⟩:=hi
  rcases h3 with⟨h4,_⟩ | ⟨g',cap',cur',h4,_,_,h5,_⟩
  ·cases h4
  ·injection h4 with e1 e2 e3;omega
 have hne:¬ cap=lo:=by omega
 have hsub:jN (.slice (some ⟨g,0,none⟩) rows.length cap) lo k= .slice (some ⟨g,lo*k,none⟩) (rows.length-lo) (cap-lo):=by
  simp only[jN,if_neg hne,Option.map_some,pH]
  simp
 rw[hsub]at h
 have nZ:0<=i/\i< ((rows.length-lo:Nat):Int):=⟨h0,oz⟩
 refine cN (v:=.pointer (some ⟨g,(lo+i.toNat)*k,none⟩)) ?_ (Rel.aH _) Z
 rw[Nat.add_mul]
 simp[execOp,hop,h.lit,hy.lit,Instr.indexAt,asIntOf,Sem.run_bind,run_underlying h1.1,h1.2 w,nZ.1,nZ.2,pH]
theorem pm {rows:List (List CD)} {m:Nat} (hm:rows.length=m) {S':Nat->Prop} (h1:P.underlying t=some (.slice e)) (hop:o.op= .call { callee:=.builtin .len,args:= #[x],argTypes:= #[t] }) (hi:∃ lo,(OB.row v e k rows).inv lo S w) (h:Rel S' w (.lit v) (a.eval x)) (Z:X w):
 Does n P o a w (bG S X (.int m) w):=by
 subst hm
 obtain⟨lo,us,g1,_⟩:=hi
 refine cN (v:=.int .i64 rows.length) ?_ (Rel.aH _) Z
 rcases g1.2 with⟨hv,h4⟩ | ⟨g,cap,cur,hv,_⟩
 ·simp[execOp,hop,h.lit,hv,resolve,invoke,builtin,Builtin.len_,Sem.run_bind,run_underlying h1,goInt,h4]
 ·simp[execOp,hop,h.lit,hv,resolve,invoke,builtin,Builtin.len_,Sem.run_bind,run_underlying h1,goInt]
end
section
variable {n:Rn} {P:Program} {S:Nat->Prop} {X:WP} {o:Oper} {a:Act} {w:World} {x y:Operand} {t e:TypeId}
theorem Uc {cs:List CD} {c:CD} {z:Int} {k:Nat} (ht:P.underlying t=some (.array k e)) (h1:eu P e) (hs:∀ w,(sizeOf e).run P w= .ok 1 w) (hop:o.op= .index t x y) (h:Rel S w (.agg cs) (a.eval x)) (hy:Rel S w (.int z) (a.eval y)) (h0:0<=z) (hk:cs.length=k) (hc:cs[z.toNat]?=some c) (Z:X w):Does n P o a w (bG S X (.rd c) w):=by
 simp only[Rel]at h
 obtain⟨us,hv,hr⟩:=h
 have hlt:z.toNat<cs.length:=(List.getElem?_eq_some_iff.1 hc).1
 have Fu:z.toNat<us.length:=by rw[hr.length];exact hlt
 refine cN (v:=us[z.toNat]) ?_ (by simp only[Rel];exact hr.get hc (List.getElem?_eq_getElem Fu)) Z
 have hz:z< (k:Int):=by omega
 simp[execOp,hop,hv,hy.lit,Instr.index,asIntOf,Sem.run_bind,run_underlying ht,h0,hz,hs w,part,h1 w,Fu]
end
theorem Ef {k:Nat} {place:Nat->Option (Nat×Nat)} (hp:∀ j,j<k->place j=some (j,1)):∀(ps:List (Nat×Value)) (cells:Array Value),cells.size=k->(∀ p∈ps,p.1<k/\p.2.oneCell'=true)->
 Instr.fill place cells ps=some (ps.foldl (λc p=>c.setIfInBounds p.1 p.2) cells)
 | [],_,_,_=>by simp[Instr.fill]
 | (i,u)::ps,cells,hc,h1=>by
  obtain⟨h2,h3⟩:=h1 (i,u) yz
  have hcell:u.cells= #[u]:=by revert h3;cases u<;>simp[Value.cells,Value.oneCell']
  simp only[Instr.fill,hp i h2,hcell]
  rw[if_neg (by simp;omega)]
  have e:(Array.foldl (λcs (x:Value×Nat)=>cs.setIfInBounds (i+x.snd) x.fst) cells #[u].zipIdx)=cells.setIfInBounds i u:=rfl
  rw[e,Ef hp ps _ (by simpa using hc) λp hq=>h1 p (by simp[hq])]
  rfl
def oy (P:Program) (t:TypeId) (z:List Value):Prop:=∃ place:Nat->Option (Nat×Nat),(∀ j,j<z.length->place j=some (j,1))/\∀ parts,P.built t parts=Instr.fill place z.toArray parts
theorem gr {P:Program} {n:Rn} {S:Nat->Prop} {X:WP} {o:Oper} {a:Act} {w:World} {t:TypeId} {z:List Value} {parts:Array (Nat×Operand)} {ps:List (Nat×Value)} {us:List Value} {cs:List CD} (h1:oy P t z) (hop:o.op= .build t parts) (hp:(parts.map λ(i,x)=>(i,a.eval x)).toList=ps) (hq:∀ p∈ps,p.1<z.length/\p.2.oneCell'=true)
 (hu:ps.foldl (λc p=>c.set p.1 p.2) z=us) (h:bE S w cs us) (Z:X w):Does n P o a w (bG S X (.agg cs) w):=by
 obtain⟨place,qk,hb⟩:=h1
 have hf:=Ef qk ps z.toArray yz hq
 have O7:∀(ps:List (Nat×Value)) (z:List Value),ps.foldl (λc p=>c.setIfInBounds p.1 p.2) z.toArray=(ps.foldl (λc p=>c.set p.1 p.2) z).toArray:=by
  intro ps
  induction ps with
  | nil=>intro z;rfl
  | cons p ps ih=>intro z;simp only[List.foldl_cons,List.setIfInBounds_toArray,ih]
 have hrun:=run_build (P:=P) w t (parts.map λ(i,x)=>(i,a.eval x)) us.toArray (by
  rw[hp,hb,hf,O7,hu])
 refine cN (v:=.agg us.toArray) ?_ (by simp only[Rel];exact⟨us,rfl,h⟩) Z
 rw[execOp,hop]
 simp only[Sem.run_bind]
 rw[hrun]
 rfl
theorem dT {S:Nat->Prop} {w:World} {c:CD} {cs:List CD} {u:Value} {us:List Value} (h:Rd S w c u) (k:bE S w cs us):bE S w (c::cs) (u::us):=⟨h,k⟩
theorem Rel.mi {S:Nat->Prop} {w:World} {c:CD} {u:Value} (h:Rel S w (.rd c) u):u.oneCell'=true:=by
 simp only[Rel]at h
 exact h.one
theorem kB {k i:Nat} {u:Value} {ps:List (Nat×Value)} (hi:i<k) (h:u.oneCell'=true) (hr:∀ p∈ps,p.1<k/\p.2.oneCell'=true):∀ p∈(i,u)::ps,p.1<k/\p.2.oneCell'=true:=by
 intro p hp
 rcases mem_cons.1 hp with rfl | hp
 ·exact⟨hi,h⟩
 ·exact hr p hp
theorem gn {k:Nat}:∀ p∈([]:List (Nat×Value)),p.1<k/\p.2.oneCell'=true:=by simp
theorem Ua {P:Program} {n:Rn} {S:Nat->Prop} {X:WP} {o:Oper} {a:Act} {w:World} {t u:TypeId} {x y:Operand} {i j:BA} (hop:o.op= .binOp .gtr t x y u) (h1:Rel S w (.str i) (a.eval x)) (h2:Rel S w (.str j) (a.eval y)) (Z:X w):Does n P o a w (bG S X (.bool (!(Op.bytesLess i.toList j.toList||decide (i=j)))) w):=
 j3 True.intro (rI ..) (by simp only[binOp,Op.stringOp,rn];rfl) hop h1 h2 Z
section
variable {n:Rn} {N:Nat} {P:Program} {J X:WP} {S S' gK:Nat->Prop} {O:List OB} {w0:World} {env:List (Nat×AV)} {Q:Exit->Act->WP}
variable {o:Oper} {a:Act} {w:World} {x y:Operand} {t:TypeId} {b:Nat} {cs:List CD}
theorem ja {fn:Func} {d m q u:Nat} {k:Nat} {cs':List CD} {r1 r2:AV} (hr:fn.results= #[.cell d t,.tmp u]) (h1:fY P t k) (h:So J S w0 N (OB.var b cs::O) env a w) (he:env[m]?=some (d,.at b 0)) (hl:cs.length=k) (hE:cs=cs') (k4:env[q]?=some (u,r1)) (nS:r1=r2):
 bodyPost P fn (λe w'=>∃ v,e= .returned v/\Rel S w' (.bF [.agg cs',r2]) v/\Keeps All w0 w'/\J w') .ret a w:=by
 subst hE
 subst nS
 obtain⟨h0,us,e,hb,hrd⟩:=h.x.2.1 (OB.var b cs) yz
 have hd:a.tmps.getD d undef= .pointer (some ⟨b,0,none⟩):=(h.get m he).lit
 have hrun:=mq (P:=P) b 0 w us 0 #[] λj u hj=>by rw[Nat.zero_add];simp[World.cell?,hb,hj]
 rw[show us.length=k by rw[hrd.length,hl]]at hrun
 have hd':a.tmps[d]?.getD undef= .pointer (some ⟨b,0,none⟩):=by rw[<-Array.getD_eq_getD_getElem?];exact hd
 refine⟨h.defs,.tuple #[.agg us.toArray,a.tmps.getD u undef],by simp[results,hr,hd',asAddr,Sem.run_bind,loadVar,loadCells,h1.1 w,h1.2 w,hrun],_,rfl,?_,h.keep,h.x.1⟩
 have h2:=(h.get q k4).sub (T:=S) λ_ _ hk=>hk.1
 simp only[Rel,bi]
 exact⟨_,rfl,_,_,rfl,⟨us,rfl,hrd.sub λ_ _ hk=>hk.1⟩,_,_,rfl,h2,rfl⟩
end
section
variable {N:Nat} {J:WP} {S:Nat->Prop} {O:List OB} {w0:World} {env:List (Nat×AV)} {a:Act} {w:World} {b:Nat} {cs cs':List CD}
theorem xX {k:Nat} (h:SO S (OB.var b cs::O) k):SO S (OB.var b cs'::O) k:=⟨h.1,λp hp=>by
 rcases mem_cons.1 hp with rfl | hp
 ·exact h.2 (OB.var b cs) yz
 ·exact h.2 p (by simp[hp])⟩
theorem mu {v:Value} {e:TypeId} {size:Nat} {rows:List (List CD)} {j:Nat} (hS:∀ b,w0.heap.size<=b->S b) (hj:cs[j]?=some (.lit v)) (hc:cs'=cs.set j (.sl rows)) (h:So J S w0 N (OB.row v e size rows::OB.var b cs::O) env a w):
 So J S w0 N (OB.var b cs'::O) env a w:=by
 have h':=cK h
 have hrow:=qK (v:=v) (e:=e) (size:=size) (rows:=rows) (vY hS h) (OB.sub (h.x.2.1 (OB.row v e size rows) yz) λk _ hk=>hk.drop)
 refine⟨h'.defs,h'.size,h'.keep,⟨h'.x.1,λp hp=>?_,?_⟩,λp hp=>⟨(h'.env p hp).1,(h'.env p hp).2.sub λ_ _ hk=>xX hk⟩⟩
 ·rcases mem_cons.1 hp with rfl | hp
  ·obtain⟨h0,us,e',hb,hr⟩:=h'.x.2.1 (OB.var b cs) yz
   refine⟨h0,us,e',hb,bE.kp (by rw[hc,List.length_set];exact hr.length) λi c u h1 h2=>?_⟩
   rw[hc,List.getElem?_set]at h1
   split at h1
   ·rename_i gR
    subst gR
    split at h1
    ·cases h1
     obtain rfl:=(hr.get hj h2).aH
     simp only[Rel]at hrow
     exact hrow.sub λ_ _ hk=>xX hk
    ·cases h1
   ·exact(hr.get h1 h2).sub λ_ _ hk=>xX hk
  ·exact OB.sub (h'.x.2.1 p (List.mem_cons_of_mem _ hp)) λ_ _ hk=>xX hk
 ·have:=List.pairwise_cons.1 h'.x.2.2
  exact List.pairwise_cons.2 ⟨λp hp k h1 h2=>this.1 p hp k h1 h2,this.2⟩
end
theorem Wu {α:Type} {f:α->CD} {x y:α} {k:Nat} (h:k<2):([f x,f y]:List CD)[((k:Nat):Int).toNat]?=some (f (fX x y k)):=by
 match k,h with
 | 0,_=>rfl
 | 1,_=>rfl
section
variable {J:WP} (V:aR J)
include V
theorem Hj (s:BA)  :Fn prog J 152 [.str s] (.bool false):=by
 refine fE func152 λS w0 hS hJ0=>?_
 clear hJ0
 refine qs tb V [0] [_] [_] ?_
 refine qs tb V [1003] U4 [_] ?_
 exact aU 0 (hE:=eB yz)
theorem Hc (x y:BA)  :Fn prog J 126 [.str x,.str y] (.int (dS x y)):=by
 refine fE func126 λS w0 hS hJ0=>?_
 clear hJ0
 refine qs tb V [0,1] [_] U2 ?_
 refine aJ tb V [0,1,1002] [_,.bool false,_] [1] U3 Y ⟨dh hS V (Hj V x) (cO func152),U⟩ ?_
 refine aJ tb V [0,1,2,1002] [_,.bool false,_] [1] U4 Y ⟨dh hS V (Hj V y) (cO func152),U⟩ ?_
 refine af (qs tb V [0,1,3,1000] [_] U4 ?_)
 refine cj 3 ?_ ?_<;>intro hb1
 ·exact False.elim (by cases hb1)
 ·refine ak (nx (af (qs tb V [0,1,1000] [_] U3 ?_)))
  refine cj 2 ?_ ?_<;>intro aD
  ·exact False.elim (by cases aD)
  ·refine ak (nx (af (qs tb V [0,1,1002] U3 U3 ?_)))
   refine cj 2 ?_ ?_<;>intro bd<;>try simp at bd
   ·refine qs tb V [1000] [_] [_] ?_
    exact aU 0 (hE:=eI (by first | (simp_all[dS];done) | grind[dS]))
   ·refine ak (nx (af (aJ tb V [1002] [_,_,.bool (!(Op.bytesLess x.toList y.toList||decide (x=y)))] [2] [_] Y ⟨λ_ _ _ Z hl _=>Ua Y (hl.D 0 17 Y Y) (hl.D 1 18 Y Y) Z,U⟩ ?_)))
    refine cj 0 ?_ ?_<;>intro bW<;>try simp at bW
    ·refine qs tb V [1000] [_] [_] ?_
     exact aU 0 (hE:=eI (by first | (simp_all[dS];done) | grind[dS]))
    ·refine ak (nx (qs tb V [1000] [_] [_] ?_))
     exact aU 0 (hE:=eI (by first | (simp_all[dS];done) | grind[dS]))
theorem SU (l:List Int)  :Fn prog J 44 [.rd (bQ l)] (.int (k9 l)):=by
 refine fE func44 λS w0 hS hJ0=>?_
 clear hJ0
 refine ln 0 λ_=>?_
 refine qs tb V [0] [_] [_] ?_
 refine qs tb V [0,1000] [_] U2 ?_
 refine af (aJ tb V [1,1000,1001,1002] [_,.int (l.length:Nat),_] [1] U4 Y ⟨aC fb,U⟩ ?_)
 refine ax (lp (ι:=Nat) (λk=>(k<=l.length)/\(∀ j,j<k->G l j=0)) (λk=>[(8,.int (k:Nat))]) (λk=>l.length-k) [0,1,2,3] U3 0 ⟨aI,λj hj=>by omega⟩ ?_)
 rintro k ⟨aQ,ah⟩
 refine qs tb V [0,1,2,3,1000] [_] U5 ?_
 refine cE 4 ?_ ?_<;>intro hb1<;>try simp at hb1
 ·refine ak (nx (af (ax (aJ tb V [0,1,2,3,1002] [.ptr [lI (G l k)],_,_] [0] U5 Y ⟨bq c8,U⟩ ?_))))
  refine qs tb V (r5 [1002]) U3 U6 ?_
  refine cj 5 ?_ ?_<;>intro hb2<;>try simp at hb2
  ·refine qs tb V [1001] U2 [_] ?_
   exact aU 0 (hE:=eI (by first | exact(GU hb1 ah (by simpa using hb2)).symm | exact(GV λj hj=>ah j oz).symm))
  ·refine ak (nx (dK tb V [0,1,2,1001] [.int (k+1:Nat),_] [0] U4 Y ⟨aM,U⟩ ?_))
   exact dM (k+1) [0,1,2,3] ⟨oz,cB ah (by simpa using hb2)⟩
 ·refine aW (nx (qs tb V [1001] U2 [_] ?_))
  exact aU 0 (hE:=eI (by first | exact(GU hb1 ah (by simpa using hb2)).symm | exact(GV λj hj=>ah j oz).symm))
theorem Tb (p q:Pr)  :Fn prog J 123 [.agg (aS p),.agg (aS q)] (.int (iL p q)):=by
 refine fE func123 λS w0 hS hJ0=>?_
 clear hJ0
 refine aJ tb V [1000,1001] [.ptr (aS p),.ptr (aS q),_] [0,1] U2 Y ⟨d9 hS V,d9 hS V,U⟩ ?_
 refine aJ tb V [1010,1012] (V4 [.int (dS p.a q.a),_,_,_,_,.int (dS p.b q.b),.rd (bQ ([dS p.a q.a,dS p.b q.b]:List Int)),.int (k9 ([dS p.a q.a,dS p.b q.b]:List Int)),_]) [4,9,10,11] U2 Y ⟨dh hS V (Hc V p.a q.a) (cO func126),dh hS V (Hc V p.b q.b) (cO func126),λa _ hk Z hl _=>qF (k:=2) (us:=[a.eval (.tmp 9),a.eval (.tmp 14)]) c8 JF Y yz (b6 (hl.D 4 9 Y Y) (b6 (hl.D 9 14 Y Y) cM)) Y dz dz (hS _ hk.size) (js V Z),dh hS V (SU V ([dS p.a q.a,dS p.b q.b]:List Int)) (cO func44),U⟩ ?_
 refine ln 0 λ_=>aU 1 (hE:=eI (DL p q))
end
end
end Go.Proofs.YtdfadihhfppjaaaGreatDoor
