/-
  Part of the proof that MinimizeChecks returns true. Conditions: none.
-/
import Derived.Test.YtdfadihhfppjaaaGreatDoorBEAB
namespace Go.Proofs.YtdfadihhfppjaaaGreatDoor
set_option maxRecDepth 100000
set_option maxHeartbeats 8000000
open Go.Proofs.Tryz
open List (all_eq_true foldl_cons length_append length_cons length_map length_take map_id map_set map_take mem_append_left mem_append_right mem_cons mem_cons_of_mem mem_map mem_singleton nodup_cons take_length)
section
open Go.RowKit
theorem xm:eu prog 77:=nO
theorem RO:eu prog 169:=nO
theorem NV:db prog 92 5 7:=fO
theorem RQ:eu prog 90:=nO
theorem xa:j8 prog 90 9 3 aB.kind:=⟨by kernel_rfl,by kernel_rfl⟩
theorem Cq:oB prog 3 (.int default):=⟨(.int .i64 0),λw=>by kernel_rfl,λS w=>(show Rel S w (.int 0) _ from Rel.aH _)⟩
theorem GQ:eu prog 33:=nO
theorem WR:gm prog 158 [.lit (.map none)]:=⟨(.map none),λw=>by kernel_rfl,λS w=>(show bE S w [.lit (.map none)] [.map none]from⟨.lit _ True.intro,U⟩)⟩
theorem Vs:dV prog 158 1:=zO
theorem WU:gm prog 29 [.lit (.slice none 0 0)]:=⟨(.slice none 0 0),λw=>by kernel_rfl,λS w=>(show bE S w [.lit (.slice none 0 0)] [.slice none 0 0]from⟨.lit _ True.intro,U⟩)⟩
theorem WV:gm prog 33 [.lit .nilFunc]:=⟨(.nilFunc),λw=>by kernel_rfl,λS w=>(show bE S w [.lit .nilFunc] [.nilFunc]from⟨.lit _ True.intro,U⟩)⟩
theorem Vv:dV prog 33 1:=zO
abbrev fa (x0 x1 y1 x2 y2 x3 y3 x4 x5 x6:Nat):Value:=.func (.func 102) #[] #[.pointer (some ⟨x0,0,none⟩),.pointer (some ⟨x1,y1,none⟩),.pointer (some ⟨x2,y2,none⟩),.pointer (some ⟨x3,y3,none⟩),.pointer (some ⟨x4,0,none⟩),.pointer (some ⟨x5,0,none⟩),.pointer (some ⟨x6,0,none⟩)]
section
variable {J:WP} (V:aR J)
include V
theorem Hr {S:Nat->Prop} {w0:World} (hS:∀ b,w0.heap.size<=b->S b) (hJ0:J w0) {l:Nat} {κ μ σ:Type} {I:List (List Int)->κ->List OB} {pv:μ->Value} {O3:μ->List OB} {O4:σ->List OB} (bb mb:Nat) (bf of:Nat) (bj oj:Nat) (bs os:Nat) (ba bY bt:Nat) (d:Db) (i:Nat) (ss:List Stp) (ts:List (List BA)) (M:Nat) (mm:List (BA×Int)) (gf:Fr) (step:Nat) (va:Value) (xs:List (List Int)) (q:Nat) (Mb:BM) (al:List Int) (hH:Has [OB.mI M mm] S w0) (hY:yB prog J S w0 l (λx9=>[.rd (bQ x9)]) (xs) I pv O3 O4) (dE:List (List Int)) (k0:κ) (hT:lQ (⟨d,i,ss,ts,mm⟩:Jb) gf step) (hq:al.length=q) (wP:q<=gf.aa.length) (k3:∀ x∈al,0<=x/\x< (step:Int)) (hM:fS gf.aa Mb) (hp:dE++(ep (⟨d,i,ss,ts,mm⟩:Jb) gf step q Mb al).1<+:xs) (ih:∀(pre':List (List Int)) (k':κ) (ov:Value) (M':BM) (al':List Int),al'.length=(q+1)->(q+1)<=gf.aa.length->(∀ x'∈al',0<=x'/\x'< (step:Int))->fS gf.aa M'->pre'++(ep (⟨d,i,ss,ts,mm⟩:Jb) gf step (q+1) M' al').1<+:xs->rc (ι:= { q':List (List Int)×κ×Value×BM // q'.1=pre'++(ep (⟨d,i,ss,ts,mm⟩:Jb) gf step (q+1) M' al').1/\q'.2.2.2=(ep (⟨d,i,ss,ts,mm⟩:Jb) gf step (q+1) M' al').2 } ⊕ { q':σ×Value×List Int×BM // (q+1)<=q'.2.2.1.length }) prog J S w0 102 [.at bb 0,.at bf of,.at bj oj,.at bs os,.at ba 0,.at bY 0,.at bt 0] (OB.var bb [.lit (.map (some mb))]::OB.map aB cJ mb (M')::OB.pt bf of (a8 gf)::OB.pt bj oj [.ptr (jC d i ss ts M)]::OB.pt bs os [lI (step:Int)]::OB.var ba [.lit (ov)]::OB.row ov 3 1 ((al').map bT)::OB.var bY [.lit (.func (.yield l) #[] #[])]::OB.var bt [.lit (fa bb bf of bj oj bs os ba bY bt)]::I (pre') k') (λi'=>.bool i'.isLeft) (pD (λz'=>OB.var bb [.lit (.map (some mb))]::OB.map aB cJ mb (z'.1.2.2.2)::OB.pt bf of (a8 gf)::OB.pt bj oj [.ptr (jC d i ss ts M)]::OB.pt bs os [lI (step:Int)]::OB.var ba [.lit (z'.1.2.2.1)]::OB.row z'.1.2.2.1 3 1 ((al').map bT)::OB.var bY [.lit (.func (.yield l) #[] #[])]::OB.var bt [.lit (fa bb bf of bj oj bs os ba bY bt)]::I z'.1.1 z'.1.2.1) λs'=>OB.var bb [.lit (.map (some mb))]::OB.map aB cJ mb (s'.1.2.2.2)::OB.pt bf of (a8 gf)::OB.pt bj oj [.ptr (jC d i ss ts M)]::OB.pt bs os [lI (step:Int)]::OB.var ba [.lit (s'.1.2.1)]::OB.row s'.1.2.1 3 1 ((s'.1.2.2.1).map bT)::OB.var bY [.lit (.func (.yield l) #[] #[])]::OB.var bt [.lit (fa bb bf of bj oj bs os ba bY bt)]::O4 s'.1.1) pv O3):rc (ι:= { q':List (List Int)×κ×Value×BM // q'.1=dE++(ep (⟨d,i,ss,ts,mm⟩:Jb) gf step q Mb al).1/\q'.2.2.2=(ep (⟨d,i,ss,ts,mm⟩:Jb) gf step q Mb al).2 } ⊕ { q':σ×Value×List Int×BM // q<=q'.2.2.1.length }) prog J S w0 102 [.at bb 0,.at bf of,.at bj oj,.at bs os,.at ba 0,.at bY 0,.at bt 0] (OB.var bb [.lit (.map (some mb))]::OB.map aB cJ mb Mb::OB.pt bf of (a8 gf)::OB.pt bj oj [.ptr (jC d i ss ts M)]::OB.pt bs os [lI (step:Int)]::OB.var ba [.lit va]::OB.row va 3 1 (al.map bT)::OB.var bY [.lit (.func (.yield l) #[] #[])]::OB.var bt [.lit (fa bb bf of bj oj bs os ba bY bt)]::I dE k0) (λi'=>.bool i'.isLeft) (pD (λz'=>OB.var bb [.lit (.map (some mb))]::OB.map aB cJ mb (z'.1.2.2.2)::OB.pt bf of (a8 gf)::OB.pt bj oj [.ptr (jC d i ss ts M)]::OB.pt bs os [lI (step:Int)]::OB.var ba [.lit (z'.1.2.2.1)]::OB.row z'.1.2.2.1 3 1 (al.map bT)::OB.var bY [.lit (.func (.yield l) #[] #[])]::OB.var bt [.lit (fa bb bf of bj oj bs os ba bY bt)]::I z'.1.1 z'.1.2.1) λs'=>OB.var bb [.lit (.map (some mb))]::OB.map aB cJ mb (s'.1.2.2.2)::OB.pt bf of (a8 gf)::OB.pt bj oj [.ptr (jC d i ss ts M)]::OB.pt bs os [lI (step:Int)]::OB.var ba [.lit (s'.1.2.1)]::OB.row s'.1.2.1 3 1 ((s'.1.2.2.1).map bT)::OB.var bY [.lit (.func (.yield l) #[] #[])]::OB.var bt [.lit (fa bb bf of bj oj bs os ba bY bt)]::O4 s'.1.1) pv O3:=by
 have _:=hS
 refine N3 (N:=162) func102 Y Y (lb Y) λR=>g5 (B:=So J S w0 162 (OB.var bb [.lit (.map (some mb))]::OB.map aB cJ mb Mb::OB.pt bf of (a8 gf)::OB.pt bj oj [.ptr (jC d i ss ts M)]::OB.pt bs os [lI (step:Int)]::OB.var ba [.lit va]::OB.row va 3 1 (al.map bT)::OB.var bY [.lit (.func (.yield l) #[] #[])]::OB.var bt [.lit (fa bb bf of bj oj bs os ba bY bt)]::(I dE k0++R)) [(0,.at bb 0),(1,.at bf of),(2,.at bj oj),(3,.at bs os),(4,.at ba 0),(5,.at bY 0),(6,.at bt 0)]) ?_ λa w h=>h
 refine tw (uN (i:=2) (m:=1) Y Y) (tw (uN (i:=3) (m:=2) Y Y) (tw (uN (i:=4) (m:=3) Y Y) ?_))
 have hst:step<ts.length:=hT.st
 have wH:=hT.gh
 refine aj tb V (r7 []) [_] U7 ?_
 refine af (au tb V (r7 [1003,1007,1010,1015]) [.lit (.map (some mb)),_,_,_,_,_,_,_,_,.ptr [ai (G ts step)],_,.bF [.bool ((ci gf.aa Mb gf.ac (G ts step)).1),.bool ((ci gf.aa Mb gf.ac (G ts step)).2)],_,_,_,_,_] [0,9,11] lm Y ⟨λ_ _ _ Z hl _=>cg sg Y (aG Z (mo 0 Y)) (hl.env 3 0 _ Y Y) Y Z,bq eG,λ_ _ hk Z hl _=>dv (Bq V mb Mb gf gf.ac (G ts step) (by exact hT.fl)) (cO func94) Y (aK hS _ hk Z) (Z.1) (dJ (aG Z (mo 1 Y)) b8) (aq (hl.D 0 22 Y Y) (aq (hl.D 1 23 Y Y) (aq (hl.D 3 25 Y Y) (aq (hl.D 10 32 Y Y) aN)))) (jo V Z),U⟩ ?_)
 refine ln 7 λ_=>?_
 refine ln 8 λ_=>?_
 refine ln 9 λ_=>?_
 refine aj tb V (r7 [1001]) U2 U8 ?_
 refine cj 7 ?_ ?_<;>intro hb1<;>try simp at hb1
 ·refine aj tb V [1000] [_] [_] ?_
  exact aX (λa w h=>ph (dx (m:=0) (.inl ⟨(dE,k0,va,Mb),by first | exact uT (j:=(⟨d,i,ss,ts,mm⟩:Jb)) (pre:=dE) hb1 | exact uR (j:=(⟨d,i,ss,ts,mm⟩:Jb)) (pre:=dE) hb1 oz hG | exact sF (j:=(⟨d,i,ss,ts,mm⟩:Jb)) (pre:=dE) hb1 oz hG | exact uS (j:=(⟨d,i,ss,ts,mm⟩:Jb)) (pre:=dE) hb1 oz (uL aD bd bW) | exact uQ (j:=(⟨d,i,ss,ts,mm⟩:Jb)) (pre:=dE) hb1 oz rD oz ah bh⟩) Y h Y Y))
 ·refine ak (nx (af (aT tb V (r7 [1002]) [.lit va,.int (al.length:Nat),_] [0,1] U8 Y ⟨λ_ _ _ Z hl _=>cg iV Y (aG Z (mo 5 Y)) (hl.env 4 4 _ Y Y) Y Z,λ_ _ _ Z hl _=>pm (by rw[length_map]) fb Y (aG Z (mo 6 Y)) (hl.D 0 38 Y Y) Z,U⟩ ?_)))
  refine kw (sa 7 Y (congrArg AV.int (show(al.length:Int)=(q:Int)from by omega))) (nx (af (au tb V (r8 [1002,1004]) (V3 [.int (gf.aa.length:Nat),_]) [3] fp Y ⟨aC cW,U⟩ ?_)))
  refine ln 8 λ_=>?_
  refine cj 9 ?_ ?_<;>intro hb2<;>try simp at hb2
  ·refine af ?_
   have hgv:=Hh V d i ss ts M gf al step (by exact hT.fl) hT.hi (λt h'=>(hT.ts t h').1) (λj h'=>by have h8:=k3 _ (aE h');exact⟨h8.1,oz⟩) oz hT.st hT.gh (λh h'=>(hT.tx h h').2) hT.wd
   have dl:=Bn V al (by have:=hT.gh;omega)
   rcases hG:fF (⟨d,i,ss,ts,[]⟩:Jb) gf al step with _ | _
   ·rw[hG]at hgv
    refine λa w h=>Ik pv (λq=>O3 q++([OB.var bb [.lit (.map (some mb))],OB.map aB cJ mb Mb,OB.pt bf of (a8 gf),OB.pt bj oj [.ptr (jC d i ss ts M)],OB.pt bs os [lI (step:Int)],OB.var ba [.lit va],OB.row va 3 1 (al.map bT),OB.var bY [.lit (.func (.yield l) #[] #[])],OB.var bt [.lit (fa bb bf of bj oj bs os ba bY bt)]]++R)) [OB.var bb [.lit (.map (some mb))],OB.map aB cJ mb Mb,OB.pt bf of (a8 gf),OB.pt bj oj [.ptr (jC d i ss ts M)],OB.pt bs os [lI (step:Int)],OB.var ba [.lit va],OB.row va 3 1 (al.map bT),OB.var bY [.lit (.func (.yield l) #[] #[])],OB.var bt [.lit (fa bb bf of bj oj bs os ba bY bt)]] (γ:=Unit) (λix'=>([.ptr (jC d i ss ts M),.agg (a8 gf),.lit va,.int (step:Nat),.bool false,.bool (!false),.bool (!false),.any,.lit va,.any,.any,.bool true,.bool true]:List AV).getD ix' .any) (λix'=>([true,true,true,true,true,true,true,(!false==false),(!false==false),(!false==false),(!false==false),true,true]:List Bool).getD ix' true) [(7,λ(_:Unit)=>.bool true)] (λ(_:List Bool) (_:Unit)=>[OB.var bb [.lit (.map (some mb))],OB.map aB cJ mb Mb,OB.pt bf of (a8 gf),OB.pt bj oj [.ptr (jC d i ss ts M)],OB.pt bs os [lI (step:Int)],OB.var ba [.lit va],OB.row va 3 1 (al.map bT),OB.var bY [.lit (.func (.yield l) #[] #[])],OB.var bt [.lit (fa bb bf of bj oj bs os ba bY bt)]]++(I dE k0++R)) (λ_ _=>undef) [] () (λ_=>Y) h V cU Y Y Y Y (λb g p hp=>mem_append_left _ hp) ⟨?Rz,?RA,?RE,?RF,?RG,?RH,?RI,?RJ,?RK,?RL,?RB,?RC,?RD,U⟩ trivial ⟨.new 12 7 _,U⟩ (λq=>Jv [OB.var bb [.lit (.map (some mb))],OB.map aB cJ mb Mb,OB.pt bf of (a8 gf),OB.pt bj oj [.ptr (jC d i ss ts M)],OB.pt bs os [lI (step:Int)],OB.var ba [.lit va],OB.row va 3 1 (al.map bT),OB.var bY [.lit (.func (.yield l) #[] #[])],OB.var bt [.lit (fa bb bf of bj oj bs os ba bY bt)]] q) ?nf
    case Rz=>exact λ_ O' _=>⟨Y,λ_ _ _ Z hl _=>qH xm Y (hl.env 1 2 _ Y Y) Z⟩
    case RA=>exact λ_ O' _=>⟨Y,λ_ _ _ Z hl _=>j4 pI Y (hl.env 2 1 _ Y Y) aV Z⟩
    case RE=>exact λ_ O' cf=>⟨Y,λ_ _ _ Z hl _=>cg iV Y (aG Z (cf _ (mo 5 Y))) (hl.env 4 4 _ Y Y) Y Z⟩
    case RF=>exact λ_ O' _=>⟨Y,λ_ _ _ Z hl _=>bU gd Y (hl.env 0 3 _ Y Y) Z⟩
    case RG=>exact λ_ O' cf=>⟨Y,λ_ _ hk Z hl _=>HW hgv (cO func68) Y hS V hk Z (aq ((hl.D 0 45 Y Y).sub λ_ _ h'=>h'.1) (aq ((hl.D 1 46 Y Y).sub λ_ _ h'=>h'.1) (aq (kI hS Z (cf _ (mo 6 Y)) (hl.D 2 47 Y Y)) (aq ((hl.D 3 48 Y Y).sub λ_ _ h'=>h'.1) aN))))⟩
    case RH=>exact λ_ O' _=>⟨Y,λ_ _ _ Z hl _=>BF Y (hl.D 4 49 Y Y) Z⟩
    case RI=>exact λ_ O' _=>⟨Y,λ_ _ _ Z hl _=>b9 Y (hl.D 5 50 Y Y) Z⟩
    case RJ=>exact λ_ O' _=>⟨⟨_,_,_,Y,Y,Y,Y,Y⟩,λ_ _ _ _ _ hc=>by cases hc⟩
    case RK=>exact λ_ O' cf=>⟨⟨_,_,_,Y,Y,Y,Y,Y⟩,λ_ _ _ Z hl _=>cg iV Y (aG Z (cf _ (mo 5 Y))) (hl.env 4 4 _ Y Y) Y Z⟩
    case RL=>exact λ_ O' _=>⟨⟨_,_,_,Y,Y,Y,Y,Y⟩,λ_ _ _ _ _ hc=>by cases hc⟩
    case RB=>exact λ_ O' _=>⟨⟨_,_,_,Y,Y,Y,Y,Y⟩,λ_ _ _ _ _ hc=>by cases hc⟩
    case RC=>exact λ_ O' _=>⟨Y,λ_ _ _ Z hl _=>BG (b:=false) Y (hl.D 6 51 Y Y) (λhg=>by cases hg) Z⟩
    case RD=>exact λ_ O' _=>⟨Y,λ_ _ _ Z hl _=>gY Y (hl.D 11 56 Y Y) Z⟩
    clear a w h
    rintro _
    dsimp only[List.map]
    exact nx (aX (λa w h=>ph (dx (m:=0) (.inl ⟨(dE,k0,va,Mb),by first | exact uT (j:=(⟨d,i,ss,ts,mm⟩:Jb)) (pre:=dE) hb1 | exact uR (j:=(⟨d,i,ss,ts,mm⟩:Jb)) (pre:=dE) hb1 oz hG | exact sF (j:=(⟨d,i,ss,ts,mm⟩:Jb)) (pre:=dE) hb1 oz hG | exact uS (j:=(⟨d,i,ss,ts,mm⟩:Jb)) (pre:=dE) hb1 oz (uL aD bd bW) | exact uQ (j:=(⟨d,i,ss,ts,mm⟩:Jb)) (pre:=dE) hb1 oz rD oz ah bh⟩) Y h Y Y)))
   ·rw[hG]at hgv
    refine λa w h=>Ik pv (λq=>O3 q++([OB.var bb [.lit (.map (some mb))],OB.map aB cJ mb Mb,OB.pt bf of (a8 gf),OB.pt bj oj [.ptr (jC d i ss ts M)],OB.pt bs os [lI (step:Int)],OB.var ba [.lit va],OB.row va 3 1 (al.map bT),OB.var bY [.lit (.func (.yield l) #[] #[])],OB.var bt [.lit (fa bb bf of bj oj bs os ba bY bt)]]++R)) [OB.var bb [.lit (.map (some mb))],OB.map aB cJ mb Mb,OB.pt bf of (a8 gf),OB.pt bj oj [.ptr (jC d i ss ts M)],OB.pt bs os [lI (step:Int)],OB.var ba [.lit va],OB.row va 3 1 (al.map bT),OB.var bY [.lit (.func (.yield l) #[] #[])],OB.var bt [.lit (fa bb bf of bj oj bs os ba bY bt)]] (γ:=κ ⊕ σ) (λix'=>([.ptr (jC d i ss ts M),.agg (a8 gf),.lit va,.int (step:Nat),.bool true,.bool (!true),.bool (!true),.rd (.lit (.func (.yield l) #[] #[])),.lit va,.rd (bQ al),.any,.any,.any]:List AV).getD ix' .any) (λix'=>([true,true,true,true,true,true,true,(!true==false),(!true==false),(!true==false),(!true==false),true,true]:List Bool).getD ix' true) [(7,λg=>.bool g.isLeft)] (λ(b:List Bool) (g:κ ⊕ σ)=>[OB.var bb [.lit (.map (some mb))],OB.map aB cJ mb Mb,OB.pt bf of (a8 gf),OB.pt bj oj [.ptr (jC d i ss ts M)],OB.pt bs os [lI (step:Int)],OB.var ba [.lit va],OB.row va 3 1 (al.map bT),OB.var bY [.lit (.func (.yield l) #[] #[])],OB.var bt [.lit (fa bb bf of bj oj bs os ba bY bt)]]++(bif b.getD 0 false then g.elim (λz=>I (dE++[al]) z++R) (λs=>O4 s++R)else(I dE k0++R))) (λk' g=>match k' with | 0=>.bool g.isLeft | 1=>.bool g.isLeft | 2=>.bool g.isLeft | _=>undef) [10,11,12] (.inl k0) (λ_=>Y) h V cU Y Y Y Y (λb g p hp=>mem_append_left _ hp) ⟨?RW,?RX,?R1,?R2,?R3,?R4,?R5,?R6,?R7,?R8,?RY,?RZ,?R0,U⟩ ⟨?MZ,?M0,?M6,U⟩ ⟨.d6 2 12 7 (λ(g:κ ⊕ σ)=>.bool g.isLeft) Y Y (λ_=>Y) (λ_=>True.intro),U⟩ (λq=>Jv [OB.var bb [.lit (.map (some mb))],OB.map aB cJ mb Mb,OB.pt bf of (a8 gf),OB.pt bj oj [.ptr (jC d i ss ts M)],OB.pt bs os [lI (step:Int)],OB.var ba [.lit va],OB.row va 3 1 (al.map bT),OB.var bY [.lit (.func (.yield l) #[] #[])],OB.var bt [.lit (fa bb bf of bj oj bs os ba bY bt)]] q) ?nt
    case RW=>exact λ_ O' _=>⟨Y,λ_ _ _ Z hl _=>qH xm Y (hl.env 1 2 _ Y Y) Z⟩
    case RX=>exact λ_ O' _=>⟨Y,λ_ _ _ Z hl _=>j4 pI Y (hl.env 2 1 _ Y Y) aV Z⟩
    case R1=>exact λ_ O' cf=>⟨Y,λ_ _ _ Z hl _=>cg iV Y (aG Z (cf _ (mo 5 Y))) (hl.env 4 4 _ Y Y) Y Z⟩
    case R2=>exact λ_ O' _=>⟨Y,λ_ _ _ Z hl _=>bU gd Y (hl.env 0 3 _ Y Y) Z⟩
    case R3=>exact λ_ O' cf=>⟨Y,λ_ _ hk Z hl _=>HW hgv (cO func68) Y hS V hk Z (aq ((hl.D 0 45 Y Y).sub λ_ _ h'=>h'.1) (aq ((hl.D 1 46 Y Y).sub λ_ _ h'=>h'.1) (aq (kI hS Z (cf _ (mo 6 Y)) (hl.D 2 47 Y Y)) (aq ((hl.D 3 48 Y Y).sub λ_ _ h'=>h'.1) aN))))⟩
    case R4=>exact λ_ O' _=>⟨Y,λ_ _ _ Z hl _=>BF Y (hl.D 4 49 Y Y) Z⟩
    case R5=>exact λ_ O' _=>⟨Y,λ_ _ _ Z hl _=>b9 Y (hl.D 5 50 Y Y) Z⟩
    case R6=>exact λ_ O' cf=>⟨⟨_,_,_,Y,Y,Y,Y,Y⟩,λ_ _ _ Z hl _=>cg RO Y (aG Z (cf _ (mo 7 Y))) (hl.env 5 5 _ Y Y) Y Z⟩
    case R7=>exact λ_ O' cf=>⟨⟨_,_,_,Y,Y,Y,Y,Y⟩,λ_ _ _ Z hl _=>cg iV Y (aG Z (cf _ (mo 5 Y))) (hl.env 4 4 _ Y Y) Y Z⟩
    case R8=>exact λ_ O' cf=>⟨⟨_,_,_,Y,Y,Y,Y,Y⟩,λ_ _ hk Z hl _=>T5 dl (cO func35) Y hS V hk Z (aq (kI hS Z (cf _ (mo 6 Y)) (hl.D 8 53 Y Y)) aN)⟩
    case RY=>exact bC Y
    case RZ=>exact bC Y
    case R0=>exact bC Y
    case MZ=>exact zp [[false,false,false]] yq Y Y ⟨_,_,_,Y,Y,Y,Y,Y⟩ Y ⟨λg a w hk Z hl hs=>D3 (L2 (I':=λz=>I (dE++[al]) z) (O:=I dE k0) (R:=R) (bv:=[.rd (bQ al)]) (xs:=[.tmp 54]) [OB.var bb [.lit (.map (some mb))],OB.map aB cJ mb Mb,OB.pt bf of (a8 gf),OB.pt bj oj [.ptr (jC d i ss ts M)],OB.pt bs os [lI (step:Int)],OB.var ba [.lit va],OB.row va 3 1 (al.map bT),OB.var bY [.lit (.func (.yield l) #[] #[])],OB.var bt [.lit (fa bb bf of bj oj bs os ba bY bt)]] Y Y hk Z (hl.D 7 52 Y Y).lit (aq (hl.D 9 54 Y Y) aN) (λm' R' w1 vs hk Z hv=>hY m' R' dE al k0 w1 vs (by rw[(sF (j:=(⟨d,i,ss,ts,mm⟩:Jb)) (pre:=dE) (k:=q) hb1 oz hG).1];exact hp) hk Z hv)) (λv w' ⟨g',e',hs'⟩=>⟨g',dZ,λ_=>e',True.intro,hs'⟩) (λc w' hc=>hc),U⟩
    case M0=>exact zp [[true,false,false]] yq Y Y Y Y ⟨λg a w hk Z hl hs=>(bD (BG (b:=g.isLeft) Y (hl.D 6 51 Y Y) (λ_=>by rw[hs 0 10 _ 55 Y Y Y Y];exact Rel.aH _) Z) λv w' hp=>⟨g,λ_ _=>rfl,λ_=>hp.1.lit,True.intro,qV V hk Z hp.2.1⟩).toP,U⟩
    case M6=>exact zp [[true,true,false]] yq Y Y Y Y ⟨λg a w hk Z hl hs=>(bD (gY (S:=S) (av:=.bool g.isLeft) Y (by rw[hs 1 11 _ 56 Y Y Y Y];exact Rel.aH _) Z) λv w' hp=>⟨g,λ_ _=>rfl,λ_=>hp.1.lit,True.intro,qV V hk Z hp.2.1⟩).toP,U⟩
    clear a w h
    rintro(z9 | s9)
    ·dsimp only[List.map]
     exact nx (aX (λa w h=>ph (dx (m:=0) (.inl ⟨((dE++[al]),z9,va,Mb),by first | exact uT (j:=(⟨d,i,ss,ts,mm⟩:Jb)) (pre:=dE) hb1 | exact uR (j:=(⟨d,i,ss,ts,mm⟩:Jb)) (pre:=dE) hb1 oz hG | exact sF (j:=(⟨d,i,ss,ts,mm⟩:Jb)) (pre:=dE) hb1 oz hG | exact uS (j:=(⟨d,i,ss,ts,mm⟩:Jb)) (pre:=dE) hb1 oz (uL aD bd bW) | exact uQ (j:=(⟨d,i,ss,ts,mm⟩:Jb)) (pre:=dE) hb1 oz rD oz ah bh⟩) Y h Y Y)))
    ·dsimp only[List.map]
     exact nx (aX (λa w h=>ph (dx (m:=0) (.inr ⟨(s9,va,al,Mb),by first | exact Nat.le_of_eq hq.symm | (simp only[length_take];omega)⟩) Y h Y Y)))
  ·have e2:q<gf.aa.length:=by omega
   refine ak (nx (aL (ao 3 tb (env':=[(59,_),(58,_),(57,_),(3,_),(2,_),(1,_),(0,_),(4,_),(5,_),(6,_),(10,_),(42,_),(44,_)]) Y (sy (.ptr (aP (G gf.aa q))) (λh=>cb (i:=(q:Int)) cL Y (h.get 1 Y) (h.get 0 Y) bK (cl (xs:=gf.aa) (k:=q) ay) Y h.x) ?_))))
   refine ao 1 tb (env':=[(61,_),(60,_),(59,_),(58,_),(57,_),(3,_),(2,_),(1,_),(0,_),(4,_),(5,_),(6,_),(10,_),(42,_),(44,_)]) Y (iX (cs:=aP (G gf.aa q)) sJ Y Y Y (lb Y) Y Y Y dz (m:=0) Y Y (λa w h=>aK hS _ h.keep h.x _ aV) (λa w h w' hk'=>fo V _ _ hk' h.x) (aA [0,6,7,8,9,10,12,13] U8 Y (nx (aj tb V (r8 [1001,1002]) U3 fp ?_))))
   refine af (aj tb V (ml [1002]) U3 lm ?_)
   refine FW (ι:=Nat×Nat) (λ(sA,sB)=>(je (⟨d,i,ss,ts,mm⟩:Jb) gf.aa step (G gf.aa q) Mb=(sA,sB))/\(sA<=sB)/\(sB<=step)) (λ(_,_)=>(OB.var bb [.lit (.map (some mb))]::OB.map aB cJ mb Mb::OB.pt bf of (a8 gf)::OB.pt bj oj [.ptr (jC d i ss ts M)]::OB.pt bs os [lI (step:Int)]::OB.var ba [.lit va]::OB.row va 3 1 (al.map bT)::OB.var bY [.lit (.func (.yield l) #[] #[])]::OB.var bt [.lit (fa bb bf of bj oj bs os ba bY bt)]::(I dE k0++R))) (λ(sA,sB)=>[(11,.ptr (aP (G gf.aa q))),(2,.ptr [.ptr (jC d i ss ts M)]),(0,.at bb 0),(4,.at ba 0),(6,.at bt 0),(10,.int (q:Nat)),(12,.int (sA:Nat)),(13,.int (sB:Nat))]) ?_ ?_
   ·refine cj 10 ?_ ?_<;>intro aD<;>try simp at aD
    ·refine af (tw bO (λa w h=>lg (OB.var bb [.lit (.map (some mb))]::OB.pt bf of (a8 gf)::OB.pt bj oj [.ptr (jC d i ss ts M)]::OB.pt bs os [lI (step:Int)]::OB.var ba [.lit va]::OB.row va 3 1 (al.map bT)::OB.var bY [.lit (.func (.yield l) #[] #[])]::OB.var bt [.lit (fa bb bf of bj oj bs os ba bY bt)]::(I dE k0++R)) (γ:=Value) (λix'=>([.ptr [ai ((G gf.aa q).ac)],.rd (ai ((G gf.aa q).ac)),.lit (.map (some mb)),.rd (fq (bN Mb)),.bF [.rd (ai (if ca (az (bN Mb)) ((G gf.aa q).ac) 2000 then bA (az (bN Mb)) ((G gf.aa q).ac)else [])),.int (if ca (az (bN Mb)) ((G gf.aa q).ac) 2000 then 0 else 15)],.bF [.rd (ai (if ca (az (bN Mb)) ((G gf.aa q).ac) 2000 then bA (az (bN Mb)) ((G gf.aa q).ac)else [])),.int (if ca (az (bN Mb)) ((G gf.aa q).ac) 2000 then 0 else 15)],.rd (ai (if ca (az (bN Mb)) ((G gf.aa q).ac) 2000 then bA (az (bN Mb)) ((G gf.aa q).ac)else [])),.int (if ca (az (bN Mb)) ((G gf.aa q).ac) 2000 then 0 else 15),.rd (ai (if ca (az (bN Mb)) ((G gf.aa q).ac) 2000 then bA (az (bN Mb)) ((G gf.aa q).ac)else [])),.int (if ca (az (bN Mb)) ((G gf.aa q).ac) 2000 then 0 else 15)]:List AV).getD ix' .any) (λ_=>true) [(11,λ_=>.ptr (aP (G gf.aa q))),(3,λ_=>.ptr [lI (step:Int)]),(2,λ_=>.ptr [.ptr (jC d i ss ts M)]),(1,λ_=>.ptr (a8 gf)),(0,λ_=>.at bb 0),(4,λ_=>.at ba 0),(6,λ_=>.at bt 0),(10,λ_=>.int (q:Nat)),(12,λ_=>.int (0:Int)),(13,λ_=>.int (step:Nat)),(14,λ_=>.rd (ai (if ca (az (bN Mb)) ((G gf.aa q).ac) 2000 then bA (az (bN Mb)) ((G gf.aa q).ac)else []))),(15,λ_=>.int (if ca (az (bN Mb)) ((G gf.aa q).ac) 2000 then 0 else 15))] (λ(b:List Bool) (g:Value)=>[OB.map aB cJ mb Mb]++(OB.var bb [.lit (.map (some mb))]::OB.pt bf of (a8 gf)::OB.pt bj oj [.ptr (jC d i ss ts M)]::OB.pt bs os [lI (step:Int)]::OB.var ba [.lit va]::OB.row va 3 1 (al.map bT)::OB.var bY [.lit (.func (.yield l) #[] #[])]::OB.var bt [.lit (fa bb bf of bj oj bs os ba bY bt)]::(I dE k0++R))) (λk' g=>match k' with | 0=>g | _=>undef) [3] undef (λ_=>Y) h V cU Y Y Y Y (λb g p hp=>(mem_append_right _ hp)) ⟨oX Y λZ hl=>cd lX Y (hl.env 0 11 _ Y Y) Z,oX Y λZ hl=>bU ip Y (hl.D 0 67 Y Y) Z,λ_ O' cf=>⟨Y,λ_ _ _ Z hl _=>cg sg Y (aG Z (cf _ (mo 0 Y))) (hl.env 4 0 _ Y Y) Y Z⟩,bC Y,?_,oX Y λZ hl=>b9 Y (hl.D 4 71 Y Y) Z,oX Y λZ hl=>gt Y (hl.D 5 66 Y Y) Y Z,oX Y λZ hl=>gt Y (hl.D 5 66 Y Y) Y Z,oX Y λZ hl=>gY Y (hl.D 6 72 Y Y) Z,oX Y λZ hl=>gY Y (hl.D 7 73 Y Y) Z,U⟩ ⟨?Mc,U⟩ ⟨.old 0 11 _,.old 1 3 _,.old 2 2 _,.old 3 1 _,.old 4 0 _,.old 5 4 _,.old 6 6 _,.old 7 10 _,.old 8 12 _,.old 9 13 _,.new 8 14 _,.new 9 15 _,U⟩ ?XY))
     exact oY Y λhk Z hl=>cV (G8 V ((G gf.aa q).ac) (bN Mb) 2000 ay (by exact λb hb=>(hM.Ge b hb).1)) (cO func103) Y (aK hS _ hk Z) (Z.1) (aq (hl.D 1 68 Y Y) (aq (hl.D 3 70 Y Y) (aq (Rel.aH (.int .i64 2000)) aN))) (jo V Z)
     case Mc=>exact eE [[false]] yq Y Y Y Y ⟨λ_ _ w hk Z hl _=>bD (pV (O:=[OB.map aB cJ mb Mb]) (R:=(OB.var bb [.lit (.map (some mb))]::OB.pt bf of (a8 gf)::OB.pt bj oj [.ptr (jC d i ss ts M)]::OB.pt bs os [lI (step:Int)]::OB.var ba [.lit va]::OB.row va 3 1 (al.map bT)::OB.var bY [.lit (.func (.yield l) #[] #[])]::OB.var bt [.lit (fa bb bf of bj oj bs os ba bY bt)]::(I dE k0++R))) (Bt V mb Mb (by exact hM.nd) (by exact hM.key hT.fl (λy h=>(hT.tx y h).2)) (by have:=hM.len;omega)) (cO func96) Y hS hJ0 b8 hk Z (aq (hl.D 2 69 Y Y) aN)) λv w' ⟨i,hp,hv⟩=>⟨v,dZ,λ_=>rfl,hv,hp⟩,U⟩
     clear a w h
     intro x1
     dsimp only[List.map]
     refine nx (ln 10 λFp=>?_)
     refine au tb V [0,1,2,4,5,6,7,8,9,10,11,1003,1004] [.lit (.map (some mb)),_,_,_,.bool (pN gf.aa Mb ((G gf.aa q).ac))] [0,4] [_,_,_,_,_,_,_,_,_,_,_,_,_] Y ⟨λ_ _ _ Z hl _=>cg sg Y (aG Z (mo 1 Y)) (hl.env 4 0 _ Y Y) Y Z,λ_ _ hk Z hl _=>dv (S2 V mb Mb gf ((G gf.aa q).ac) (by exact hT.fl)) (cO func104) Y (aK hS _ hk Z) (Z.1) (dJ (aG Z (mo 0 Y)) b8) (aq (hl.D 0 74 Y Y) (aq (hl.D 1 75 Y Y) (aq (hl.D 3 77 Y Y) aN))) (jo V Z),U⟩ ?_
     refine ln 11 λ_=>?_
     refine cj 12 ?_ ?_<;>intro bd<;>try simp at bd
     ·refine au tb V (r7 [10,1010,1011]) (V5 [.str (cq (if ca (az (bN Mb)) ((G gf.aa q).ac) 2000 then bA (az (bN Mb)) ((G gf.aa q).ac)else [])),.bF [.int ((aw mm (cq (if ca (az (bN Mb)) ((G gf.aa q).ac) 2000 then bA (az (bN Mb)) ((G gf.aa q).ac)else []))).getD default),.bool ((aw mm (cq (if ca (az (bN Mb)) ((G gf.aa q).ac) 2000 then bA (az (bN Mb)) ((G gf.aa q).ac)else []))).isSome)],_,_,_,_,_]) [5,6] fp Y ⟨bJ hS V (xq V (if ca (az (bN Mb)) ((G gf.aa q).ac) 2000 then bA (az (bN Mb)) ((G gf.aa q).ac)else []) (by first | exact(vi hT hM (aE oz)).1 | exact(hT.ts _ (aE (show sA+n<ts.length by omega))).1.2) (by first | exact(vi hT hM (aE oz)).2 | exact(hT.ts _ (aE (show sA+n<ts.length by omega))).2)) (cO func64),λ_ _ hk Z hl _=>mn (Kd:=aB) (f:=(λz':Int=>AV.int z')) (L:=mm) xa Cq (cq (if ca (az (bN Mb)) ((G gf.aa q).ac) 2000 then bA (az (bN Mb)) ((G gf.aa q).ac)else [])) Y (dC hH hk Z (mo 0 Y)) (hl.D 3 83 Y Y) (hl.D 5 85 Y Y) Z,U⟩ ?_
      refine af (aj tb V [0,2,3,4,5,6,8,1010] lm U8 ?_)
      refine cj 7 ?_ ?_<;>intro bW
      ·refine aj tb V [1000] [_] [_] ?_
       refine tw ct (tw ct (tw ct (tw ct (tw ct (tw ct (tw ct (tw sn (tw ct (aX (λa w h=>ph (dx (m:=0) (.inl ⟨(dE,k0,va,Mb),by first | exact uT (j:=(⟨d,i,ss,ts,mm⟩:Jb)) (pre:=dE) hb1 | exact uR (j:=(⟨d,i,ss,ts,mm⟩:Jb)) (pre:=dE) hb1 oz hG | exact sF (j:=(⟨d,i,ss,ts,mm⟩:Jb)) (pre:=dE) hb1 oz hG | exact uS (j:=(⟨d,i,ss,ts,mm⟩:Jb)) (pre:=dE) hb1 oz (uL aD bd bW) | exact uQ (j:=(⟨d,i,ss,ts,mm⟩:Jb)) (pre:=dE) hb1 oz rD oz ah bh⟩) Y h Y Y)))))))))))
      ·have e5:0<=(aw mm (cq (if ca (az (bN Mb)) (G gf.aa q).ac 2000 then bA (az (bN Mb)) (G gf.aa q).ac else []))).getD default/\(aw mm (cq (if ca (az (bN Mb)) (G gf.aa q).ac 2000 then bA (az (bN Mb)) (G gf.aa q).ac else []))).getD default< (step:Int)/\je (⟨d,i,ss,ts,mm⟩:Jb) gf.aa step (G gf.aa q) Mb=(((aw mm (cq (if ca (az (bN Mb)) (G gf.aa q).ac 2000 then bA (az (bN Mb)) (G gf.aa q).ac else []))).getD default).toNat,((aw mm (cq (if ca (az (bN Mb)) (G gf.aa q).ac 2000 then bA (az (bN Mb)) (G gf.aa q).ac else []))).getD default).toNat+1):=VB hT aD bd bW
       refine ak (nx (aT tb V (r6 [1003,1004]) [_,_,.int (((aw mm (cq (if ca (az (bN Mb)) ((G gf.aa q).ac) 2000 then bA (az (bN Mb)) ((G gf.aa q).ac)else []))).getD default)+(1:Int)),_,_] [2] U8 Y ⟨aM,U⟩ ?_))
       refine kw (sa 6 Y (congrArg AV.int (show((aw mm (cq (if ca (az (bN Mb)) ((G gf.aa q).ac) 2000 then bA (az (bN Mb)) ((G gf.aa q).ac)else []))).getD default)=((((aw mm (cq (if ca (az (bN Mb)) (G gf.aa q).ac 2000 then bA (az (bN Mb)) (G gf.aa q).ac else []))).getD default).toNat:Nat):Int)from by omega))) (kw (sa 7 Y (congrArg AV.int (show((aw mm (cq (if ca (az (bN Mb)) ((G gf.aa q).ac) 2000 then bA (az (bN Mb)) ((G gf.aa q).ac)else []))).getD default)+(1:Int)=((((aw mm (cq (if ca (az (bN Mb)) (G gf.aa q).ac 2000 then bA (az (bN Mb)) (G gf.aa q).ac else []))).getD default).toNat+1:Nat):Int)from by omega))) ?_)
       refine kw ct (kw ct (kw ct (kw ct (kw ct (kw ct (kw ct (kw sn (kw ct (qq (((aw mm (cq (if ca (az (bN Mb)) (G gf.aa q).ac 2000 then bA (az (bN Mb)) (G gf.aa q).ac else []))).getD default).toNat,((aw mm (cq (if ca (az (bN Mb)) (G gf.aa q).ac 2000 then bA (az (bN Mb)) (G gf.aa q).ac else []))).getD default).toNat+1) (r8 []) ⟨by first | exact B1 aD | exact B2 bd | exact e5.2.2,oz,oz⟩)))))))))
     ·refine ak (kw ct (kw ct (kw ct (kw ct (kw ct (kw ct (kw ct (kw sn (kw ct (qq (0,step) [0,2,3,4,5,6,7,8] ⟨by first | exact B1 aD | exact B2 bd | exact e5.2.2,oz,oz⟩))))))))))
    ·exact ak (qq (0,step) [0,2,4,5,6,7,8,9] ⟨by first | exact B1 aD | exact B2 bd | exact e5.2.2,oz,oz⟩)
   ·rintro⟨sA,sB⟩ ⟨rD,XF,XG⟩
    refine af (aj tb V (r6 [7,1001]) U2 U8 ?_)
    refine ax (lpo (ι:=Nat×BM×Value×(List (List Int))×κ) (λ(n,M2,_,pre,_)=>(sA+n<=sB)/\(pre=dE++(fm (⟨d,i,ss,ts,mm⟩:Jb) gf step q Mb al sA n).1)/\(M2=(fm (⟨d,i,ss,ts,mm⟩:Jb) gf step q Mb al sA n).2)) (λ(_,M2,wa,pre,kk)=>(OB.var bb [.lit (.map (some mb))]::OB.map aB cJ mb M2::OB.pt bf of (a8 gf)::OB.pt bj oj [.ptr (jC d i ss ts M)]::OB.pt bs os [lI (step:Int)]::OB.var ba [.lit wa]::OB.row wa 3 1 (al.map bT)::OB.var bY [.lit (.func (.yield l) #[] #[])]::OB.var bt [.lit (fa bb bf of bj oj bs os ba bY bt)]::(I pre kk++R))) (λ(n,_,_,_,_)=>[(18,.int (sA+n:Nat))]) (λ(n,_,_,_,_)=>sB-(sA+n)) (r8 []) U7 (0,Mb,va,dE,k0) ⟨oz,by rw[Cf];simp,by rw[Cf]⟩ ?_)
    rintro⟨n,M2,wa,pre,kk⟩ ⟨aQ,ah,bh⟩
    refine af (aj tb V (r8 [1002]) U3 U9 ?_)
    refine cj 8 ?_ ?_<;>intro eW<;>try simp at eW
    ·have h6:1<=(G ts (sA+n)).length/\(G ts (sA+n)).length<=2000:=(hT.ts _ (aE (show sA+n<ts.length by omega))).1
     have h5:1<=(G gf.aa q).ac.length:=(hT.tx _ (aE e2)).1
     refine ak (nx (af (ax (au tb V (r8 [1006,1007]) (V5 [.ptr [ai (G ts (sA+n))],_,_]) [5] fp Y ⟨bq eG,U⟩ ?_))))
     refine ln 8 λ_=>?_
     refine af (au tb V (r8 [9,1018]) (V5 [.str (cq (G ts (sA+n))),.int ((aw mm (cq (G ts (sA+n)))).getD default),_,_,_,_,.ptr [lS (G (G ts (sA+n)) 0)],_,_,_,.ptr [lS (G ((G gf.aa q).ac) 0)],_,_,_]) [5,6,11,15] fp Y ⟨bJ hS V (xq V (G ts (sA+n)) (by first | exact(vi hT hM (aE oz)).1 | exact(hT.ts _ (aE (show sA+n<ts.length by omega))).1.2) (by first | exact(vi hT hM (aE oz)).2 | exact(hT.ts _ (aE (show sA+n<ts.length by omega))).2)) (cO func64),λ_ _ hk Z hl _=>BC (Kd:=aB) (f:=(λz':Int=>AV.int z')) (L:=mm) xa Cq (cq (G ts (sA+n))) Y (dC hH hk Z (mo 0 Y)) (hl.D 3 119 Y Y) (hl.D 5 121 Y Y) Z,cT (k:=0) bz (hk:=λ(aF:((!decide (((aw mm (cq (G ts (sA+n)))).getD default)=((sA+n:Nat):Int)))==false)=true)=>by(try simp at aF);first | omega | (simp;omega) | grind[aE]),cT (k:=0) bz (hk:=λ(aF:((!decide (((aw mm (cq (G ts (sA+n)))).getD default)=((sA+n:Nat):Int)))==false)=true)=>by(try simp at aF);first | omega | (simp;omega) | grind[aE]),U⟩ ?_)
     refine cj 9 ?_ ?_<;>intro fV
     ·have ho:lJ (⟨d,i,ss,ts,mm⟩:Jb) (G gf.aa q) (sA+n)=false:=(GL hT (show sA+n<ts.length by omega)).trans (by have h9:=congrArg (λb'=>!b') fV;exact h9)
      refine aW (nx (aT tb V (r7 [1002]) [_,.int (sA+n+1:Nat),_] [1] U8 Y ⟨aM,U⟩ ?_))
      exact br ((n+1),M2,wa,pre,kk) (r8 []) ⟨oz,by first | (rw[sE ho];exact ah) | exact(ou (j:=(⟨d,i,ss,ts,mm⟩:Jb)) ah bh lY Y ho ez).1,by first | (rw[sE ho];exact bh) | exact(if_pos il).symm.trans (ou (j:=(⟨d,i,ss,ts,mm⟩:Jb)) ah bh lY Y ho ez).2 | exact(if_neg (by simp[il])).symm.trans (ou (j:=(⟨d,i,ss,ts,mm⟩:Jb)) ah bh lY Y ho ez).2⟩
     ·have ho:lJ (⟨d,i,ss,ts,mm⟩:Jb) (G gf.aa q) (sA+n)=true:=(GL hT (show sA+n<ts.length by omega)).trans (by have h9:=congrArg (λb'=>!b') fV;exact h9)
      refine ak (nx (af (aj tb V (r9 [1001]) U2 fp ?_)))
      refine FW (ι:=BM) (λM3=>(M3=if(G gf.aa q).bn then cn M2 (G (G gf.aa q).ac 1) ((G ts (sA+n)).drop 1)else M2)) (λM3=>(OB.var bb [.lit (.map (some mb))]::OB.map aB cJ mb M3::OB.pt bf of (a8 gf)::OB.pt bj oj [.ptr (jC d i ss ts M)]::OB.pt bs os [lI (step:Int)]::OB.var ba [.lit wa]::OB.row wa 3 1 (al.map bT)::OB.var bY [.lit (.func (.yield l) #[] #[])]::OB.var bt [.lit (fa bb bf of bj oj bs os ba bY bt)]::(I pre kk++R))) (λ_=>[(11,.ptr (aP (G gf.aa q))),(2,.ptr [.ptr (jC d i ss ts M)]),(0,.at bb 0),(4,.at ba 0),(6,.at bt 0),(10,.int (q:Nat)),(13,.int (sB:Nat)),(18,.int (sA+n:Nat))]) ?_ ?_
      ·refine cj 9 ?_ ?_<;>intro iO<;>try simp at iO
       ·have e3:(G gf.aa q).ac.length=2:=hT.fl _ (aE oz) iO
        have e4:=(hT.ts _ (aE (show sA+n<ts.length by omega))).1
        refine tw bO (λa w h=>iF (γ:=Unit) (λix'=>([.lit (.map (some mb)),.ptr [ai ((G gf.aa q).ac)],.rd (ai ((G gf.aa q).ac)),.ptr [lS (G ((G gf.aa q).ac) 1)],.str (G ((G gf.aa q).ac) 1),.rd (ai (G ts (sA+n))),.rd (ai ((G ts (sA+n)).drop 1)),.any]:List AV).getD ix' .any) (λ_=>true) [(11,λ_=>.ptr (aP (G gf.aa q))),(2,λ_=>.ptr [.ptr (jC d i ss ts M)]),(0,λ_=>.at bb 0),(4,λ_=>.at ba 0),(6,λ_=>.at bt 0),(10,λ_=>.int (q:Nat)),(13,λ_=>.int (sB:Nat)),(18,λ_=>.int (sA+n:Nat))] (λj' _=>match j' with | 0=>(OB.map aB cJ mb M2::OB.var bb [.lit (.map (some mb))]::OB.pt bf of (a8 gf)::OB.pt bj oj [.ptr (jC d i ss ts M)]::OB.pt bs os [lI (step:Int)]::OB.var ba [.lit wa]::OB.row wa 3 1 (al.map bT)::OB.var bY [.lit (.func (.yield l) #[] #[])]::OB.var bt [.lit (fa bb bf of bj oj bs os ba bY bt)]::(I pre kk++R)) | _=>(OB.map aB cJ mb (cn M2 (G ((G gf.aa q).ac) 1) ((G ts (sA+n)).drop 1))::OB.var bb [.lit (.map (some mb))]::OB.pt bf of (a8 gf)::OB.pt bj oj [.ptr (jC d i ss ts M)]::OB.pt bs os [lI (step:Int)]::OB.var ba [.lit wa]::OB.row wa 3 1 (al.map bT)::OB.var bY [.lit (.func (.yield l) #[] #[])]::OB.var bt [.lit (fa bb bf of bj oj bs os ba bY bt)]::(I pre kk++R))) (λ_ _=>undef) [7] 0 () (λ_=>Y) h V cU Y Y Y Y Y Y hsb ⟨λ_ O' cf=>⟨Y,λ_ _ _ Z hl _=>cg sg Y (aG Z (cf _ (mo 1 Y))) (hl.env 2 0 _ Y Y) Y Z⟩,oX Y λZ hl=>cd lX Y (hl.env 0 11 _ Y Y) Z,oX Y λZ hl=>bU ip Y (hl.D 1 138 Y Y) Z,?_,oX Y λZ hl=>bU fh Y (hl.D 3 140 Y Y) Z,oX Y λZ hl=>b9 Y (hl.env 8 19 _ Y Y) Z,?_,bC Y,U⟩ ⟨?Mx,U⟩ ⟨.old 0 11 _,.old 1 2 _,.old 2 0 _,.old 3 4 _,.old 4 6 _,.old 5 10 _,.old 6 13 _,.old 7 18 _,U⟩ ?X9)
        exact oX Y λZ hl=>cb (i:=((1:Nat):Int)) bz Y (hl.D 2 139 Y Y) (Rel.aH (.int .i64 1)) bK (cl (xs:=(G gf.aa q).ac) (k:=1) ay) Y Z
        exact oX Y λZ hl=>iW (ys:=(G ts (sA+n)).drop 1) (lo:=1) (hi:=(G ts (sA+n)).length) (by rw[take_length]) bz (λ_=>Y) Y (hl.D 5 142 Y Y) (Rel.aH (.int .i64 1)) Y ay ay Z
        case Mx=>exact⟨_,Y,Y,Y,Y,λg _ w hk Z hl _=>bD (pW (f:=cJ) rY V hJ0 (G ((G gf.aa q).ac) 1) ((G ts (sA+n)).drop 1) (.inl Y) hk Z (hl.D 0 137 Y Y) (hl.D 4 141 Y Y) (hl.D 6 143 Y Y)) λv w' ⟨_,hp⟩=>⟨g,Y,λ_ _=>rfl,λe=>(by cases e),hp⟩⟩
        clear a w h
        intro _
        dsimp only[List.map]
        refine kw ct (kw ct (kw ct (kw ct (kw ct (kw ct (kw ct (kw sn (kw ct (qq (cn M2 (G ((G gf.aa q).ac) 1) ((G ts (sA+n)).drop 1)) (r8 []) (show(cn M2 (G ((G gf.aa q).ac) 1) ((G ts (sA+n)).drop 1))=if(G gf.aa q).bn then cn M2 (G (G gf.aa q).ac 1) ((G ts (sA+n)).drop 1)else M2 from by first | exact(if_pos iO).symm | exact(if_neg (by simp[iO])).symm))))))))))
       ·exact ak (qq M2 (r8 []) (show M2=if(G gf.aa q).bn then cn M2 (G (G gf.aa q).ac 1) ((G ts (sA+n)).drop 1)else M2 from by first | exact(if_pos iO).symm | exact(if_neg (by simp[iO])).symm))
      ·rintro M3 hF
       have lY:M3=if(G gf.aa q).bn then cn M2 (G (G gf.aa q).ac 1) ((G ts (sA+n)).drop 1)else M2:=hF
       refine aL (sy (.lit wa) (λh=>cg iV Y (aG h.x (mo 5 Y)) (h.get 3 Y) Y h.x) ?_)
       refine ao 1 tb (env':=[(145,_),(144,_),(11,_),(2,_),(0,_),(4,_),(6,_),(10,_),(13,_),(18,_)]) Y (sy (.rd (bQ ([((sA+n:Nat):Int)]))) (λh=>fz c8 px Y (h.get 0 Y) (aK hS _ h.keep h.x _ aV) (jo V h.x)) ?_)
       refine kw gG (fN (f:=bT) (m:=2) (s:=144) al ([((sA+n:Nat):Int)]) (λ_=>Y) pL V hJ0 Y Y Y (lb Y) Y Y (λa w h=>(h.get 0 Y)) ay ay λv2=>kw gG (gI (b:=ba) (off:=0) (es:=[_]) V hJ0 qM Y Y Y (lb Y) Y (λa w h=>⟨(h.get 7 Y),(h.get 0 Y)⟩) (aA [1,4,5,6,7,8,9,10,11] U9 Y (nx (ln 0 λFq=>?_)))))
       refine aL (sy (.lit (fa bb bf of bj oj bs os ba bY bt)) (λh=>cg GQ Y (aG h.x (mo 8 Y)) (h.get 5 Y) Y h.x) ?_)
       refine kw ct (kw ct (kw gF (kw gF (kw ct (kw ct (kw ct (kw ct (kw ct (IM (O:=(OB.var bb [.lit (.map (some mb))]::OB.map aB cJ mb M3::OB.pt bf of (a8 gf)::OB.pt bj oj [.ptr (jC d i ss ts M)]::OB.pt bs os [lI (step:Int)]::OB.var ba [.lit v2]::OB.row v2 3 1 ((al++([((sA+n:Nat):Int)])).map bT)::OB.var bY [.lit (.func (.yield l) #[] #[])]::OB.var bt [.lit (fa bb bf of bj oj bs os ba bY bt)]::I pre kk)) (R:=R) [] [.pointer (some ⟨bb,0,none⟩),.pointer (some ⟨bf,of,none⟩),.pointer (some ⟨bj,oj,none⟩),.pointer (some ⟨bs,os,none⟩),.pointer (some ⟨ba,0,none⟩),.pointer (some ⟨bY,0,none⟩),.pointer (some ⟨bt,0,none⟩)] [.at bb 0,.at bf of,.at bj oj,.at bs os,.at ba 0,.at bY 0,.at bt 0] (ih (pre':=pre) (k':=kk) (ov:=v2) (M':=M3) (al':=(al++([((sA+n:Nat):Int)]))) (by simp;omega) oz (λx' hx'=>by rcases List.mem_append.1 hx' with h | h;exact k3 x' h;rw[mem_singleton.1 h];omega) (by rw[lY,bh];exact TU hT (k:=q) oz (show sA+n<ts.length by omega) (Jf hT oz hM n)) (by rw[lY,ah,bh];exact Wq (j:=(⟨d,i,ss,ts,mm⟩:Jb)) oz ho (Wz (j:=(⟨d,i,ss,ts,mm⟩:Jb)) hb1 oz rD hp))) (cO func102) Y Y Y (lb Y) (λa w h=>(h.get 0 Y).lit) (λa w h=>aN) (λw=>(aq (Rel.aH _) (aq (Rel.aH _) (aq (Rel.aH _) (aq (Rel.aH _) (aq (Rel.aH _) (aq (Rel.aH _) (aq (Rel.aH _) aN)))))))) (λq=>WN q) (λs3=>?_) (λz4=>?_))))))))))
       ·dsimp only[List.map,pD]
        have es:=s3.2
        refine ao 1 tb (env':=[(20,_),(149,_),(148,_),(146,_),(11,_),(2,_),(0,_),(4,_),(6,_),(10,_),(13,_),(18,_)]) Y (aA [0,4,5,6,7,8,9,10,11] U9 Y (nx (tw gG (tw (λh=>map_take▸B6 (m:=q) (by rw[length_map];exact ay) h) ?_))))
        refine aL (sy (.lit s3.1.2.1) (λh=>cg iV Y (aG h.x (mo 6 Y)) (h.get 4 Y) Y h.x) ?_)
        refine ao 1 tb (env':=[(151,_),(150,_),(20,_),(11,_),(2,_),(0,_),(4,_),(6,_),(10,_),(13,_),(18,_)]) Y (sy (.lit (dB s3.1.2.1 q)) (λh=>qG (m:=q) c8 Y (aG h.x (mo 0 Y)) (by first | rfl | (rw[length_map];exact ay)) (h.get 1 Y) (h.get 0 Y) h.x) ?_)
        refine kw gG (gI (b:=ba) (off:=0) (es:=[_]) V hJ0 qM Y Y Y (lb Y) Y (λa w h=>⟨(h.get 7 Y),(h.get 0 Y)⟩) (aA [3,4,5,6,7,8,9,10,11] U9 Y (nx (af (aj tb V (r9 [1001]) U2 fp ?_)))))
        refine cj 9 ?_ ?_<;>intro il<;>try simp at il
        ·have e3:(G gf.aa q).ac.length=2:=hT.fl _ (aE oz) il
         refine tw gF (λa w h=>lg (OB.var ba [.lit (dB s3.1.2.1 q)]::OB.row (dB s3.1.2.1 q) 3 1 ((s3.1.2.2.1.take q).map bT)::OB.var bb [.lit (.map (some mb))]::OB.pt bf of (a8 gf)::OB.pt bj oj [.ptr (jC d i ss ts M)]::OB.pt bs os [lI (step:Int)]::OB.var bY [.lit (.func (.yield l) #[] #[])]::OB.var bt [.lit (fa bb bf of bj oj bs os ba bY bt)]::(O4 s3.1.1++R)) (γ:=Unit) (λix'=>([.lit (.map (some mb)),.ptr [ai ((G gf.aa q).ac)],.rd (ai ((G gf.aa q).ac)),.ptr [lS (G ((G gf.aa q).ac) 1)],.str (G ((G gf.aa q).ac) 1),.any]:List AV).getD ix' .any) (λ_=>true) [(20,λ_=>.bool false),(11,λ_=>.ptr (aP (G gf.aa q))),(2,λ_=>.ptr [.ptr (jC d i ss ts M)]),(0,λ_=>.at bb 0),(4,λ_=>.at ba 0),(6,λ_=>.at bt 0),(10,λ_=>.int (q:Nat)),(13,λ_=>.int (sB:Nat)),(18,λ_=>.int (sA+n:Nat))] (λ(b:List Bool) (g:Unit)=>(bif b.getD 0 false then [OB.map aB cJ mb (gX s3.1.2.2.2 (G ((G gf.aa q).ac) 1))]else [OB.map aB cJ mb s3.1.2.2.2])++(OB.var ba [.lit (dB s3.1.2.1 q)]::OB.row (dB s3.1.2.1 q) 3 1 ((s3.1.2.2.1.take q).map bT)::OB.var bb [.lit (.map (some mb))]::OB.pt bf of (a8 gf)::OB.pt bj oj [.ptr (jC d i ss ts M)]::OB.pt bs os [lI (step:Int)]::OB.var bY [.lit (.func (.yield l) #[] #[])]::OB.var bt [.lit (fa bb bf of bj oj bs os ba bY bt)]::(O4 s3.1.1++R))) (λ_ _=>undef) [5] () (λ_=>Y) h V cU Y Y Y Y (λb g p hp=>(mem_append_right _ hp)) ⟨λ_ O' cf=>⟨Y,λ_ _ _ Z hl _=>cg sg Y (aG Z (cf _ (mo 2 Y))) (hl.env 3 0 _ Y Y) Y Z⟩,oX Y λZ hl=>cd lX Y (hl.env 1 11 _ Y Y) Z,oX Y λZ hl=>bU ip Y (hl.D 1 156 Y Y) Z,?_,oX Y λZ hl=>bU fh Y (hl.D 3 158 Y Y) Z,bC Y,U⟩ ⟨?My,U⟩ ⟨.old 0 20 _,.old 1 11 _,.old 2 2 _,.old 3 0 _,.old 4 4 _,.old 5 6 _,.old 6 10 _,.old 7 13 _,.old 8 18 _,U⟩ ?Yc)
         exact oX Y λZ hl=>cb (i:=((1:Nat):Int)) bz Y (hl.D 2 157 Y Y) (Rel.aH (.int .i64 1)) bK (cl (xs:=(G gf.aa q).ac) (k:=1) ay) Y Z
         case My=>exact eE [[false]] yq Y Y Y Y ⟨λg _ w hk Z hl _=>bD (DU rY V hJ0 (G ((G gf.aa q).ac) 1) Y hk Z (hl.D 0 155 Y Y) (hl.D 4 159 Y Y)) λv w' hp=>⟨g,λ_ _=>rfl,λe=>(by cases e),True.intro,hp.2⟩,U⟩
         clear a w h
         intro _
         dsimp only[List.map]
         refine nx (aj tb V [1,2,3,4,5,6,7,8,1001] U2 U9 ?_)
         refine cj 8 ?_ ?_<;>intro iA
         ·try simp at iA
          refine aj tb V [1000] [_] [_] ?_
          refine tw ct (tw ct (tw ec (tw ec (tw ct (tw ct (tw ct (tw sn (tw ct (aX (λa w h=>ph (dx (m:=0) (.inr ⟨(s3.1.1,(dB s3.1.2.1 q),s3.1.2.2.1.take q,gX s3.1.2.2.2 (G ((G gf.aa q).ac) 1)),by first | exact Nat.le_of_eq hq.symm | (simp only[length_take];omega)⟩) Y h Y Y)))))))))))
         ·exact False.elim (by simp at iA)
        ·refine ak (nx (aj tb V [1,2,3,4,5,6,7,8,1001] U2 U9 ?_))
         refine cj 8 ?_ ?_<;>intro iA
         ·try simp at iA
          refine aj tb V [1000] [_] [_] ?_
          refine tw ct (tw ct (tw gF (tw gF (tw ct (tw ct (tw ct (tw ct (tw ct (aX (λa w h=>ph (dx (m:=0) (.inr ⟨(s3.1.1,(dB s3.1.2.1 q),s3.1.2.2.1.take q,s3.1.2.2.2),by first | exact Nat.le_of_eq hq.symm | (simp only[length_take];omega)⟩) Y h Y Y)))))))))))
         ·exact False.elim (by simp at iA)
       dsimp only[List.map,pD]
       have ez:=z4.2
       refine ao 1 tb (env':=[(20,_),(149,_),(148,_),(146,_),(11,_),(2,_),(0,_),(4,_),(6,_),(10,_),(13,_),(18,_)]) Y (aA [0,4,5,6,7,8,9,10,11] U9 Y (nx (tw gG (tw (λh=>map_take▸B6 (m:=q) (by rw[length_map];exact ay) h) ?_))))
       refine aL (sy (.lit z4.1.2.2.1) (λh=>cg iV Y (aG h.x (mo 6 Y)) (h.get 4 Y) Y h.x) ?_)
       refine ao 1 tb (env':=[(151,_),(150,_),(20,_),(11,_),(2,_),(0,_),(4,_),(6,_),(10,_),(13,_),(18,_)]) Y (sy (.lit (dB z4.1.2.2.1 q)) (λh=>qG (m:=q) c8 Y (aG h.x (mo 0 Y)) (by first | rfl | (rw[length_map];exact ay)) (h.get 1 Y) (h.get 0 Y) h.x) ?_)
       refine kw gG (gI (b:=ba) (off:=0) (es:=[_]) V hJ0 qM Y Y Y (lb Y) Y (λa w h=>⟨(h.get 7 Y),(h.get 0 Y)⟩) (aA [3,4,5,6,7,8,9,10,11] U9 Y (nx (af (aj tb V (r9 [1001]) U2 fp ?_)))))
       refine cj 9 ?_ ?_<;>intro il<;>try simp at il
       ·have e3:(G gf.aa q).ac.length=2:=hT.fl _ (aE oz) il
        refine tw gF (λa w h=>lg (OB.var ba [.lit (dB z4.1.2.2.1 q)]::OB.row (dB z4.1.2.2.1 q) 3 1 (((al++([((sA+n:Nat):Int)])).take q).map bT)::OB.var bb [.lit (.map (some mb))]::OB.pt bf of (a8 gf)::OB.pt bj oj [.ptr (jC d i ss ts M)]::OB.pt bs os [lI (step:Int)]::OB.var bY [.lit (.func (.yield l) #[] #[])]::OB.var bt [.lit (fa bb bf of bj oj bs os ba bY bt)]::(I z4.1.1 z4.1.2.1++R)) (γ:=Unit) (λix'=>([.lit (.map (some mb)),.ptr [ai ((G gf.aa q).ac)],.rd (ai ((G gf.aa q).ac)),.ptr [lS (G ((G gf.aa q).ac) 1)],.str (G ((G gf.aa q).ac) 1),.any]:List AV).getD ix' .any) (λ_=>true) [(20,λ_=>.bool true),(11,λ_=>.ptr (aP (G gf.aa q))),(2,λ_=>.ptr [.ptr (jC d i ss ts M)]),(0,λ_=>.at bb 0),(4,λ_=>.at ba 0),(6,λ_=>.at bt 0),(10,λ_=>.int (q:Nat)),(13,λ_=>.int (sB:Nat)),(18,λ_=>.int (sA+n:Nat))] (λ(b:List Bool) (g:Unit)=>(bif b.getD 0 false then [OB.map aB cJ mb (gX z4.1.2.2.2 (G ((G gf.aa q).ac) 1))]else [OB.map aB cJ mb z4.1.2.2.2])++(OB.var ba [.lit (dB z4.1.2.2.1 q)]::OB.row (dB z4.1.2.2.1 q) 3 1 (((al++([((sA+n:Nat):Int)])).take q).map bT)::OB.var bb [.lit (.map (some mb))]::OB.pt bf of (a8 gf)::OB.pt bj oj [.ptr (jC d i ss ts M)]::OB.pt bs os [lI (step:Int)]::OB.var bY [.lit (.func (.yield l) #[] #[])]::OB.var bt [.lit (fa bb bf of bj oj bs os ba bY bt)]::(I z4.1.1 z4.1.2.1++R))) (λ_ _=>undef) [5] () (λ_=>Y) h V cU Y Y Y Y (λb g p hp=>(mem_append_right _ hp)) ⟨λ_ O' cf=>⟨Y,λ_ _ _ Z hl _=>cg sg Y (aG Z (cf _ (mo 2 Y))) (hl.env 3 0 _ Y Y) Y Z⟩,oX Y λZ hl=>cd lX Y (hl.env 1 11 _ Y Y) Z,oX Y λZ hl=>bU ip Y (hl.D 1 156 Y Y) Z,?_,oX Y λZ hl=>bU fh Y (hl.D 3 158 Y Y) Z,bC Y,U⟩ ⟨?Mz,U⟩ ⟨.old 0 20 _,.old 1 11 _,.old 2 2 _,.old 3 0 _,.old 4 4 _,.old 5 6 _,.old 6 10 _,.old 7 13 _,.old 8 18 _,U⟩ ?Yd)
        exact oX Y λZ hl=>cb (i:=((1:Nat):Int)) bz Y (hl.D 2 157 Y Y) (Rel.aH (.int .i64 1)) bK (cl (xs:=(G gf.aa q).ac) (k:=1) ay) Y Z
        case Mz=>exact eE [[false]] yq Y Y Y Y ⟨λg _ w hk Z hl _=>bD (DU rY V hJ0 (G ((G gf.aa q).ac) 1) Y hk Z (hl.D 0 155 Y Y) (hl.D 4 159 Y Y)) λv w' hp=>⟨g,λ_ _=>rfl,λe=>(by cases e),True.intro,hp.2⟩,U⟩
        clear a w h
        intro _
        dsimp only[List.map]
        refine nx (aj tb V [1,2,3,4,5,6,7,8,1001] U2 U9 ?_)
        refine cj 8 ?_ ?_<;>intro iA
        ·exact False.elim (by simp at iA)
        ·try simp at iA
         refine tw (Bf (congrArg (λz'=>OB.row (dB z4.1.2.2.1 q) 3 1 ((z').map bT)) (show((al++([((sA+n:Nat):Int)])).take q)=al from I5 hq))) (ak (nx (aT tb V (r7 [1002]) [_,.int (sA+n+1:Nat),_] [1] U8 Y ⟨aM,U⟩ ?_)))
         refine kw ct (kw ct (kw ec (kw ec (kw ct (kw ct (kw ct (kw sn (kw ct (br ((n+1),gX z4.1.2.2.2 (G ((G gf.aa q).ac) 1),(dB z4.1.2.2.1 q),z4.1.1,z4.1.2.1) (r8 []) ⟨oz,by first | (rw[sE ho];exact ah) | exact(ou (j:=(⟨d,i,ss,ts,mm⟩:Jb)) ah bh lY Y ho ez).1,by first | (rw[sE ho];exact bh) | exact(if_pos il).symm.trans (ou (j:=(⟨d,i,ss,ts,mm⟩:Jb)) ah bh lY Y ho ez).2 | exact(if_neg (by simp[il])).symm.trans (ou (j:=(⟨d,i,ss,ts,mm⟩:Jb)) ah bh lY Y ho ez).2⟩)))))))))
       ·refine ak (nx (aj tb V [1,2,3,4,5,6,7,8,1001] U2 U9 ?_))
        refine cj 8 ?_ ?_<;>intro iA
        ·exact False.elim (by simp at iA)
        ·try simp at iA
         refine tw (GF (congrArg (λz'=>OB.row (dB z4.1.2.2.1 q) 3 1 ((z').map bT)) (show((al++([((sA+n:Nat):Int)])).take q)=al from I5 hq))) (ak (nx (aT tb V (r7 [1002]) [_,.int (sA+n+1:Nat),_] [1] U8 Y ⟨aM,U⟩ ?_)))
         refine kw ct (kw ct (kw gF (kw gF (kw ct (kw ct (kw ct (kw ct (kw ct (br ((n+1),z4.1.2.2.2,(dB z4.1.2.2.1 q),z4.1.1,z4.1.2.1) (r8 []) ⟨oz,by first | (rw[sE ho];exact ah) | exact(ou (j:=(⟨d,i,ss,ts,mm⟩:Jb)) ah bh lY Y ho ez).1,by first | (rw[sE ho];exact bh) | exact(if_pos il).symm.trans (ou (j:=(⟨d,i,ss,ts,mm⟩:Jb)) ah bh lY Y ho ez).2 | exact(if_neg (by simp[il])).symm.trans (ou (j:=(⟨d,i,ss,ts,mm⟩:Jb)) ah bh lY Y ho ez).2⟩)))))))))
    ·refine aW (nx (aj tb V [1000] [_] [_] ?_))
     exact aX (λa w h=>ph (dx (m:=0) (.inl ⟨(pre,kk,wa,M2),by first | exact uT (j:=(⟨d,i,ss,ts,mm⟩:Jb)) (pre:=dE) hb1 | exact uR (j:=(⟨d,i,ss,ts,mm⟩:Jb)) (pre:=dE) hb1 oz hG | exact sF (j:=(⟨d,i,ss,ts,mm⟩:Jb)) (pre:=dE) hb1 oz hG | exact uS (j:=(⟨d,i,ss,ts,mm⟩:Jb)) (pre:=dE) hb1 oz (uL aD bd bW) | exact uQ (j:=(⟨d,i,ss,ts,mm⟩:Jb)) (pre:=dE) hb1 oz rD oz ah bh⟩) Y h Y Y))
theorem TE {S:Nat->Prop} {w0:World} (hS:∀ b,w0.heap.size<=b->S b) (hJ0:J w0) {l:Nat} {κ μ σ:Type} {I:List (List Int)->κ->List OB} {pv:μ->Value} {O3:μ->List OB} {O4:σ->List OB} (bb mb:Nat) (bf of:Nat) (bj oj:Nat) (bs os:Nat) (ba bY bt:Nat) (d:Db) (i:Nat) (ss:List Stp) (ts:List (List BA)) (M:Nat) (mm:List (BA×Int)) (gf:Fr) (step:Nat) (xs:List (List Int)) (hH:Has [OB.mI M mm] S w0) (hY:yB prog J S w0 l (λx9=>[.rd (bQ x9)]) xs I pv O3 O4) (hT:lQ (⟨d,i,ss,ts,mm⟩:Jb) gf step):
 ∀(n q:Nat) (pre':List (List Int)) (k':κ) (ov:Value) (M':BM) (al':List Int),gf.aa.length-q=n->al'.length=q->q<=gf.aa.length->(∀ x'∈al',0<=x'/\x'< (step:Int))->fS gf.aa M'->pre'++(ep (⟨d,i,ss,ts,mm⟩:Jb) gf step q M' al').1<+:xs->rc (ι:= { q':List (List Int)×κ×Value×BM // q'.1=pre'++(ep (⟨d,i,ss,ts,mm⟩:Jb) gf step q M' al').1/\q'.2.2.2=(ep (⟨d,i,ss,ts,mm⟩:Jb) gf step q M' al').2 } ⊕ { q':σ×Value×List Int×BM // q<=q'.2.2.1.length }) prog J S w0 102 [.at bb 0,.at bf of,.at bj oj,.at bs os,.at ba 0,.at bY 0,.at bt 0] (OB.var bb [.lit (.map (some mb))]::OB.map aB cJ mb (M')::OB.pt bf of (a8 gf)::OB.pt bj oj [.ptr (jC d i ss ts M)]::OB.pt bs os [lI (step:Int)]::OB.var ba [.lit (ov)]::OB.row ov 3 1 ((al').map bT)::OB.var bY [.lit (.func (.yield l) #[] #[])]::OB.var bt [.lit (fa bb bf of bj oj bs os ba bY bt)]::I (pre') k') (λi'=>.bool i'.isLeft) (pD (λz'=>OB.var bb [.lit (.map (some mb))]::OB.map aB cJ mb (z'.1.2.2.2)::OB.pt bf of (a8 gf)::OB.pt bj oj [.ptr (jC d i ss ts M)]::OB.pt bs os [lI (step:Int)]::OB.var ba [.lit (z'.1.2.2.1)]::OB.row z'.1.2.2.1 3 1 ((al').map bT)::OB.var bY [.lit (.func (.yield l) #[] #[])]::OB.var bt [.lit (fa bb bf of bj oj bs os ba bY bt)]::I z'.1.1 z'.1.2.1) λs'=>OB.var bb [.lit (.map (some mb))]::OB.map aB cJ mb (s'.1.2.2.2)::OB.pt bf of (a8 gf)::OB.pt bj oj [.ptr (jC d i ss ts M)]::OB.pt bs os [lI (step:Int)]::OB.var ba [.lit (s'.1.2.1)]::OB.row s'.1.2.1 3 1 ((s'.1.2.2.1).map bT)::OB.var bY [.lit (.func (.yield l) #[] #[])]::OB.var bt [.lit (fa bb bf of bj oj bs os ba bY bt)]::O4 s'.1.1) pv O3:=by
 intro n
 induction n with
 | zero=>
  intro q pre k va Mb al hn hq wP k3 hM hp
  exact Hr V hS hJ0 bb mb bf of bj oj bs os ba bY bt d i ss ts M mm gf step va xs q Mb al hH hY pre k hT hq wP k3 hM hp λpre' k' ov M' al' _ h2=>absurd h2 oz
 | succ n ih=>
  intro q pre k va Mb al hn hq wP k3 hM hp
  exact Hr V hS hJ0 bb mb bf of bj oj bs os ba bY bt d i ss ts M mm gf step va xs q Mb al hH hY pre k hT hq wP k3 hM hp λpre' k' ov M' al' h1 h2 h3 h4 h5=>ih (q+1) pre' k' ov M' al' oz h1 h2 h3 h4 h5
theorem S6 (d:Db) (i:Nat) (ss:List Stp) (ts:List (List BA)) (M:Nat) (mm:List (BA×Int)) (gf:Fr) (step:Nat) (hT:lQ (⟨d,i,ss,ts,mm⟩:Jb) gf step):my prog J 101 [OB.mI M mm] [.ptr (a8 gf),.ptr [.ptr (jC d i ss ts M)],.ptr [lI (step:Int)]] (λx9=>[.rd (bQ x9)]) (oJ (⟨d,i,ss,ts,mm⟩:Jb) gf step) (none):=by
 refine wq (N:=12) func101 Y Y (lb Y) λS w0 R l κ μ σ I pv O3 O4 k0 hS hJ0 hH hY=>g5 (B:=So J S w0 12 (I ([]) k0++R) [(0,.rd (.lit (.func (.yield l) #[] #[]))),(1,.ptr (a8 gf)),(2,.ptr [.ptr (jC d i ss ts M)]),(3,.ptr [lI (step:Int)])]) ?_ λa w h=>h
 refine aL (VD (c:=.lit (.func (.yield l) #[] #[])) V Y Y Y (lb Y) (λa w h=>(h.get 0 Y)) λb1=>aA [0,2,3,4] U4 Y (nx (aL (qR aB cJ V Y Y Y (lb Y) λm2=>cx WR V Y Y Y (lb Y) λb3=>gI (b:=b3) (off:=0) (es:=[_]) V hJ0 Vs Y Y Y (lb Y) Y (λa w h=>⟨(h.get 0 Y),(h.get 1 Y)⟩) (aA [0,2,3,4,5] U5 Y (nx (tw (iJ 3 1 V) (aL (cx WU V Y Y Y (lb Y) λb4=>aA (r6 []) U6 Y (nx (aL (cx WV V Y Y Y (lb Y) λb5=>aA (r7 []) U7 Y (nx (yf (m:=6) Y λbs os=>yf (m:=6) Y λbj oj=>yf (m:=6) Y λbf of=>aL (sy (.lit (.func (.func 102) #[] #[.pointer (some ⟨b3,0,none⟩),.pointer (some ⟨bf,of,none⟩),.pointer (some ⟨bj,oj,none⟩),.pointer (some ⟨bs,os,none⟩),.pointer (some ⟨b4,0,none⟩),.pointer (some ⟨b1,0,none⟩),.pointer (some ⟨b5,0,none⟩)])) (λh=>H3 (caps:=[(.tmp 5),(.tmp 1),(.tmp 2),(.tmp 3),(.tmp 6),(.tmp 4),(.tmp 7)]) Y (map_cons (h.get 5 Y).lit (map_cons (h.get 0 Y).lit (map_cons (h.get 1 Y).lit (map_cons (h.get 2 Y).lit (map_cons (h.get 4 Y).lit (map_cons (h.get 6 Y).lit (map_cons (h.get 3 Y).lit map_nil))))))) h.x) ?_)))))))))))))))
 refine kw gF (gI (b:=b5) (off:=0) (es:=[_]) V hJ0 Vv Y Y Y (lb Y) Y (λa w h=>⟨(h.get 4 Y),(h.get 0 Y)⟩) (aA [4] [_] Y (nx (cC (sq (.lit (.func (.func 102) #[] #[.pointer (some ⟨b3,0,none⟩),.pointer (some ⟨bf,of,none⟩),.pointer (some ⟨bj,oj,none⟩),.pointer (some ⟨bs,os,none⟩),.pointer (some ⟨b4,0,none⟩),.pointer (some ⟨b1,0,none⟩),.pointer (some ⟨b5,0,none⟩)])) Y Y (lb Y) (λ_ _ h=>cg GQ Y (aG h.x (mo 0 Y)) (h.get 0 Y) Y h.x) (kw ct (kw gG (kw gG (kw gG (kw gG (kw gG (kw ct (kw ct (IM (O:=(OB.var b3 [.lit (.map (some m2))]::OB.map aB cJ m2 ([]:List (BA×List BA))::OB.pt bf of (a8 gf)::OB.pt bj oj [.ptr (jC d i ss ts M)]::OB.pt bs os [lI (step:Int)]::OB.var b4 [.lit (.slice none 0 0)]::OB.row (.slice none 0 0) 3 1 (([]:List Int).map bT)::OB.var b1 [.lit (.func (.yield l) #[] #[])]::OB.var b5 [.lit (.func (.func 102) #[] #[.pointer (some ⟨b3,0,none⟩),.pointer (some ⟨bf,of,none⟩),.pointer (some ⟨bj,oj,none⟩),.pointer (some ⟨bs,os,none⟩),.pointer (some ⟨b4,0,none⟩),.pointer (some ⟨b1,0,none⟩),.pointer (some ⟨b5,0,none⟩)])]::I ([]) k0)) (R:=R) [] [.pointer (some ⟨b3,0,none⟩),.pointer (some ⟨bf,of,none⟩),.pointer (some ⟨bj,oj,none⟩),.pointer (some ⟨bs,os,none⟩),.pointer (some ⟨b4,0,none⟩),.pointer (some ⟨b1,0,none⟩),.pointer (some ⟨b5,0,none⟩)] [.at b3 0,.at bf of,.at bj oj,.at bs os,.at b4 0,.at b1 0,.at b5 0] (TE V hS hJ0 b3 m2 bf of bj oj bs os b4 b1 b5 d i ss ts M mm gf step (oJ (⟨d,i,ss,ts,mm⟩:Jb) gf step) hH hY hT gf.aa.length 0 [] k0 (.slice none 0 0) [] [] oz Y aI yz Kp (List.prefix_refl _)) (cO func102) Y Y Y (lb Y) (λa w h=>(h.get 0 Y).lit) (λa w h=>aN) (λw=>(aq (Rel.aH _) (aq (Rel.aH _) (aq (Rel.aH _) (aq (Rel.aH _) (aq (Rel.aH _) (aq (Rel.aH _) (aq (Rel.aH _) aN)))))))) (λq=>wW q) (λs6=>?_) (λz7=>?_)))))))))))))))
 ·dsimp only[List.map,pD]
  refine aA [] [] Y (kw cK (kw cK (kw cK (kw cK (kw cK (kw cK (kw cK (kw cK (kw cK (λa w h=>wX s6.1.1 Y h))))))))))
 dsimp only[List.map,pD]
 have ez:=z7.2
 refine aA [] [] Y (kw cK (kw cK (kw cK (kw cK (kw cK (kw cK (kw cK (kw cK (kw cK (λa w h=>wV (Y) (ez.1) z7.1.2.1 Y h))))))))))
theorem S5 (d:Db) (i:Nat) (ss:List Stp) (ts:List (List BA)) (M:Nat) (gf:Fr) (step:Nat)  :Fn prog J 76 [.ptr (jC d i ss ts M),.agg (a8 gf),.int (step:Nat)] (.fn 101 [.ptr (a8 gf),.ptr [.ptr (jC d i ss ts M)],.ptr [lI (step:Int)]]):=by
 refine fE func76 λS w0 hS hJ0=>?_
 clear hJ0
 refine aJ tb V [1000,1001,1002] [.ptr [.ptr (jC d i ss ts M)],.ptr (a8 gf),.ptr [lI (step:Int)],_] [0,1,2] U3 Y ⟨λ_ _ hk Z hl _=>xx Y (hl.env 0 0 _ Y Y) (hS _ hk.size) (js V Z),d9 hS V,λ_ _ hk Z hl _=>ld Y (hl.env 2 2 _ Y Y) (hS _ hk.size) (js V Z),U⟩ ?_
 refine aJ tb V [1001] [.fn 101 [.ptr (a8 gf),.ptr [.ptr (jC d i ss ts M)],.ptr [lI (step:Int)]],_] [0] [_] Y ⟨λ_ _ _ Z hl _=>lf (caps:=[(.tmp 4),(.tmp 3),(.tmp 5)]) Y (aq (hl.env 1 4 _ Y Y) (aq (hl.env 0 3 _ Y Y) (aq (hl.env 2 5 _ Y Y) aN))) Z,U⟩ ?_
 exact aU 0 (hE:=Y)
end
end
section
section
variable {j:Jb} {g:Fr} {step:Nat}
theorem Jd (hm:∀ s z,aw j.M s=some z->0<=z):∀(hs:List Hy) (M:BM) (al:List Int),(jy j g step hs M al).1.length<=step^hs.length
 | [],M,al=>by
  rw[jy];split
  ·split<;>simp
  ·simp
 | y::hs,M,al=>by
  rw[jy]
  split
  ·have key:∀(l:List Nat) (q:List (List Int)×BM),(l.foldl (j5 (jy j g step hs) j y al) q).1.length<=q.1.length+l.length*step^hs.length:=by
    intro l
    induction l with
    | nil=>intro q;simp
    | cons t l ih=>
     intro q
     rw[foldl_cons]
     refine Nat.le_trans (ih _) ?_
     have:(j5 (jy j g step hs) j y al q t).1.length<=q.1.length+step^hs.length:=by
      unfold j5
      split
      ·simp only[length_append]
       exact Nat.add_le_add_left (Jd hm hs _ _) _
      ·exact Nat.le_add_right _ _
     rw[length_cons,Nat.add_mul]
     omega
   refine Nat.le_trans (key _ _) ?_
   have h1:=IL (j:=j) (hs:=g.aa) (step:=step) (h:=y) (M:=M) hm
   simp only[List.length_nil,Nat.zero_add,List.length_range',length_cons,Nat.pow_succ]
   rw[Nat.mul_comm (step^hs.length)]
   exact Nat.mul_le_mul_right _ oz
  ·simp
theorem DB (hm:∀ s z,aw j.M s=some z->0<=z):(oJ j g step).length<=step^g.aa.length:=by
 have:=Jd (g:=g) (step:=step) hm g.aa [] []
 simpa [oJ,ep]using this
theorem Hw {n m:Nat} (hn:n<=16) (hm:m<=4):n^m<=65536:=by
 have h1:n^m<=16^m:=Nat.pow_le_pow_left hn _
 have h2:16^m<=16^4:=Nat.pow_le_pow_right dz hm
 have:(16:Nat)^4=65536:=by decide
 omega
theorem Od (hm:∀ s z,aw j.M s=some z->0<=z) (hs:step<=16):(nQ j step g).length<=65536:=by
 unfold nQ
 split
 ·simp
 ·rw[length_map]
  exact Nat.le_trans (DB hm) (Hw hs oz)
theorem ES (hm:∀ s z,aw j.M s=some z->0<=z) (hs:step<=16):∀(fs:List Fr),(fs.flatMap (nQ j step)).length<=fs.length*65536
 | []=>by simp
 | f::fs=>by
  rw[List.flatMap_cons,length_append,length_cons,Nat.add_mul,Nat.one_mul,Nat.add_comm]
  exact Nat.add_le_add (ES hm hs fs) (Od hm hs)
theorem Vm:(oo j step).length<=1:=by unfold oo;split<;>simp
def kV (j:Jb) (step q:Nat):List bZ:=(oo j step++(j.d.ab.take q).flatMap (nQ j step)).filterMap (f4 j.ss)
theorem DE:kV j step 0=(oo j step).filterMap (f4 j.ss):=by simp[kV]
theorem Lw {q:Nat} (h:q<j.d.ab.length):kV j step (q+1)=kV j step q++(nQ j step (G j.d.ab q)).filterMap (f4 j.ss):=by
 unfold kV
 rw[List.take_add_one,List.getElem?_eq_getElem h,<-cF h]
 simp[List.filterMap_append,List.flatMap_append]
theorem Lu (hm:∀ s z,aw j.M s=some z->0<=z) (hs:step<=16) {q:Nat} (hq:q<=16):(kV j step q).length<=2000000:=by
 refine Nat.le_trans (List.length_filterMap_le _ _) ?_
 rw[length_append]
 have h1:=Vm (j:=j) (step:=step)
 have h2:=ES hm hs (j.d.ab.take q)
 have h3:(j.d.ab.take q).length<=16:=by rw[length_take];omega
 have h4:(j.d.ab.take q).length*65536<=16*65536:=Nat.mul_le_mul_right _ h3
 omega
theorem NX {α β:Type} {f:α->Option β} {l:List α} {x:α}:(l++[x]).filterMap f=l.filterMap f++(f x).toList:=by
 rw[List.filterMap_append]
 congr 1
end
theorem Om {i j:Nat} {α:Type} [Inhabited α] {l:List α} (h:j<i):G (l.take i) j=G l j:=by
 simp only[G,List.getD_eq_getElem?_getD,List.getElem?_take]
 rw[if_pos h]
structure lP (j:Jb):Prop where
 ok:ey j.ss
 Qs:j.ss.length<=16
 len:j.ts.length=j.ss.length
 ts:∀ t∈j.ts,(1<=t.length/\t.length<=2000)/\∀ s∈t,s.size<=60
 m1:∀ s z,aw j.M s=some z->0<=z/\z< (j.ts.length:Int)
 m2:∀ i,i<j.ts.length->(aw j.M (cq (G j.ts i))).isSome=true
 f16:j.d.ab.length<=16
 hi:j.i<j.d.ab.length
 wd:(G j.d.ab j.i).wide.length*32<=140737488351232
 fl:∀ g∈j.d.ab,∀ h∈g.aa,h.bn=true->h.ac.length=2
 tx:∀ g∈j.d.ab,∀ h∈g.aa,1<=h.ac.length/\∀ s∈h.ac,s.size<=60
 gh:∀ g∈j.d.ab,g.aa.length<=2000
section
variable {j:Jb} {g:Fr} {step:Nat}
theorem lP.try (h:lP j) (hg:g∈j.d.ab) (hs:step<j.ss.length):lQ j g step:=
 ⟨h.fl g hg,h.tx g hg,h.ts,by rw[h.len];exact hs,h.m1,h.m2,h.gh g hg,h.hi,h.wd⟩
theorem lP.m0 (h:lP j):∀ s z,aw j.M s=some z->0<=z:=λs z e=>(h.m1 s z e).1
theorem lP.fst (h:lP j) (hs:step<j.ss.length):0<=(aw j.M (cq (G j.ts step))).getD default/\(aw j.M (cq (G j.ts step))).getD default< (j.ss.length:Int)/\(aw j.M (cq (G j.ts step))).getD 0=(aw j.M (cq (G j.ts step))).getD default:=by
 obtain⟨z,hz⟩:=Option.isSome_iff_exists.1 (h.m2 step (by rw[h.len];exact hs))
 rw[hz]
 have:=h.m1 _ _ hz
 rw[h.len]at this
 exact⟨this.1,this.2,rfl⟩
end
end
section
open Go.RowKit
def OB.iM (Ds:List Nat):OB where
 blk:=λk=>k∈Ds
 inv:=λlo _ w=>Ds.Nodup/\∀ D∈Ds,lo<=D/\D<w.heap.size/\w.heap[D]?=some (.deferred (some []))
 mv:=λ⟨h0,h⟩ hk hb _=>⟨h0,λD hD=>⟨(h D hD).1,by have:=hk.size;have:=(h D hD).2.1;omega,(hk.block _ (h D hD).2.1 (hb _ hD)).trans (h D hD).2.2⟩⟩
 lt:=λ⟨_,h⟩ k hk=>⟨(h k hk).1,(h k hk).2.1⟩
section
variable {N:Nat} {J:WP} {S:Nat->Prop} {O:List OB} {w0:World} {env:List (Nat×AV)} {a:Act} {w:World} {D:Nat} {Ds:List Nat}
theorem xV {k:Nat}:SO S (OB.iM (D::Ds)::O) k↔SO S (OB.iM Ds::OB.fM D::O) k:=by
 constructor
 ·refine λh=>⟨h.1,λp hp=>?_⟩
  have h1:¬ k∈D::Ds:=h.2 (OB.iM (D::Ds)) yz
  rcases mem_cons.1 hp with rfl | hp
  ·exact λe=>h1 (mem_cons_of_mem _ e)
  ·rcases mem_cons.1 hp with rfl | hp
   ·exact λ(e:k=D)=>h1 (by simp[e])
   ·exact h.2 p (mem_cons_of_mem _ hp)
 ·refine λh=>⟨h.1,λp hp=>?_⟩
  rcases mem_cons.1 hp with rfl | hp
  ·intro(e:k∈D::Ds)
   rcases mem_cons.1 e with rfl | e
   ·exact h.2 (OB.fM k) yz rfl
   ·exact h.2 (OB.iM Ds) yz e
  ·exact h.2 p (mem_cons_of_mem _ (mem_cons_of_mem _ hp))
theorem VN (h:So J S w0 N (OB.iM Ds::OB.fM D::O) env a w):So J S w0 N (OB.iM (D::Ds)::O) env a w:=by
 have hp:=List.pairwise_cons.1 h.x.2.2
 have hp2:=List.pairwise_cons.1 hp.2
 obtain⟨g0,g⟩:=h.x.2.1 (OB.iM Ds) yz
 obtain⟨g1,g2,g3⟩:=h.x.2.1 (OB.fM D) yz
 refine⟨h.defs,h.size,h.keep,⟨h.x.1,λp hq=>?_,.cons (λp hq k hk=>?_) hp2.2⟩,λp hq=>⟨(h.env p hq).1,(h.env p hq).2.sub λ_ _ hk=>xV.2 hk⟩⟩
 ·rcases mem_cons.1 hq with rfl | hq
  ·refine⟨nodup_cons.2 ⟨λhm=>hp.1 (OB.fM D) yz D hm rfl,g0⟩,λD' hD=>?_⟩
   rcases mem_cons.1 hD with rfl | hD
   ·exact⟨g1,g2,g3⟩
   ·exact g D' hD
  ·exact OB.sub (h.x.2.1 p (mem_cons_of_mem _ (mem_cons_of_mem _ hq))) λ_ _ hk=>xV.2 hk
 ·rcases mem_cons.1 hk with rfl | hk
  ·exact hp2.1 p hq k rfl
  ·exact hp.1 p (mem_cons_of_mem _ hq) k hk
theorem VO (h:So J S w0 N (OB.iM (D::Ds)::O) env a w):So J S w0 N (OB.fM D::OB.iM Ds::O) env a w:=by
 have hp:=List.pairwise_cons.1 h.x.2.2
 obtain⟨g0,g⟩:=h.x.2.1 (OB.iM (D::Ds)) yz
 have g1:=nodup_cons.1 g0
 refine ot (.swap _ _ _) ⟨h.defs,h.size,h.keep,⟨h.x.1,λp hq=>?_,.cons (λp hq k hk=>?_) (.cons (λp hq k hk=>hp.1 p hq k (by rw[show k=D from hk];exact List.mem_cons_self)) hp.2)⟩,λp hq=>⟨(h.env p hq).1,(h.env p hq).2.sub λ_ _ hk=>xV.1 hk⟩⟩
 ·rcases mem_cons.1 hq with rfl | hq
  ·exact⟨g1.2,λD' hD=>g D' (mem_cons_of_mem _ hD)⟩
  ·rcases mem_cons.1 hq with rfl | hq
   ·exact g D yz
   ·exact OB.sub (h.x.2.1 p (mem_cons_of_mem _ hq)) λ_ _ hk=>xV.1 hk
 ·rcases mem_cons.1 hq with rfl | hq
  ·exact λe=>g1.1 (by rw[<-show k=D from e];exact hk)
  ·exact hp.1 p hq k (mem_cons_of_mem _ hk)
theorem VM (h:So J S w0 N O env a w):So J S w0 N (OB.iM []::O) env a w:=by
 have hs:∀ k,SO S O k->SO S (OB.iM []::O) k:=λk hk=>⟨hk.1,λq hq=>by
  rcases mem_cons.1 hq with rfl | hq
  ·exact λe=>(by cases e)
  ·exact hk.2 q hq⟩
 refine⟨h.defs,h.size,h.keep,⟨h.x.1,λq hq=>?_,.cons (λ_ _ _ e=>by cases e) h.x.2.2⟩,λq hq=>⟨(h.env q hq).1,(h.env q hq).2.sub λk _=>hs k⟩⟩
 rcases mem_cons.1 hq with rfl | hq
 ·exact⟨.nil,λD hD=>by cases hD⟩
 ·exact OB.sub (h.x.2.1 q hq) λk _=>hs k
end
section
variable {P:Program} {fid:FuncId} {Q:Exit->Act->WP} {a:Act} {w:World} {A:Act->WP}
theorem J7 {ι:Type} {c:Code} (I:ι->Act->WP) (μ:ι->Nat) (h:∀ i a w,I i a w->Code.gj fid P c (Exit.then (λa' w'=>∃ j,I j a' w'/\μ j<μ i) Q) a w) (i0:ι) (h0:I i0 a w):Code.gj fid P (.loop c) Q a w:=by
 intro b k cs hro hb
 have key:∀ m a w i,μ i=m->I i a w->
  ∃ e a' w',Q e a' w'/\ArrivesIn (Machine.fenced P Fence.wide) P (lone (b.atR a (.code c:: .inLoop c::k)) cs w) b k cs e a' w':=by
  intro m
  induction m using Nat.strongRecOn with
  | _ m ih=>
   intro a w i hn hI
   obtain⟨e,a₁,w₁,hq,harr⟩:=h i a w hI b (.inLoop c::k) cs hro hb
   cases e with
   | normal=>
    obtain⟨j,hj,hlt⟩:=hq
    obtain⟨e₂,a₂,w₂,hq₂,harr₂⟩:=ih (μ j) (hn▸hlt) a₁ w₁ j rfl hj
    exact⟨e₂,a₂,w₂,hq₂,.of_steps (StepsIn.trans harr (.one (fenced_calm (n:=0) trivial (lM _) rfl) stepR_inLoop)) harr₂⟩
   | exit id=>exact⟨_,a₁,w₁,hq,.pass (x:=.inLoop c) rfl (λ_ _=>.inl yz) harr⟩
   | goto l=>exact⟨_,a₁,w₁,hq,.pass (x:=.inLoop c) rfl (λ_ _=>.inl yz) harr⟩
   | ret=>exact⟨_,a₁,w₁,hq,.pass (x:=.inLoop c) rfl (λ_ _=>.inl yz) harr⟩
   | panic ch=>exact⟨_,a₁,w₁,hq,.pass (x:=.inLoop c) rfl (λ_ _=>.inl yz) harr⟩
   | outgrown=>exact⟨_,a₁,w₁,hq,.pass (x:=.inLoop c) rfl (λ_ _=>.inl yz) harr⟩
 obtain⟨e,a',w',hq,harr⟩:=key _ a w i0 rfl h0
 exact⟨e,a',w',hq,.of_steps (.one (fenced_calm (n:=0) trivial (lM _) rfl) stepR_loop) harr⟩
def nD (fid:FuncId) (ds:List Deferred) (P:Program) (A:Act->WP) (c:Code) (Q:Exit->Act->WP):Prop:=∀ a w,A a w->Code.gj fid P c Q (phi ds a) w
variable {ds:List Deferred}
theorem ta {m:Nat} {x y:Code} (h:jR (⟨m,none⟩:Rn) ds P A x (Exit.then (λa w=>Code.gj fid P y Q a w) Q)):nD fid ds P A (.seq x y) Q:=λa w ha=>vn (yI (h a w ha))
theorem JY {x y:Code} (h:nD fid ds P A x (Exit.then (λa w=>Code.gj fid P y Q a w) Q)):nD fid ds P A (.seq x y) Q:=λa w ha=>vn (h a w ha)
theorem CP {id:Nat} {c:Code} (h:nD fid ds P A c (Exit.inBlock id Q)):nD fid ds P A (.block id c) Q:=λa w ha=>CV (h a w ha)
theorem ui {y:Code} (h:nD fid ds P A y Q):∀ a w,A a w->Code.gj fid P y Q (phi ds a) w:=h
theorem alw {B:Act->WP} {c:Code} (lZ:∀ {a:Act} {w:World},A a w->B a w) (h:nD fid ds P B c Q):nD fid ds P A c Q:=λa w ha=>h a w (lZ ha)
end
section
variable {N:Nat} {P:Program} {J:WP} {S:Nat->Prop} {O:List OB} {w0:World} {env:List (Nat×AV)} {fn:Func} {R:Ending->WP} {a:Act} {w:World} {D:Nat} {fid:FuncId} {Q:Exit->Act->WP} {c:Code}
theorem QQ {ι:Type} (F:ι->Prop) (O':ι->List OB) (E:ι->List (Nat×AV)) (μ:ι->Nat) (ks:List Nat) (eK:List (Nat×AV)) (i0:ι) (h0:F i0)
 (h:∀ i,F i->∀ Ds,nD fid (kG Ds) P (So J S w0 N (OB.iM Ds::O' i) (eK++E i)) c (Exit.then (λa' w=>∃ j,(∃ Ds' a1,a'=phi (kG Ds') a1/\F j/\So J S w0 N (OB.iM Ds'::O' j) (eK++E j) a1 w)/\μ j<μ i) Q)) (hO:O=O' i0:=by exact rfl) (he:ks.map (env[·]?)=(eK++E i0).map some:=by exact rfl):ka fid P (So J S w0 N O env) (.loop c) Q:=λa w ha=>by
 refine J7 (λi a' w=>∃ Ds' a1,a'=phi (kG Ds') a1/\F i/\So J S w0 N (OB.iM Ds'::O' i) (eK++E i) a1 w) μ (λi a w ⟨Ds,a1,e,hF,hs⟩=>e▸h i hF Ds a1 w hs) i0 ⟨[],a,?_,h0,VM (lz ks he (hO▸ha))⟩
 show a= { a with defers:=a.defers++[] }
 rw[List.append_nil]
theorem Gc {ι:Type} {F:ι->Prop} {O':ι->List OB} {E:ι->List (Nat×AV)} {μ:ι->Nat} {m':Nat} {eK:List (Nat×AV)} {Ds:List Nat} (j:ι) (ks:List Nat) (hF:F j) (hm:μ j<m':=by(try dsimp only);first | omega | (simp;omega)) (hO:O=OB.iM Ds::O' j:=by exact rfl) (he:ks.map (env[·]?)=(eK++E j).map some:=by exact rfl):∀ a w,So J S w0 N O env a w->∃ j,(∃ Ds' a1,phi (kG Ds) a=phi (kG Ds') a1/\F j/\So J S w0 N (OB.iM Ds'::O' j) (eK++E j) a1 w)/\μ j<m':=
 λa _ ha=>⟨j,⟨Ds,a,rfl,hF,lz ks he (hO▸ha)⟩,hm⟩
theorem Qi {n:Rn} {y:Code} {ι:Type} (F:ι->Prop) (O':ι->List OB) (E:ι->List (Nat×AV)) (h1:Tr n P (So J S w0 N O env) c (Exit.then (λa w=>∃ j,F j/\So J S w0 N (O' j) (E j) a w) Q)) (h2:∀ i,F i->∀ a w,So J S w0 N (O' i) (E i) a w->Exit.then (λa w=>Code.gj fid P y Q a w) Q .normal a w):Tr n P (So J S w0 N O env) c (Exit.then (λa w=>Code.gj fid P y Q a w) Q):=
 λa w ha=>wpIn_mono (h1 a w ha) λe a' w' he=>by
  cases e with
  | normal=>obtain⟨j,hF,hs⟩:=he;exact h2 j hF a' w' hs
  | _=>exact he
theorem R9 (V:aR J) (hJ0:J w0) (h:∀ a w,So J S w0 N O env a w->bodyPost P fn R .ret a w) (Ds:List Nat):∀ a w,So J S w0 N (OB.iM Ds::O) env a w->bodyPostM Fence.wide 5 P fn R .ret (phi (kG Ds) a) w:=by
 intro a w ha
 show LeavesInM Fence.wide 5 P fn a.tmps R (a.defers++kG Ds) .returning w
 rw[ha.defs]
 show LeavesInM Fence.wide 5 P fn a.tmps R (kG Ds) .returning w
 induction Ds generalizing w with
 | nil=>
  have:=GX (h a w (cK ha))
  show LeavesInM Fence.wide 5 P fn a.tmps R [] .returning w
  have e:bodyPostM Fence.wide 5 P fn R .ret a w=LeavesInM Fence.wide 5 P fn a.tmps R a.defers .returning w:=rfl
  rw[e,ha.defs]at this
  exact this
 | cons D Ds ih=>
  obtain⟨h1,h2⟩:=IW V hJ0 (VO ha)
  exact⟨by simp,.inl ⟨D,_,rfl,run_takeDeferred h1,ih _ h2⟩⟩
end
theorem NY {P:Program} {J:WP} {f:FuncId} {Hs:List OB} {args:List AV} {res:AV} (h:fc (ι:=Unit) P J f Hs args [] (λ_=>res) (λ_=>[])):cD P J f Hs args res:=by
 intro S w vs hS V hH ha
 refine Calls.mono (h S w [] w vs hS V hH (Keeps.refl _ _) (yr V) (ha.sub λk _ hk=>⟨hk,λq hq=>(by cases hq)⟩)) ?_
 rintro e' w' ⟨i,v,he,hv,hk,Z⟩
 exact⟨_,he,hv.sub λk _ hs=>hs.1,hk,Z.1⟩
theorem QE {J:WP} {S:Nat->Prop} {N:Nat} {P:Program} {w0:World} {O:List OB} {env:List (Nat×AV)} {a:Act} {w:World} {b b2:Nat} {cs cs2:List CD} {t t2:TypeId} {fn:Func} {d m q u:Nat} {k k2:Nat} {cs' DQ:List CD} (hr:fn.results= #[.cell d t,.cell u t2]) (h1:fY P t k) (h2:fY P t2 k2) (h:So J S w0 N (OB.var b cs::OB.var b2 cs2::O) env a w) (he:env[m]?=some (d,.at b 0)) (k4:env[q]?=some (u,.at b2 0)) (hl:cs.length=k) (hl2:cs2.length=k2) (hE:cs=cs') (nS:cs2=DQ):
 bodyPost P fn (λe w'=>∃ v,e= .returned v/\Rel S w' (.bF [.agg cs',.agg DQ]) v/\Keeps All w0 w'/\J w') .ret a w:=by
 subst hE
 subst nS
 obtain⟨h0,us,e,hb,hrd⟩:=h.x.2.1 (OB.var b cs) yz
 obtain⟨g0,vs,e',gb,grd⟩:=h.x.2.1 (OB.var b2 cs2) yz
 have hd:a.tmps.getD d undef= .pointer (some ⟨b,0,none⟩):=(h.get m he).lit
 have hu:a.tmps.getD u undef= .pointer (some ⟨b2,0,none⟩):=(h.get q k4).lit
 have hrun:=mq (P:=P) b 0 w us 0 #[] λj u hj=>by rw[Nat.zero_add];simp[World.cell?,hb,hj]
 rw[show us.length=k by rw[hrd.length,hl]]at hrun
 have FC:=mq (P:=P) b2 0 w vs 0 #[] λj u hj=>by rw[Nat.zero_add];simp[World.cell?,gb,hj]
 rw[show vs.length=k2 by rw[grd.length,hl2]]at FC
 have hd':a.tmps[d]?.getD undef= .pointer (some ⟨b,0,none⟩):=by rw[<-Array.getD_eq_getD_getElem?];exact hd
 have hu':a.tmps[u]?.getD undef= .pointer (some ⟨b2,0,none⟩):=by rw[<-Array.getD_eq_getD_getElem?];exact hu
 refine⟨h.defs,.tuple #[.agg us.toArray,.agg vs.toArray],by simp[results,hr,hd',hu',asAddr,Sem.run_bind,loadVar,loadCells,h1.1 w,h1.2 w,h2.1 w,h2.2 w,hrun,FC],_,rfl,?_,h.keep,h.x.1⟩
 simp only[Rel,bi]
 exact⟨_,rfl,_,_,rfl,⟨us,rfl,hrd.sub λ_ _ hk=>hk.1⟩,_,_,rfl,⟨vs,rfl,grd.sub λ_ _ hk=>hk.1⟩,rfl⟩
section
variable {n:Rn} {P:Program} {S:Nat->Prop} {X:WP}
theorem Ux (g:Nat->Value):(Array.range 6).map g= #[g 0,g 1,g 2,g 3,g 4,g 5]:=by apply Array.toList_inj.1;simp[List.range_succ]
theorem UY {t e:TypeId} {z:Value} (ht:dA P t e 6) (hz:∀ w,(zeroValue e).run P w= .ok z w) (us:List Value) (hu:us.length=6) (w:World):
 (Instr.buildSlice t 1 #[(0,.agg us.toArray)]).run P w= .ok (.slice (some ⟨w.heap.size,0,none⟩) 1 1) (w.alloc (.cells us.toArray e)):=by
 unfold Instr.buildSlice
 match us,hu with
 | [a,b,c,d,f,g],_=>
  have hc:(Value.agg [a,b,c,d,f,g].toArray).cells= #[a,b,c,d,f,g]:=rfl
  simp[Sem.run_bind,run_underlying ht.1,ht.2 w,hz w,Instr.fill,hc,newRow,newObj,Sem.run,Ux]
theorem HP {cs:List CD} {o:Oper} {a:Act} {w:World} {x:Operand} {t e:TypeId} (ht:dA P t e 6) (hz:kb P e) (hc:cs.length=6) (hop:o.op= .buildSlice t 1 #[(0,x)]) (h:Rel S w (.agg cs) (a.eval x)) (hS:S w.heap.size) (Z:∀ w',Keeps All w w'->X w'):Does n P o a w (bG S X (.rd (.sl [cs])) w):=by
 obtain⟨z,f9⟩:=hz
 simp only[Rel]at h
 obtain⟨us,hv,hr⟩:=h
 have hk':Keeps All w (w.alloc (.cells us.toArray e)):=(Keeps.refl _ _).alloc _
 refine en (v:=.slice (some ⟨w.heap.size,0,none⟩) 1 1) (w':=w.alloc (.cells us.toArray e)) ?_ ⟨?_,hk',Z _ hk'⟩
 ·have:=UY ht f9 us (by rw[hr.length,hc]) w
  rw[execOp,hop]
  simp only[List.map_toArray,List.map_cons,List.map_nil,Sem.run_bind,hv,this]
  rfl
 ·simp only[Rel]
  refine Rd.of_cells (n:=6) (us:=us) aV dz yz hS (λr hr=>by simp at hr;subst hr;exact hc) (by simp only[List.flatten_cons,List.flatten_nil,List.append_nil];exact hr.keep hk' λ_ _ _=>trivial) λj u hj=>nJ j u hj
end
end
section
open Go.RowKit
theorem W6:mz prog 37 6:=⟨(#[.int .i64 0,.int .i64 0,.string ⟨#[]⟩,.slice none 0 0,.int .i64 0,.int .i64 0]),Y,by kernel_rfl⟩
theorem GR:eu prog 42:=nO
theorem p7:dA prog 42 37 6:=eO
theorem JH:kb prog 37:=⟨.agg #[.int .i64 0,.int .i64 0,.string ⟨#[]⟩,.slice none 0 0,.int .i64 0,.int .i64 0],λw=>by kernel_rfl⟩
theorem CS:jA prog 42 37 6 72:=oF (.agg #[.int .i64 0,.int .i64 0,.string ⟨#[]⟩,.slice none 0 0,.int .i64 0,.int .i64 0]) yq yq Y dz (λw=>by kernel_rfl)
theorem Vw:dV prog 42 1:=zO
theorem WX:gm prog 42 [.lit (.slice none 0 0)]:=⟨(.slice none 0 0),λw=>by kernel_rfl,λS w=>(show bE S w [.lit (.slice none 0 0)] [.slice none 0 0]from⟨.lit _ True.intro,U⟩)⟩
theorem WQ:gm prog 134 [.lit .nilFunc]:=⟨(.nilFunc),λw=>by kernel_rfl,λS w=>(show bE S w [.lit .nilFunc] [.nilFunc]from⟨.lit _ True.intro,U⟩)⟩
theorem Vr:dV prog 134 1:=zO
theorem GO:eu prog 134:=nO
theorem Df:oy prog 37 [.int .i64 0,.int .i64 0,.string ⟨#[]⟩,.slice none 0 0,.int .i64 0,.int .i64 0]:=⟨λi=>(#[(0,1),(1,1),(2,1),(3,1),(4,1),(5,1)]:Array (Nat×Nat))[i]?,λj hj=>by rcases j with _ | _ | _ | _ | _ | _ | j<;>first | rfl | (simp at hj;omega) | simp at hj,λparts=>by kernel_rfl⟩
section
variable {J:WP} (V:aR J)
include V
theorem Ha (bj oj bo:Nat) (d:Db) (i:Nat) (ss:List Stp) (ts:List (List BA)) (M:Nat) (c:bZ) (vo:Value) (xs:List bZ) (bw:ey ss) (gT:0<=c.step) (f8:c.step< (ss.length:Int)) (jW:∀ a∈c.args,0<=a/\a<c.step) (dl:c.args.length<=40) (hc1:c.dN=2∨1<=c.args.length) (n9:xs.length<=3000000):fc (ι:=Value) prog J 75 [] [.agg (cm c),.at bj oj,.at bo 0] [OB.pt bj oj [.ptr (jC d i ss ts M)],OB.var bo [.lit vo],OB.row vo 37 6 (xs.map cm)] (λ_=>.bF []) (λi'=>[OB.pt bj oj [.ptr (jC d i ss ts M)],OB.var bo [.lit (i')],OB.row i' 37 6 ((xs++(f4 ss c).toList).map cm)]):=by
 refine ji func75 λS w0 R hS hJ0 hH=>?_
 refine g5 (B:=So J S w0 17 (OB.pt bj oj [.ptr (jC d i ss ts M)]::OB.var bo [.lit vo]::OB.row vo 37 6 (xs.map cm)::R) [(0,.agg (cm c)),(1,.at bj oj),(2,.at bo 0)]) ?_ λa w h=>h
 refine tw (uN (i:=0) (m:=1) Y Y) (au tb V [0,2,1000] [.ptr (cm c)] [0] U3 Y ⟨cY hS V,U⟩ ?_)
 refine aL (ao 2 tb Y (sy (.bF [.agg (cm (ii ss c)),.bool (decide ((((cw ss c).length:Nat):Int)< ((dd ss:Nat):Int)))]) (λh=>cV (Bs V d i ss ts M c (by exact bw) (by exact gT) (by exact f8) (by exact jW) (by exact dl) (by exact hc1)) (cO func69) Y (aK hS _ h.keep h.x) (h.x.1) (aq (h.get 1 Y) (aq (h.get 0 Y) aN)) (jo V h.x)) ?_))
 refine ao 3 tb Y (iX (cs:=cm (ii ss c)) W6 Y Y Y (lb Y) Y Y Y dz (m:=1) Y Y (λa w h=>aK hS _ h.keep h.x _ aV) (λa w h w' hk'=>fo V _ _ hk' h.x) (ao 1 tb Y (aA [0,1,9] U3 Y (nx (aj tb V [1,2,1000] [_] U3 ?_)))))
 refine cj 2 ?_ ?_<;>intro hb1<;>try simp at hb1
 ·refine cC (sq (.lit vo) Y Y (lb Y) (λ_ _ h=>cg GR Y (aG h.x (mo 1 Y)) (h.get 1 Y) Y h.x) (ao 1 tb Y (sy (.rd (gB ([(ii ss c)]))) (λh=>HP p7 JH Y Y (h.get 0 Y) (aK hS _ h.keep h.x _ aV) (jo V h.x)) ?_)))
  refine kw du (fN (f:=cm) (m:=2) (s:=13) xs ([(ii ss c)]) (λ_=>Y) CS V hJ0 Y Y Y (lb Y) Y Y (λa w h=>(h.get 0 Y)) (by simp;omega) (by simp;omega) λv1=>?_)
  refine kw du (gI (b:=bo) (off:=0) (es:=[_]) V hJ0 Vw Y Y Y (lb Y) Y (λa w h=>⟨(h.get 5 Y),(h.get 0 Y)⟩) (aA [1] [_] Y (kw bO (kw bO (kw du (kw (Bf (congrArg (λz'=>OB.row v1 37 6 ((z').map cm)) (show(xs++([(ii ss c)]))=(xs++(f4 ss c).toList)from by first | (rw[f4,if_pos hb1];rfl) | (rw[f4,if_neg oz];simp)))) (λa w h=>AQ  v1 Y h Y)))))))
 ·exact ak (kw (Bf (congrArg (λz'=>OB.row vo 37 6 ((z').map cm)) (show xs=(xs++(f4 ss c).toList)from by first | (rw[f4,if_pos hb1];rfl) | (rw[f4,if_neg oz];simp)))) (λa w h=>AQ  vo Y h Y))
theorem S7 (d:Db) (i:Nat) (ss:List Stp) (ts:List (List BA)) (M:Nat) (mm:List (BA×Int)) (step:Nat) (hW:lP (⟨d,i,ss,ts,mm⟩:Jb)) (hs:step<ss.length):fc (ι:=Unit) prog J 41 [OB.mI M mm] [.ptr (jC d i ss ts M),.int (step:Nat)] [] (λ_=>.rd (gB (lv (⟨d,i,ss,ts,mm⟩:Jb) step))) (λ_=>[]):=by
 refine EI (N:=67) func41 Y Y (lb Y) λS w0 R hS hJ0 hH=>oH (B:=So J S w0 67 (R) [(0,.ptr (jC d i ss ts M)),(1,.int (step:Nat))]) (λh=>h) ?_
 have jX:ts.length=ss.length:=hW.len
 have tO:=hW.fst hs
 have bw:ey ss:=hW.ok
 have h16:ss.length<=16:=hW.Qs
 have mY:d.ab.length<=16:=hW.f16
 have rM:i<d.ab.length:=hW.hi
 refine im (m:=5) (aT tb V [1000,1001] [.ptr [.ptr (jC d i ss ts M)],.ptr [lI (step:Int)],_] [0,1] U2 Y ⟨λ_ _ hk Z hl _=>xx Y (hl.env 0 0 _ Y Y) (aK hS _ hk Z _ aV) (jo V Z),λ_ _ hk Z hl _=>ld Y (hl.env 1 1 _ Y Y) (aK hS _ hk Z _ aV) (jo V Z),U⟩ ?_)
 refine iC (im (m:=5) (tw (iJ 37 6 V) (cC (cx WX V Y Y Y (lb Y) λb1=>aA [0,1,2] U3 Y (iC (im (m:=5) (yf (m:=1) Y λbj oj=>cC (sq (.lit (.func (.func 75) #[] #[.pointer (some ⟨bj,oj,none⟩),.pointer (some ⟨b1,0,none⟩)])) Y Y (lb Y) (λ_ _ h=>H3 (caps:=[(.tmp 2),(.tmp 5)]) Y (map_cons (h.get 0 Y).lit (map_cons (h.get 1 Y).lit map_nil)) h.x) (cx WQ V Y Y Y (lb Y) λb2=>gI (b:=b2) (off:=0) (es:=[_]) V hJ0 Vr Y Y Y (lb Y) Y (λa w h=>⟨(h.get 0 Y),(h.get 1 Y)⟩) (aA [0,2,3,4] U4 Y (kw (uN (i:=1) (m:=1) Y Y) (iC (im (m:=5) (au tb V [0,1,2,3,1007,1010,1013] (V9 [.ptr [ai (G ts step)],_,.str (cq (G ts step)),.int ((aw mm (cq (G ts step))).getD default),_]) [9,11,12] U7 Y ⟨bq eG,bJ hS V (xq V (G ts step) (by exact(hW.ts _ (aE (show step<ts.length by omega))).1.2) (by exact(hW.ts _ (aE (show step<ts.length by omega))).2)) (cO func64),λ_ _ hk Z hl _=>BC (Kd:=aB) (f:=(λz':Int=>AV.int z')) (L:=mm) xa Cq (cq (G ts step)) Y (dC hH hk Z (mo 0 Y)) (hl.D 3 15 Y Y) (hl.D 11 23 Y Y) Z,U⟩ ?_))))))))))))))
 refine ln 4 λ_=>?_
 refine ln 5 λ_=>?_
 refine aj tb V [0,1,2,3,6,1002] U3 U6 ?_
 refine Qi (ι:=Value×(List bZ)) (λ(_,xj)=>(xj=kV (⟨d,i,ss,ts,mm⟩:Jb) step 0)) (λ(wj,xj)=>(OB.var b2 [.lit (.func (.func 75) #[] #[.pointer (some ⟨bj,oj,none⟩),.pointer (some ⟨b1,0,none⟩)])]::OB.pt bj oj [.ptr (jC d i ss ts M)]::OB.var b1 [.lit wj]::OB.row wj 37 6 (xj.map cm)::R)) (λ(_,_)=>[(2,.ptr [.ptr (jC d i ss ts M)]),(6,.at b2 0),(5,.at b1 0),(3,.ptr [lI (step:Int)])]) ?_ ?_
 refine cj 5 ?_ ?_<;>intro hb1<;>try simp at hb1
 refine cC (sq (.lit (.func (.func 75) #[] #[.pointer (some ⟨bj,oj,none⟩),.pointer (some ⟨b1,0,none⟩)])) Y Y (lb Y) (λ_ _ h=>cg GO Y (aG h.x (mo 0 Y)) (h.get 1 Y) Y h.x) (ao 2 tb (env':=[(30,_),(29,_),(28,_),(2,_),(6,_),(5,_),(3,_),(7,_),(27,_)]) Y (sy (.rd (bQ ([((aw mm (cq (G ts step))).getD default)]))) (λh=>fz c8 px Y (h.get 0 Y) (aK hS _ h.keep h.x _ aV) (jo V h.x)) ?_)))
 refine sq (.agg (cm (⟨(1:Int),(step:Int),⟨#[]⟩,[((aw mm (cq (G ts step))).getD default)],0,0⟩:bZ))) Y Y (lb Y) (λa _ h=>gr (ps:=[(0,a.eval (.const (.int .i64 1))),(1,a.eval (.tmp 29)),(3,a.eval (.tmp 31))]) (us:=[a.eval (.const (.int .i64 1)),a.eval (.tmp 29),.string ⟨#[]⟩,a.eval (.tmp 31),.int .i64 0,.int .i64 0]) Df Y yz (kB (lb Y) Y (kB (lb Y) (Rel.mi (h.get 2 Y)) (kB (lb Y) (Rel.mi (h.get 0 Y)) gn))) Y (b6 (Rel.aH (.int .i64 1)) (b6 (h.get 2 Y) (dT (.lit _ aI) (b6 (h.get 0 Y) (dT (.lit _ True.intro) (dT (.lit _ True.intro) cM)))))) h.x) (kw gF (kw gF (kw gF (IP (O:=[OB.pt bj oj [.ptr (jC d i ss ts M)],OB.var b1 [.lit (.slice none 0 0)],OB.row (.slice none 0 0) 37 6 (([]:List bZ).map cm)]) (R:=(OB.var b2 [.lit (.func (.func 75) #[] #[.pointer (some ⟨bj,oj,none⟩),.pointer (some ⟨b1,0,none⟩)])]::R)) [.agg (cm (⟨(1:Int),(step:Int),⟨#[]⟩,[((aw mm (cq (G ts step))).getD default)],0,0⟩:bZ))] [.pointer (some ⟨bj,oj,none⟩),.pointer (some ⟨b1,0,none⟩)] [.at bj oj,.at b1 0] (Ha V bj oj b1 d i ss ts M (⟨(1:Int),(step:Int),⟨#[]⟩,[((aw mm (cq (G ts step))).getD default)],0,0⟩:bZ) (.slice none 0 0) ([]:List bZ) (by exact bw) (by dsimp only;omega) (by dsimp only;omega) (by first | exact dg.2.2 | (intro a ha;rw[mem_singleton.1 ha];exact⟨tO.1,oz⟩)) (by first | (rw[dg.2.1];omega) | simp) yz (by first | omega | simp)) (cO func75) Y Y Y (lb Y) hS hJ0 b8 (λa w h=>(h.get 4 Y).lit) (λa w h=>(aq (h.get 0 Y) aN)) (λw=>(aq (Rel.aH (.pointer (some ⟨bj,oj,none⟩))) (aq (Rel.aH (.pointer (some ⟨b1,0,none⟩))) aN))) λz3=>aA [2,6,7,8,9] U5 Y (kw du (kw du (kw du (kw gF (qq (z3,(([]:List bZ)++(f4 ss (⟨(1:Int),(step:Int),⟨#[]⟩,[((aw mm (cq (G ts step))).getD default)],0,0⟩:bZ)).toList)) [1,2,3,4] (show(([]:List bZ)++(f4 ss (⟨(1:Int),(step:Int),⟨#[]⟩,[((aw mm (cq (G ts step))).getD default)],0,0⟩:bZ)).toList)=kV (⟨d,i,ss,ts,mm⟩:Jb) step 0 from by rw[DE,oo,if_pos (by show(aw mm (cq (G ts step))).getD 0<_;rw[tO.2.2];exact hb1),tO.2.2];simp only[List.filterMap_cons,List.filterMap_nil];cases f4 ss _<;>rfl))))))))))
 exact ak (qq ((.slice none 0 0),([]:List bZ)) [0,1,2,3] (show([]:List bZ)=kV (⟨d,i,ss,ts,mm⟩:Jb) step 0 from by rw[DE,oo,if_neg (by show ¬ (aw mm (cq (G ts step))).getD 0<_;rw[tO.2.2];exact Int.not_lt.2 hb1)];rfl))
 rintro⟨wj,xj⟩ hF
 have Oe:xj=kV (⟨d,i,ss,ts,mm⟩:Jb) step 0:=hF
 refine iC (ve (im (m:=5) (aT tb V [0,1,2,3,1004,1009,1010,1011] (V9 [.rd (dX (d.ab.take i)),.int ((d.ab.take i).length:Nat),_]) [9,10] U8 Y ⟨λ_ _ _ Z hl _=>iW (ys:=d.ab.take i) (lo:=0) (hi:=i) List.drop_zero fT (λ_=>Y) Y (hl.D 4 38 Y Y) Y (hl.D 8 42 Y Y) ay ay Z,aC nv,U⟩ ?_)))
 refine iC (mf 4 λ_=>?_)
 refine mf 5 λ_=>?_
 refine vd (QQ (ι:=Nat×(List bZ)×Value) (λ(q,out,_)=>(q<=i)/\(out=kV (⟨d,i,ss,ts,mm⟩:Jb) step q)) (λ(_,out,wo)=>(OB.var b2 [.lit (.func (.func 75) #[] #[.pointer (some ⟨bj,oj,none⟩),.pointer (some ⟨b1,0,none⟩)])]::OB.pt bj oj [.ptr (jC d i ss ts M)]::OB.var b1 [.lit wo]::OB.row wo 37 6 (out.map cm)::R)) (λ(q,_,_)=>[(45,.int (q:Nat))]) (λ(q,_,_)=>i-q) [0,1,2,3,5,6,7] U6 (0,xj,wj) ⟨aI,Oe⟩ ?_)
 rintro⟨q,out,wo⟩ ⟨aQ,ah⟩
 intro Cz
 refine ta (m:=5) (mM (ao 1 tb (env':=[(46,_),(2,_),(6,_),(5,_),(3,_),(43,_),(44,_),(45,_)]) Y (aA (r8 []) U8 Y (ui (ta (m:=5) (DT 0 ?_ ?_))))))<;>intro hb2<;>try simp at hb2
 have ef:G (d.ab.take i) q=G d.ab q:=Om oz
 have dl:=Lu (j:=(⟨d,i,ss,ts,mm⟩:Jb)) (step:=step) hW.m0 (show step<=16 by omega) (show q<=16 by omega)
 rw[<-ah]at dl
 have ex:kV (⟨d,i,ss,ts,mm⟩:Jb) step (q+1)=kV (⟨d,i,ss,ts,mm⟩:Jb) step q++(nQ (⟨d,i,ss,ts,mm⟩:Jb) step (G (d.ab.take i) q)).filterMap (f4 ss):=by rw[ef];exact Lw (show q<d.ab.length by omega)
 refine D0 (ui (JY (CP (ta (m:=5) (mM (sy (.ptr (a8 (G (d.ab.take i) q))) (λh=>cb (i:=(q:Int)) fT Y (h.get 5 Y) (h.get 7 Y) bK (cl (xs:=d.ab.take i) (k:=q) ay) Y h.x) ?_))))))
 refine ao 1 tb (env':=[(48,_),(47,_),(46,_),(2,_),(6,_),(5,_),(3,_),(43,_),(44,_),(45,_)]) Y (iX (cs:=a8 (G (d.ab.take i) q)) yn Y Y Y (lb Y) Y Y Y dz (m:=0) Y Y (λa w h=>aK hS _ h.keep h.x _ aV) (λa w h w' hk'=>fo V _ _ hk' h.x) (aA [0,4,5,6,7,8,9,10] U8 Y (ui (ta (m:=5) (s8 (mM (ao 2 tb (env':=[(50,_),(49,_),(9,_),(2,_),(6,_),(5,_),(3,_),(43,_),(44,_),(45,_)]) Y (sy (.int (((G (d.ab.take i) q).aa).length:Nat)) (λh=>kq cW Y (h.get 0 Y) h.x) ?_))))))))
 refine ao 1 tb (env':=[(52,_),(51,_),(50,_),(49,_),(9,_),(2,_),(6,_),(5,_),(3,_),(43,_),(44,_),(45,_)]) Y (aA [0,2,4,5,6,7,8,9,10,11] fp Y (uh (QL 1 λ_=>?_)))
 refine DT 0 ?_ ?_<;>intro aD<;>try simp at aD
 have eF:nQ (⟨d,i,ss,ts,mm⟩:Jb) step (G (d.ab.take i) q)=[]:=if_pos oz
 refine DV (sd (m:=5) (mM (sy (.int (q+1:Nat)) (λh=>qE (i:=(q:Int)) (j:=(1:Int)) Y (h.get 9 Y) (Rel.aH (.int .i64 1)) ay ay h.x) ?_)))
 refine ao 1 tb (env':=[(45,_),(65,_),(52,_),(50,_),(9,_),(2,_),(6,_),(5,_),(3,_),(43,_),(44,_)]) Y (aA [0,5,6,7,8,9,10] U7 Y (Gc (q+1,out,wo) [1,2,3,4,5,6,0] ⟨oz,by rw[ex,eF,<-ah];first | (simp;done) | exact ir⟩))
 have eF:nQ (⟨d,i,ss,ts,mm⟩:Jb) step (G (d.ab.take i) q)=(oJ (⟨d,i,ss,ts,mm⟩:Jb) (G (d.ab.take i) q) step).map λal=>(⟨2,step,(G (d.ab.take i) q).ae,al,0,0⟩:bZ):=if_neg oz
 refine D0 (ui (ta (m:=5) (mM (ao 3 tb (env':=[(55,_),(54,_),(53,_),(52,_),(50,_),(9,_),(2,_),(6,_),(5,_),(3,_),(43,_),(44,_),(45,_)]) Y (sy (.fn 101 [.ptr (a8 (G (d.ab.take i) q)),.ptr [.ptr (jC d i ss ts M)],.ptr [lI (step:Int)]]) (λh=>cV (S5 V d i ss ts M (G (d.ab.take i) q) step) (cO func76) Y (aK hS _ h.keep h.x) (h.x.1) (aq (h.get 2 Y) (aq (h.get 1 Y) (aq (h.get 0 Y) aN))) (jo V h.x)) ?_)))))
 refine aA [0,6,7,8,9,10,11,12,13] U9 Y (ui (CP (alw (λh=>oq (p:=(out=out++(([]:List (List Int)).map λal=>(⟨2,step,(G (d.ab.take i) q).ae,al,0,0⟩:bZ)).filterMap (f4 ss))) yz h) (Ur (m:=5) (κ:=Value×(List bZ)) (μ:=Empty) (σ:=Empty) (S6 V d i ss ts M mm (G (d.ab.take i) q) step (by rw[ef];exact hW.try (aE (show q<d.ab.length by omega)) hs)) (cO func101) V hS hJ0 hH (λpre (wv,ys)=>[OB.mO (ys=out++(pre.map λal=>(⟨2,step,(G (d.ab.take i) q).ae,al,0,0⟩:bZ)).filterMap (f4 ss)),OB.iM Cz,OB.var b2 [.lit (.func (.func 75) #[] #[.pointer (some ⟨bj,oj,none⟩),.pointer (some ⟨b1,0,none⟩)])],OB.pt bj oj [.ptr (jC d i ss ts M)],OB.var b1 [.lit wv],OB.row wv 37 6 (ys.map cm)]) (λq':Empty=>undef) (λq'=>[]) (λs'=>[]) (wo,out) (λx9=>[(10,.rd (bQ x9)),(57,.rd (bQ x9)),(9,.ptr (a8 (G (d.ab.take i) q))),(2,.ptr [.ptr (jC d i ss ts M)]),(6,.at b2 0),(5,.at b1 0),(3,.ptr [lI (step:Int)]),(43,.rd (dX (d.ab.take i))),(44,.int ((d.ab.take i).length:Nat)),(45,.int (q:Nat))]) (lb Y) func41 ?_ ?_ ?_ ?_ ?_ ?_ ?_))))
 ·exact λa w h=>xJ (h.get 0 Y)
 rintro m9 l9 R' pre x9 ⟨wv,ys⟩ K9 qd
 refine cC (ao 1 tb (env':=[(10,_),(57,_),(56,_),(9,_),(2,_),(6,_),(5,_),(3,_),(43,_),(44,_),(45,_)]) Y (aA [0,1,3,4,5,6,7,8,9,10] fp Y qd))
 rintro m9 l9 R' pre x9 ⟨wv,ys⟩ hpre
 refine ye λhF=>?_
 have ir:ys=out++(pre.map λal=>(⟨2,step,(G (d.ab.take i) q).ae,al,0,0⟩:bZ)).filterMap (f4 ss):=hF
 have dg:=Lo (j:=(⟨d,i,ss,ts,mm⟩:Jb)) (g:=G (d.ab.take i) q) (step:=step) hW.m0 (x:=x9) (hpre.subset (mem_append_right _ (mem_singleton.2 Y)))
 have PU:ys.length<=2100000:=by have h1:=List.length_filterMap_le (f4 ss) (pre.map λal=>(⟨2,step,(G (d.ab.take i) q).ae,al,0,0⟩:bZ));have h2:=hpre.length_le;have h3:=DB (j:=(⟨d,i,ss,ts,mm⟩:Jb)) (g:=G (d.ab.take i) q) (step:=step) hW.m0;have h4:=Hw (n:=step) (m:=(G (d.ab.take i) q).aa.length) oz oz;rw[ir,length_append];rw[length_map]at h1;simp only[length_append,length_cons]at h2;omega
 refine ln 0 λ_=>?_
 refine ax (cC (sq (.lit (.func (.func 75) #[] #[.pointer (some ⟨bj,oj,none⟩),.pointer (some ⟨b1,0,none⟩)])) Y Y (lb Y) (λ_ _ h=>cg GO Y (aG h.x (mo 1 Y)) (h.get 4 Y) Y h.x) (ao 4 tb (env':=[(62,_),(61,_),(60,_),(59,_),(58,_),(10,_),(57,_),(9,_),(2,_),(6,_),(5,_),(3,_),(43,_),(44,_),(45,_)]) Y (sq (.agg (cm (⟨(2:Int),(step:Int),(G (d.ab.take i) q).ae,x9,0,0⟩:bZ))) Y Y (lb Y) (λa _ h=>gr (ps:=[(0,a.eval (.const (.int .i64 2))),(1,a.eval (.tmp 59)),(2,a.eval (.tmp 61)),(3,a.eval (.tmp 62))]) (us:=[a.eval (.const (.int .i64 2)),a.eval (.tmp 59),a.eval (.tmp 61),a.eval (.tmp 62),.int .i64 0,.int .i64 0]) Df Y yz (kB (lb Y) Y (kB (lb Y) (Rel.mi (h.get 3 Y)) (kB (lb Y) (Rel.mi (h.get 1 Y)) (kB (lb Y) (Rel.mi (h.get 0 Y)) gn)))) Y (b6 (Rel.aH (.int .i64 2)) (b6 (h.get 3 Y) (b6 (h.get 1 Y) (b6 (h.get 0 Y) (dT (.lit _ True.intro) (dT (.lit _ True.intro) cM)))))) h.x) (kw bO (kw bO (kw ec (kw ec (kw ec (IP (O:=[OB.pt bj oj [.ptr (jC d i ss ts M)],OB.var b1 [.lit wv],OB.row wv 37 6 (ys.map cm)]) (R:=(OB.iM Cz::OB.var b2 [.lit (.func (.func 75) #[] #[.pointer (some ⟨bj,oj,none⟩),.pointer (some ⟨b1,0,none⟩)])]::R')) [.agg (cm (⟨(2:Int),(step:Int),(G (d.ab.take i) q).ae,x9,0,0⟩:bZ))] [.pointer (some ⟨bj,oj,none⟩),.pointer (some ⟨b1,0,none⟩)] [.at bj oj,.at b1 0] (Ha V bj oj b1 d i ss ts M (⟨(2:Int),(step:Int),(G (d.ab.take i) q).ae,x9,0,0⟩:bZ) wv ys (by exact bw) (by dsimp only;omega) (by dsimp only;omega) (by first | exact dg.2.2 | (intro a ha;rw[mem_singleton.1 ha];exact⟨tO.1,oz⟩)) (by first | (rw[dg.2.1];omega) | simp) yz (by first | omega | simp)) (cO func75) Y Y Y (lb Y) hS hJ0 b8 (λa w h=>(h.get 5 Y).lit) (λa w h=>(aq (h.get 0 Y) aN)) (λw=>(aq (Rel.aH (.pointer (some ⟨bj,oj,none⟩))) (aq (Rel.aH (.pointer (some ⟨b1,0,none⟩))) aN))) λz4=>aA [9,10,11,12,13,14,15,16] U8 Y (kw du (kw du (kw du (kw ec (kw ec (kw (λh=>oq (p:=((ys++(f4 ss (⟨(2:Int),(step:Int),(G (d.ab.take i) q).ae,x9,0,0⟩:bZ)).toList)=out++((pre++[x9]).map λal=>(⟨2,step,(G (d.ab.take i) q).ae,al,0,0⟩:bZ)).filterMap (f4 ss))) (by simp only[List.map_append,List.map_cons,List.map_nil];rw[NX,<-List.append_assoc,<-ir]) h) (λa w h=>⟨(z4,(ys++(f4 ss (⟨(2:Int),(step:Int),(G (d.ab.take i) q).ae,x9,0,0⟩:bZ)).toList)),h.keep,h.x⟩)))))))))))))))))
 rintro fe ⟨wv,ys⟩ D
 refine kw bO (ya λhF=>?_)
 have ir:ys=out++((oJ (⟨d,i,ss,ts,mm⟩:Jb) (G (d.ab.take i) q) step).map λal=>(⟨2,step,(G (d.ab.take i) q).ae,al,0,0⟩:bZ)).filterMap (f4 ss):=hF
 refine kw bO (kw VN (sd (m:=5) (mM (sy (.int (q+1:Nat)) (λh=>qE (i:=(q:Int)) (j:=(1:Int)) Y (h.get 8 Y) (Rel.aH (.int .i64 1)) ay ay h.x) ?_))))
 refine ao 1 tb (env':=[(45,_),(65,_),(56,_),(9,_),(2,_),(6,_),(5,_),(3,_),(43,_),(44,_)]) Y (aA [0,4,5,6,7,8,9] U7 Y (Gc (q+1,ys,wv) [1,2,3,4,5,6,0] ⟨oz,by rw[ex,eF,<-ah];first | (simp;done) | exact ir⟩))
 ·exact λs=>s.elim
 ·exact λv h=>by cases h
 ·exact λq=>q.elim
 refine DV (sd (m:=5) (s8 (mM (sy (.lit wo) (λh=>cg GR Y (aG h.x (mo 3 Y)) (h.get 3 Y) Y h.x) ?_))))
 refine ao 1 tb (env':=[(4,_),(66,_),(46,_),(2,_),(6,_),(5,_),(3,_),(43,_),(44,_),(45,_)]) Y (aA [0] [_] Y (uh (vT (R9 V hJ0 ?_ _))))
 refine kw gF (kw (λh=>dU hS h (m:=0) (s:=4) Y) (kw cK (kw cK (kw cK (λa w h=>dx  (m:=0) () Y h Y (congrArg (λz=>AV.rd (gB z)) (show out=(lv (⟨d,i,ss,ts,mm⟩:Jb) step)from by rw[ah,show q=i by omega];rfl)))))))
theorem S8 (d:Db) (i:Nat) (ss:List Stp) (ts:List (List BA)) (M:Nat) (mm:List (BA×Int)) (step:Nat) (hW:lP (⟨d,i,ss,ts,mm⟩:Jb)) (hs:step<ss.length):cD prog J 41 [OB.mI M mm] [.ptr (jC d i ss ts M),.int (step:Nat)] (.rd (gB (lv (⟨d,i,ss,ts,mm⟩:Jb) step))):=NY (S7 V d i ss ts M mm step hW hs)
end
end
section
section
variable {d:Db} {z:Int} {ss:List Stp}
theorem Jh (h:cQ d z ss=0):(aZ d z ss).1.length=ss.length/\∀ t∈(aZ d z ss).1,(1<=t.length/\t.length<=2000)/\∀ s∈t,s.size<=60:=by
 obtain⟨h1,h2⟩:=oi h
 obtain⟨ha,hf⟩:=nK h1
 obtain⟨dY,lC,f9⟩:=oE ha
 have hi:z.toNat<d.ab.length:=by omega
 have hj:=(nb h).1
 refine⟨hj.len,λt ht=>⟨?_,λs hs=>I2 (yZ dY) s (hj.sy t ht s hs)⟩⟩
 have h3:aZ d z ss=kO d z.toNat ss:=if_pos h1
 have h4:∀ q,q<ss.length->iy d z.toNat ss q=0:=by
  rw[h3]at h2
  unfold kO at h2
  split at h2
  ·rename_i k hk
   have h5:=List.find?_some hk
   exact absurd h2 (of_decide_eq_true h5)
  ·rename_i hk
   intro q hq
   have h5:=List.find?_eq_none.1 hk q (List.mem_range.2 hq)
   simpa using h5
 have h5:(aZ d z ss).1=dL d z.toNat ss ss.length:=by rw[h3,pw h4]
 rw[h5]at ht
 exact rA dY hi ss.length (λq hq=>h4 q hq) t ht
theorem FX (h:cQ d z ss=0) (h16:ss.length<=16) (hf:d.ab.length<=16) (hw:∀ f∈d.ab,f.wide.length*32<=140737488351232):lP (fx d z ss):=by
 obtain⟨h1,h2⟩:=oi h
 obtain⟨ha,_⟩:=nK h1
 obtain⟨dY,lC,f9⟩:=oE ha
 have hi:z.toNat<d.ab.length:=by omega
 obtain⟨hl,ht⟩:=Jh h
 have hg:=pS dY
 exact⟨(nb h).2,h16,hl,ht,λs q e=>(Ek e).imp_right (·.1),λi hi'=>by obtain⟨q,hq,_⟩:=Nl hi';exact Option.isSome_iff_exists.2 ⟨q,hq⟩,hf,hi,hw _ (aE hi),
  λg hg'=>(hg g hg').1.2,λg hg' y hy=>⟨((hg g hg').2.2 y (mem_append_left _ hy)).1,λs hs=>I2 (yZ dY) s ((yY dY g hg').1 y (mem_append_left _ hy) s hs)⟩,λg hg'=>(hg g hg').1.1⟩
theorem Nm {ts:List (List BA)} {pre:List (Nat×List BA)} {x:Nat×List BA} (h:(pre++[x])<+:iv ts):pre.length<ts.length/\go ts (pre++[x]).length=cn (go ts pre.length) (cq x.2) ((x.1:Nat):Int)/\x.2∈ts:=by
 obtain⟨h1,h2,h3⟩:=Dh h
 refine⟨?_,?_,?_⟩
 ·omega
 ·rw[length_append,List.length_singleton,go,h3,h2]
 ·rw[h3];exact aE oz
end
end
section
open Go.RowKit
theorem Dd:Cx prog 92:=λ_ _ _ _ _ _ _ _ _ _=>by kernel_rfl
theorem yl:gm prog 77 [.lit (.pointer none)]:=⟨(.pointer none),λw=>by kernel_rfl,λS w=>(show bE S w [.lit (.pointer none)] [.pointer none]from⟨.lit _ True.intro,U⟩)⟩
theorem Vz:dV prog 77 1:=zO
section
variable {J:WP} (V:aR J)
include V
theorem Ho (d:Db) (z:Int) (ss:List Stp) (hw:∀ f∈d.ab,f.wide.length*32<=140737488351232) (hG:gJ J) (hr:¬ cQ d z ss=0):Fn prog J 32 [.agg (bV d),.int z,.agg (be ss)] (.bF [.rd (.lit (.pointer none)),.int (cQ d z ss)]):=by
 refine zL (N:=60) func32 Y Y (lb Y) λS w0 hS hJ0=>oH cc (im (m:=5) (aT tb V [1,1000,1001] [.ptr (bV d),.ptr (be ss),_,_] [0,1] U3 Y ⟨cY hS V,cY hS V,U⟩ ?_))
 refine iC (im (m:=5) (au tb V [0,1,2,1004] (V3 [.int (dH d z ss),_]) [3] U4 Y ⟨bJ hS V (Bm V d z ss (by exact hw) (by exact hG)) (cO func56),U⟩ ?_))
 refine aj tb V [0,1,2,3,1001] U2 U5 ?_
 refine cj 4 ?_ ?_<;>intro hb1<;>try simp at hb1
 refine aj tb V [1001,1002] U3 U2 ?_
 refine aX (Bl (λa w h=>di (m:=0) (k:=1) Y (dw h) Y Y Y (eI (by first | exact absurd hb1 hb2 | (simp[cQ, *];done)))))
 refine ak (iC (im (m:=5) (cC (ao 3 tb Y (sy (.bF [.rd (cu ((aZ d z ss).1)),.agg (kS ((aZ d z ss).2)),.int (dH d z ss)]) (λh=>cV (G9 V d z ss (by exact hw) (by exact hG)) (cO func27) Y (aK hS _ h.keep h.x) (h.x.1) (aq (h.get 2 Y) (aq (h.get 1 Y) (aq (h.get 0 Y) aN))) (jo V h.x)) ?_)))))
 refine ao 4 tb Y (cx sI V Y Y Y (lb Y) λb1=>ao 1 tb Y (ce (b:=b1) (off:=0) (es:=U2) (news:=U2) V hJ0 lL Y Y Y (lb Y) Y (λa w h=>⟨(h.get 1 Y),(h.get 3 Y)⟩) (ao 1 tb Y (kw (λh=>fB hS h (m:=2) (s:=10) Y) (aA [0,1,2,5,11,12,13] U7 Y (iC (mf 2 λ_=>?_)))))))
 refine im (m:=5) (ax (aj tb V [0,1,2,4,5,6,1002] U3 U7 ?_))
 refine cj 6 ?_ ?_<;>intro hb2<;>try simp at hb2
 refine aj tb V [1001,1002] U3 U2 ?_
 refine aX (Bl (λa w h=>di (m:=0) (k:=1) Y (dw h) Y Y Y (eI (by first | exact absurd hb1 hb2 | (simp[cQ, *];done)))))
 refine aj tb V [2,3,4,5,1003] U4 U5 ?_
 refine cj 4 ?_ ?_<;>intro aD<;>try simp at aD
 refine aj tb V [1000,1001] U2 U2 ?_
 refine aX (Bl (λa w h=>di (m:=0) (k:=1) Y (dw h) Y Y Y (eI (by first | exact absurd hb1 hb2 | (simp[cQ, *];done)))))
 exact False.elim (hr (by simp[cQ, *]))
theorem Bv (d:Db) (z:Int) (ss:List Stp) (hw:∀ f∈d.ab,f.wide.length*32<=140737488351232) (hG:gJ J) (hr:cQ d z ss=0):fc (ι:=Nat) prog J 32 [] [.agg (bV d),.int z,.agg (be ss)] [] (λi'=>.bF [.ptr [ai d.bL,ai d.vars,dX d.ab,lI (z.toNat:Int),aY ss,cu ((aZ d z ss).1),lI (((dd ss):Nat):Int),.lit (.map (some (i')))],.int 0]) (λi'=>[OB.mI (i') (go (aZ d z ss).1 (aZ d z ss).1.length)]):=by
 refine EI (N:=60) func32 Y Y (lb Y) λS w0 R hS hJ0 hH=>oH (B:=So J S w0 60 (R) [(0,.agg (bV d)),(1,.int z),(2,.agg (be ss))]) (λh=>h) ?_
 have jZ:=Jh hr
 have bw:=(nb hr).2
 have jX:=bw.1
 have cr:=bw.2.1
 have lC:=(oE (nK (oi hr).1).1).2.1
 refine im (m:=5) (aT tb V [1,1000,1001] [.ptr (bV d),.ptr (be ss),_,_] [0,1] U3 Y ⟨cY hS V,cY hS V,U⟩ ?_)
 refine iC (im (m:=5) (au tb V [0,1,2,1004] (V3 [.int (dH d z ss),_]) [3] U4 Y ⟨bJ hS V (Bm V d z ss (by exact hw) (by exact hG)) (cO func56),U⟩ ?_))
 refine aj tb V [0,1,2,3,1001] U2 U5 ?_
 refine cj 4 ?_ ?_<;>intro hb1<;>try simp at hb1
 ·exact False.elim (hb1 (oi hr).1)
 ·refine ak (iC (im (m:=5) (cC (ao 3 tb Y (sy (.bF [.rd (cu ((aZ d z ss).1)),.agg (kS ((aZ d z ss).2)),.int (dH d z ss)]) (λh=>cV (G9 V d z ss (by exact hw) (by exact hG)) (cO func27) Y (aK hS _ h.keep h.x) (h.x.1) (aq (h.get 2 Y) (aq (h.get 1 Y) (aq (h.get 0 Y) aN))) (jo V h.x)) ?_)))))
  refine ao 4 tb Y (cx sI V Y Y Y (lb Y) λb1=>ao 1 tb Y (ce (b:=b1) (off:=0) (es:=U2) (news:=U2) V hJ0 lL Y Y Y (lb Y) Y (λa w h=>⟨(h.get 1 Y),(h.get 3 Y)⟩) (ao 1 tb Y (kw (λh=>fB hS h (m:=2) (s:=10) Y) (aA [0,1,2,5,11,12,13] U7 Y (kw (sa 4 Y (congrArg AV.int (show z=(z.toNat:Int)from by omega))) ?_))))))
  refine iC (mf 2 λcr=>?_)
  refine im (m:=5) (ax (aj tb V [0,1,2,4,5,6,1002] U3 U7 ?_))
  refine cj 6 ?_ ?_<;>intro hb2<;>try simp at hb2
  ·exact False.elim (hb2 (oi hr).1)
  ·refine aj tb V [2,3,4,5,1003] U4 U5 ?_
   refine cj 4 ?_ ?_<;>intro aD<;>try simp at aD
   ·exact False.elim (aD (oi hr).2)
   ·refine ak (iC (im (m:=5) (λa w h=>lg (R) (γ:=Nat×Value×Nat×Nat) (λix'=>([.agg (bV d),.int (z.toNat:Nat),.agg (be ss),.rd (cu ((aZ d z ss).1)),.agg (be ss),.rd (mJ (fW ss)),.int (gO (fW ss):Nat),.any,.any,.any,.any,.any]:List AV).getD ix' .any) (λ_=>true) [(9,λ_=>.rd (cu ((aZ d z ss).1))),(12,λg=>.at g.2.2.2 0)] (λ(b:List Bool) (g:Nat×Value×Nat×Nat)=>(bif b.getD 4 false then [OB.var g.2.2.2 [.lit (.pointer (some ⟨g.2.2.1,0,none⟩))]]else(bif b.getD 3 false then [OB.var g.2.2.2 [.lit (.pointer none)]]else []))++((bif b.getD 2 false then [OB.var g.2.2.1 [ai d.bL,ai d.vars,dX d.ab,lI (z.toNat:Int),aY ss,cu ((aZ d z ss).1),lI ((gO (fW ss):Nat):Int),.lit (.map (some g.1))]]else(bif b.getD 1 false then [qZ [ai d.bL,ai d.vars,dX d.ab,lI (z.toNat:Int),aY ss,cu ((aZ d z ss).1),lI ((gO (fW ss):Nat):Int),.lit (.map (some g.1))] g.2.1]else []))++((bif b.getD 0 false then [OB.mI g.1 ([]:List (BA×Int))]else [])++(R)))) (λk' g=>match k' with | 0=>(.map (some g.1)) | 1=>g.2.1 | 2=>(.pointer (some ⟨g.2.2.1,0,none⟩)) | 3=>(.pointer (some ⟨g.2.2.2,0,none⟩)) | _=>undef) [7,8,9,10,11] (0,undef,0,0) (λ_=>Y) h V cU Y Y Y Y (λb g p hp=>(mem_append_right _ (mem_append_right _ (mem_append_right _ hp)))) ⟨oX Y λZ hl=>j4 vf Y (hl.env 2 3 _ Y Y) aV Z,oX Y λZ hl=>b9 Y (hl.env 1 1 _ Y Y) Z,oX Y λZ hl=>j4 ee Y (hl.env 3 5 _ Y Y) aV Z,oX Y λZ hl=>b9 Y (hl.env 0 9 _ Y Y) Z,oX Y λZ hl=>j4 ee Y (hl.env 3 5 _ Y Y) aV Z,?_,oY Y λhk Z hl=>cV (Td V (fW ss)) (cO func61) Y (aK hS _ hk Z) (Z.1) (aq (hl.D 5 43 Y Y) aN) (jo V Z),bC Y,bC Y,bC Y,bC Y,bC Y,U⟩ ⟨?p5,?th,?MS,?MT,?MU,U⟩ ⟨.old 0 9 _,.d6 3 10 12 (λ(g:Nat×Value×Nat×Nat)=>(.pointer (some ⟨g.2.2.2,0,none⟩))) Y Y (λ_=>Y) (λ_=>True.intro),U⟩ ?Ba)))
    exact oY Y λhk Z hl=>cV (Hk V ss (by exact bw)) (cO func62) Y (aK hS _ hk Z) (Z.1) (aq (hl.D 4 42 Y Y) aN) (jo V Z)
    case p5=>exact eE [[false,false,false,false,false],[false,false,false,true,false]] yq Y Y Y Y ⟨λg _ w hk Z _ _=>bD (DX aB (λz':Int=>AV.int z') V Y hk Z) λv w' ⟨b',hv,hp⟩=>⟨(b',g.2.1,g.2.2.1,g.2.2.2),dZ,λ_=>hv,True.intro,hp⟩,λg _ w hk Z _ _=>bD (DX aB (λz':Int=>AV.int z') V rfl hk Z) λv w' ⟨b',hv,hp⟩=>⟨(b',g.2.1,g.2.2.1,g.2.2.2),dZ,λ_=>hv,True.intro,kM (.refl _) (eM (A:=[OB.var g.2.2.2 [.lit (.pointer none)]])).symm hp⟩,U⟩
    case th=>exact eE [[true,false,false,false,false],[true,false,false,true,false]] yq Y Y Y Y ⟨λg _ w hk Z hl hs=>bD (DS (cs:=[ai d.bL,ai d.vars,dX d.ab,lI (z.toNat:Int),aY ss,cu ((aZ d z ss).1),lI ((gO (fW ss):Nat):Int),.lit (.map (some g.1))]) hk (HQ Dd Y (hl.D 0 38 Y Y) (hl.D 1 39 Y Y) (hl.D 2 40 Y Y) (hl.D 3 41 Y Y) (hl.D 6 44 Y Y) (hs 0 7 _ 45 Y Y Y Y) Z)) λv w' hp=>⟨(g.1,v,g.2.2.1,g.2.2.2),dZ,λ_=>rfl,True.intro,hp⟩,λg _ w hk Z hl hs=>bD (DS (cs:=[ai d.bL,ai d.vars,dX d.ab,lI (z.toNat:Int),aY ss,cu ((aZ d z ss).1),lI ((gO (fW ss):Nat):Int),.lit (.map (some g.1))]) hk (HQ Dd Y (hl.D 0 38 Y Y) (hl.D 1 39 Y Y) (hl.D 2 40 Y Y) (hl.D 3 41 Y Y) (hl.D 6 44 Y Y) (hs 0 7 _ 45 Y Y Y Y) Z)) λv w' hp=>⟨(g.1,v,g.2.2.1,g.2.2.2),dZ,λ_=>rfl,True.intro,kM (.refl _) (eM (A:=[OB.var g.2.2.2 [.lit (.pointer none)]])).symm hp⟩,U⟩
    case MS=>exact eE [[true,true,false,false,false],[true,true,false,true,false]] yq Y Y Y Y ⟨λg _ w hk Z _ hs=>bD (DR (cs:=[ai d.bL,ai d.vars,dX d.ab,lI (z.toNat:Int),aY ss,cu ((aZ d z ss).1),lI ((gO (fW ss):Nat):Int),.lit (.map (some g.1))]) V Y (hs 1 8 _ 46 Y Y Y Y) hk Z) λv w' ⟨b',hv,hp⟩=>⟨(g.1,g.2.1,b',g.2.2.2),dZ,λ_=>hv,True.intro,hp⟩,λg _ w hk Z _ hs=>bD (DR (cs:=[ai d.bL,ai d.vars,dX d.ab,lI (z.toNat:Int),aY ss,cu ((aZ d z ss).1),lI ((gO (fW ss):Nat):Int),.lit (.map (some g.1))]) V Y (hs 1 8 _ 46 Y Y Y Y) hk (fR (eM (A:=[OB.var g.2.2.2 [.lit (.pointer none)]])) Z)) λv w' ⟨b',hv,hp⟩=>⟨(g.1,g.2.1,b',g.2.2.2),dZ,λ_=>hv,True.intro,kM (eM (A:=[OB.var g.2.2.2 [.lit (.pointer none)]])).symm (eM (A:=[OB.var g.2.2.2 [.lit (.pointer none)]])).symm hp⟩,U⟩
    case MT=>exact eE [[false,false,false,false,false],[true,false,false,false,false],[true,true,false,false,false],[true,true,true,false,false]] yq Y Y Y Y ⟨λg _ w hk Z _ _=>bD (gD yl V Y hk Z) λv w' ⟨b',hv,hp⟩=>⟨(g.1,g.2.1,g.2.2.1,b'),dZ,λ_=>hv,True.intro,hp⟩,λg _ w hk Z _ _=>bD (gD yl V rfl hk Z) λv w' ⟨b',hv,hp⟩=>⟨(g.1,g.2.1,g.2.2.1,b'),dZ,λ_=>hv,True.intro,hp⟩,λg _ w hk Z _ _=>bD (gD yl V rfl hk Z) λv w' ⟨b',hv,hp⟩=>⟨(g.1,g.2.1,g.2.2.1,b'),dZ,λ_=>hv,True.intro,hp⟩,λg _ w hk Z _ _=>bD (gD yl V rfl hk Z) λv w' ⟨b',hv,hp⟩=>⟨(g.1,g.2.1,g.2.2.1,b'),dZ,λ_=>hv,True.intro,hp⟩,U⟩
    case MU=>exact eE [[true,true,true,true,false]] yq Y Y Y Y ⟨λg _ w hk Z _ hs=>bD (vU (S':=S) (off:=0) (es:=[_]) (c:=.lit (.pointer (some ⟨g.2.2.1,0,none⟩))) V hJ0 Vz Y hk Z (kt (hs 3 10 _ 12 Y Y Y Y)) (by rw[(hs 2 9 _ 47 Y Y Y Y)];exact Rel.aH _) (lb Y) Y) λv w' hp=>⟨g,λ_ _=>rfl,λe=>(by cases e),True.intro,hp⟩,U⟩
    clear a w h
    rintro⟨m2,x3,b4,b5⟩
    dsimp only[List.map]
    refine iC (mf 0 λ_=>?_)
    refine ve (im (m:=5) (aT tb V [1,1001] [_,.fn 90 [.ptr [cu ((aZ d z ss).1)]]] [1] U2 Y ⟨bJ hS V (Si V ((aZ d z ss).1)) (cO func63),U⟩ ?_))
    refine iC (vd (oH (λh=>oq (p:=(([])=go (aZ d z ss).1 ([]:List (Nat×List BA)).length)) (Y) h) (H8 (m:=5) (κ:=(List (BA×Int))) (μ:=Empty) (σ:=Empty) (Sj V (aZ d z ss).1 oz) (cO func90) V hS hJ0 b8 (λpre (L:(List (BA×Int)))=>[OB.mO (L=go (aZ d z ss).1 pre.length),OB.var b5 [.lit (.pointer (some ⟨b4,0,none⟩))],OB.var b4 [ai d.bL,ai d.vars,dX d.ab,lI (z.toNat:Int),aY ss,cu ((aZ d z ss).1),lI ((gO (fW ss):Nat):Int),.lit (.map (some m2))],OB.mI m2 L]) (λq':Empty=>undef) (λq'=>[]) (λs'=>[]) ([]) (λx9=>[(12,.at b5 0),(13,.int (x9.1:Nat)),(14,.rd (ai x9.2))]) (lb Y) (lb Y) func32 ?_ ?_ ?_ ?_ ?_ ?_ ?_)))
    ·exact λa w h=>xJ (h.get 1 Y)
    ·rintro m9 l9 R' pre x9 L K9 qd
     refine aj tb V [0,2,1000] [_] U3 ?_
     refine ln 0 λ_=>?_
     refine HO tb V [1,2,1000] [_] U3 ?_
     exact qd
    ·rintro m9 l9 R' pre x9 L hpre
     refine ye λhF=>?_
     have ir:L=go (aZ d z ss).1 pre.length:=hF
     have mZ:=Nm hpre
     refine ln 2 λ_=>?_
     refine ax (tw du (λa w h=>iF (γ:=Unit) (λix'=>([.at b4 0,.at b4 0,.at b4 7,.lit (.map (some m2)),.rd (ai x9.2),.str (cq x9.2),.int (x9.1:Nat),.any]:List AV).getD ix' .any) (λ_=>true) [(12,λ_=>.at b5 0)] (λj' _=>match j' with | 0=>(OB.mI m2 L::OB.var b5 [.lit (.pointer (some ⟨b4,0,none⟩))]::OB.var b4 [ai d.bL,ai d.vars,dX d.ab,lI (z.toNat:Int),aY ss,cu ((aZ d z ss).1),lI ((gO (fW ss):Nat):Int),.lit (.map (some m2))]::R') | _=>(OB.mI m2 (cn L (cq x9.2) (x9.1:Int))::OB.var b5 [.lit (.pointer (some ⟨b4,0,none⟩))]::OB.var b4 [ai d.bL,ai d.vars,dX d.ab,lI (z.toNat:Int),aY ss,cu ((aZ d z ss).1),lI ((gO (fW ss):Nat):Int),.lit (.map (some m2))]::R')) (λ_ _=>undef) [7] 0 () (λ_=>Y) h V cU Y Y Y Y Y Y hsb ⟨λ_ O' cf=>⟨Y,λ_ _ _ Z hl _=>cg xm Y (aG Z (cf _ (mo 1 Y))) (hl.env 0 12 _ Y Y) Y Z⟩,oX Y λZ hl=>jv Y (hl.D 0 52 Y Y) Z,oX Y λZ hl=>cy NV Y (hl.D 1 53 Y Y) Z,λ_ O' cf=>⟨Y,λ_ _ _ Z hl _=>cg RQ Y (aG Z (cf _ (mo 2 Y))) (hl.D 2 54 Y Y) Y Z⟩,oX Y λZ hl=>b9 Y (hl.env 2 14 _ Y Y) Z,?_,oX Y λZ hl=>b9 Y (hl.env 1 13 _ Y Y) Z,bC Y,U⟩ ⟨?Mf,U⟩ ⟨.old 0 12 _,U⟩ ?X0))
     exact oY Y λhk Z hl=>cV (xq V x9.2 (by exact(jZ.2 _ mZ.2.2).1.2) (by exact(jZ.2 _ mZ.2.2).2)) (cO func64) Y (aK hS _ hk Z) (Z.1) (aq (hl.D 4 56 Y Y) aN) (jo V Z)
     case Mf=>exact⟨_,Y,Y,Y,Y,λg _ w hk Z hl _=>bD (pW (f:=(λz':Int=>AV.int z')) xa V hJ0 (cq x9.2) (x9.1:Int) (.inl Y) hk Z (hl.D 3 55 Y Y) (hl.D 5 57 Y Y) (hl.D 6 58 Y Y)) λv w' ⟨_,hp⟩=>⟨g,Y,λ_ _=>rfl,λe=>(by cases e),hp⟩⟩
     clear a w h
     intro _
     dsimp only[List.map]
     refine kw du (kw du (kw (λh=>oq (p:=((cn L (cq x9.2) (x9.1:Int))=go (aZ d z ss).1 (pre++[x9]).length)) (by rw[mZ.2.1,<-ir]) h) (λa w h=>⟨(cn L (cq x9.2) (x9.1:Int)),h.keep,h.x⟩)))
    ·rintro fe L D
     refine kw bO (ya λhF=>?_)
     have ir:L=go (aZ d z ss).1 (iv (aZ d z ss).1).length:=hF
     refine sd (m:=5) (s8 (mM (sy (.at b4 0) (λh=>cg xm Y (aG h.x (mo 1 Y)) (h.get 0 Y) Y h.x) ?_)))
     refine ao 2 tb Y (aA [0,1] U2 Y (uh (vT (xn V hJ0 (kw bO (kw (λh=>fB hS h (m:=1) (s:=6) Y) (kw cK (kw (jr (congrArg (λz'=>OB.mI m2 (z')) (show L=(go (aZ d z ss).1 (aZ d z ss).1.length)from by rw[ir,sU]))) ?_))))))))
     exact λa w h=>QF  (m:=0) (k:=1) m2 Y h Y Y (Wt (show(.ptr [ai d.bL,ai d.vars,dX d.ab,lI (z.toNat:Int),aY ss,cu ((aZ d z ss).1),lI ((gO (fW ss):Nat):Int),.lit (.map (some m2))]:AV)= .ptr [ai d.bL,ai d.vars,dX d.ab,lI (z.toNat:Int),aY ss,cu ((aZ d z ss).1),lI (((dd ss):Nat):Int),.lit (.map (some m2))]from by rfl) (eI (by rfl)))
    ·exact λs=>s.elim
    ·exact λv h=>by cases h
    ·exact λq=>q.elim
theorem Sk (d:Db) (z:Int) (ss:List Stp) (step:Nat) (hw:∀ f∈d.ab,f.wide.length*32<=140737488351232) (hG:gJ J) (hr:cQ d z ss=0) (h16:ss.length<=16) (mY:d.ab.length<=16) (hs:step<ss.length):Fn prog J 15 [.agg (bV d),.int z,.agg (be ss),.int (step:Nat)] (.bF [.rd (gB (lv (fx d z ss) step)),.int 0]):=by
 refine fE func15 λS w0 hS hJ0=>?_
 refine tw cc (au tb V [1,3,1000,1001] [.ptr (bV d),.ptr (be ss),_,_] [0,1] U4 Y ⟨cY hS V,cY hS V,U⟩ ?_)
 refine aL (ao 3 tb (env':=[(15,_),(14,_),(13,_),(1,_),(3,_),(4,_),(6,_)]) Y (iI (O:=[]) (R:=[]) (Bv V d z ss (by exact hw) (by exact hG) (by exact hr)) (cO func32) Y Y Y (lb Y) hS hJ0 b8 (λa w h=>(aq (h.get 2 Y) (aq (h.get 1 Y) (aq (h.get 0 Y) aN)))) λz1=>ao 5 tb (env':=[(11,_),(10,_),(18,_),(17,_),(12,_),(16,_),(15,_),(14,_),(13,_),(1,_),(3,_),(4,_),(6,_)]) Y (aA [0,1,10,12] U4 Y (nx (af (aj tb V [0,1,2,3,1001] U2 U5 ?_))))))
 refine cj 4 ?_ ?_<;>intro hb1
 ·exact False.elim (by simp at hb1)
 ·refine ak (nx (af (au tb V [1,2,1008] (V6 [.int (ss.length:Nat),_,_]) [6] U3 Y ⟨aC eo,U⟩ ?_)))
  refine cj 2 ?_ ?_<;>intro hb2
  ·exact False.elim (by simp at hb2;omega)
  ·refine ak (nx (au tb V [1002,1003,1004] [_,_,.rd (gB (lv (⟨d,z.toNat,ss,((aZ d z ss).1),(go (aZ d z ss).1 (aZ d z ss).1.length)⟩:Jb) step)),_,_] [2] U3 Y ⟨λ_ _ hk Z hl _=>dv (S8 V d z.toNat ss ((aZ d z ss).1) z1 (go (aZ d z ss).1 (aZ d z ss).1.length) step (by exact FX hr h16 mY hw) (by exact hs)) (cO func41) Y (aK hS _ hk Z) (Z.1) (dJ (aG Z (mo 0 Y)) b8) (aq (hl.D 0 31 Y Y) (aq (hl.D 1 32 Y Y) aN)) (jo V Z),U⟩ ?_))
   refine ln 0 λ_=>?_
   exact aX (λa w h=>di (m:=1) (k:=2) Y (dw h) Y Y (congrArg (λz=>AV.rd (gB z)) (show(lv (⟨d,z.toNat,ss,((aZ d z ss).1),(go (aZ d z ss).1 (aZ d z ss).1.length)⟩:Jb) step)=(lv (fx d z ss) step)from by rfl)) (eI (by rfl)))
end
end
section
open Go.RowKit
theorem yj:prog.underlying 42=some (.slice 37):=by kernel_rfl
theorem mK:oy prog 28 [.slice none 0 0]:=⟨λi=>(#[(0,1)]:Array (Nat×Nat))[i]?,λj hj=>by rcases j with _ | j<;>first | rfl | (simp at hj;omega) | simp at hj,λparts=>by kernel_rfl⟩
end
section
def wb (f:Fr):Bool:=decide ((12:Int)< ((f.aa.length:Nat):Int))||decide ((40:Int)< ((f.ac.length:Nat):Int))||decide ((60:Int)< ((f.proof.length:Nat):Int))
def tr (d:Db) (ss:List Stp):Bool:=decide (((ss.length:Nat):Int)<=16)&&decide (((d.ab.length:Nat):Int)<=16)&& !d.ab.any wb
theorem Nh {d:Db} {ss:List Stp} (h:tr d ss=true):ss.length<=16/\d.ab.length<=16:=by
 simp only[tr,Bool.and_eq_true,decide_eq_true_eq]at h
 omega
end
section
open Go.RowKit
theorem Xc {J:WP} (V:aR J) (f:Fr)  :Fn prog J 29 [.agg (a8 f)] (.bool (wb f)):=by
 refine fE func29 λS w0 hS hJ0=>?_
 clear hJ0
 refine aJ tb V [1000] [.ptr (a8 f),_] [0] [_] Y ⟨d9 hS V,U⟩ ?_
 refine aJ tb V [1001,1016] [_,_,.int (f.aa.length:Nat),_,_,_,_,.int (f.ac.length:Nat),_,_,_,_,_,.int (f.proof.length:Nat),_,_,_] [2,7,13] U2 Y ⟨aC cW,aC b7,aC b7,U⟩ ?_
 refine ln 0 λ_=>?_
 exact aU 1 (hE:=eB (Y))
theorem Jz {J:WP} (V:aR J) (d:Db) (ss:List Stp)  :Fn prog J 8 [.agg (bV d),.agg (be ss)] (.bool (tr d ss)):=by
 refine fE func8 λS w0 hS hJ0=>?_
 clear hJ0
 refine aJ tb V [1000,1001] [.ptr (bV d),.ptr (be ss),_] [0,1] U2 Y ⟨d9 hS V,d9 hS V,U⟩ ?_
 refine aJ tb V [1001,1016] [_,_,.int (ss.length:Nat),_,_,_,_,.int (d.ab.length:Nat),_,_,_,_,_,.bool (d.ab.any wb),_,_,_] [2,7,13] U2 Y ⟨aC eo,aC nv,λ_ _ hk Z hl hc=>dv (Sy V d.ab 29 [] [] wb (λq'=>(Xc V q').rr) ((cO func29))) (cO func28) Y (nm hS hk) (Z) b8 (aq (hl.D 12 17 Y hc) (aq (np 29) aN)) (js V Z),U⟩ ?_
 refine ln 0 λ_=>?_
 exact aU 1 (hE:=eB (Y))
end
section
open Go.RowKit
theorem Cm:gm prog 72 [lS ⟨#[]⟩,lB false,.sl [],.sl [],.sl [],.sl [],.sl [],.sl []]:=⟨(.agg #[.string ⟨#[]⟩,.bool false,.slice none 0 0,.slice none 0 0,.slice none 0 0,.slice none 0 0,.slice none 0 0,.slice none 0 0]),λw=>by kernel_rfl,λS w=>(show bE S w [lS ⟨#[]⟩,lB false,.sl [],.sl [],.sl [],.sl [],.sl [],.sl []] [.string ⟨#[]⟩,.bool false,.slice none 0 0,.slice none 0 0,.slice none 0 0,.slice none 0 0,.slice none 0 0,.slice none 0 0]from⟨.lit _ aI,.lit _ True.intro,.nil _ _ aI,.nil _ _ aI,.nil _ _ aI,.nil _ _ aI,.nil _ _ aI,.nil _ _ aI,U⟩)⟩
theorem Cr:mA prog 9 1:=⟨(.string ⟨#[]⟩),λw=>by kernel_rfl,Y,by simp[Value.cells,Value.oneCell']⟩
theorem KE:oy prog 72 [.string ⟨#[]⟩,.bool false,.slice none 0 0,.slice none 0 0,.slice none 0 0,.slice none 0 0,.slice none 0 0,.slice none 0 0]:=⟨λi=>(#[(0,1),(1,1),(2,1),(3,1),(4,1),(5,1),(6,1),(7,1)]:Array (Nat×Nat))[i]?,λj hj=>by rcases j with _ | _ | _ | _ | _ | _ | _ | _ | j<;>first | rfl | (simp at hj;omega) | simp at hj,λparts=>by kernel_rfl⟩
theorem BX:dV prog 72 8:=zO
theorem Xw:kb prog 119:=⟨.agg #[.string ⟨#[]⟩,.bool false,.slice none 0 0],λw=>by kernel_rfl⟩
theorem Cl:gm prog 25 [.sl [],.sl [],.sl []]:=⟨(.agg #[.slice none 0 0,.slice none 0 0,.slice none 0 0]),λw=>by kernel_rfl,λS w=>(show bE S w [.sl [],.sl [],.sl []] [.slice none 0 0,.slice none 0 0,.slice none 0 0]from⟨.nil _ _ aI,.nil _ _ aI,.nil _ _ aI,U⟩)⟩
theorem KC:Cw prog 25:=λad ri k c k' c'=>by kernel_rfl
theorem BV:dV prog 25 3:=zO
abbrev xA:BA:=⟨#[97]⟩
abbrev xB:BA:=⟨#[98]⟩
abbrev xC:BA:=⟨#[99]⟩
abbrev xD:BA:=⟨#[100]⟩
abbrev xP:BA:=⟨#[112]⟩
abbrev xQ:BA:=⟨#[113]⟩
abbrev xR:BA:=⟨#[114]⟩
abbrev xT:BA:=⟨#[116]⟩
abbrev xI:BA:=⟨#[124,45]⟩
def dW (l to:BA) (fr:List BA):Fr:=⟨l,false,fr.map λs=>⟨l++s,false,[⟨#[124,45]⟩,s]⟩,[],[⟨#[124,45]⟩,to],[],[],[]⟩
abbrev jI:Fr:= { dW ⟨#[116]⟩ ⟨#[113]⟩ []with thm:=true }
theorem uW {J:WP} (V:aR J) (l to:BA) (fr:List BA) (hf:fr.length<=10) (hl:l.size<=10) (hs:∀ s∈fr,s.size<=10):Fn prog J 60 [.str l,.str to,.rd (ai fr)] (.agg (a8 (dW l to fr))):=by
 refine fE func60 λS w0 hS hJ0=>?_
 refine tw cc (ln 2 λcr=>?_)
 refine aL (cx Cm V Y Y Y (lb Y) λb1=>aA [0,1,2,3] U4 Y (nx (tw (iJ 119 3 V) (aL (ao 2 tb Y (sq (.rd (ai ([xI,to]:List BA))) Y Y (lb Y) (λa _ h=>qF (k:=2) (us:=[a.eval (.const (.string { data:= #[124,45] })),a.eval (.tmp 11)]) bz Cr Y yz (b6 (Rel.aH (.string { data:= #[124,45] }) (lb Y)) (b6 (h.get 0 Y) cM)) Y dz dz (aK hS _ h.keep h.x _ aV) (jo V h.x)) (sq (.agg [lS l,lB false,.lit (.slice none 0 0),bM ([]:List Pr),ai ([xI,to]:List BA),bX ([]:List Hy),bM ([]:List Pr),ai ([]:List BA)]) Y Y (lb Y) (λa _ h=>gr (ps:=[(0,a.eval (.tmp 10)),(4,a.eval (.tmp 12))]) (us:=[a.eval (.tmp 10),.bool false,.slice none 0 0,.slice none 0 0,a.eval (.tmp 12),.slice none 0 0,.slice none 0 0,.slice none 0 0]) KE Y yz (kB (lb Y) (Rel.mi (h.get 2 Y)) (kB (lb Y) (Rel.mi (h.get 0 Y)) gn)) Y (b6 (h.get 2 Y) (dT (.lit _ True.intro) (dT (.lit _ True.intro) (dT (.nil _ _ aI) (b6 (h.get 0 Y) (dT (.nil _ _ aI) (dT (.nil _ _ aI) (dT (.nil _ _ aI) cM)))))))) h.x) (cx Cm V Y Y Y (lb Y) λb2=>ce (b:=b2) (off:=0) (es:=U8) (news:=U8) V hJ0 BX Y Y Y (lb Y) Y (λa w h=>⟨(h.get 0 Y),(h.get 1 Y)⟩) (aA [0,2,5,6,8] U5 Y (nx (ln 1 λhl2=>?_)))))))))))
 refine af (au tb V [0,2,3,1000,1001,1002] [_,.int (fr.length:Nat),_] [1] U6 Y ⟨aC b7,U⟩ ?_)
 refine ax (lpo (ι:=Nat×(List Hy)×Value) (λ(q,hy,_)=>(q<=fr.length)/\(hy=(fr.take q).map λs=>(⟨l++s,false,[⟨#[124,45]⟩,s]⟩:Hy))) (λ(_,hy,wh)=>[OB.var b2 [lS l,lB false,.lit wh,bM ([]:List Pr),ai ([xI,to]),bX ([]:List Hy),bM ([]:List Pr),ai ([]:List BA)],OB.row wh 119 3 (hy.map aP),OB.var b1 [lS (⟨#[]⟩:BA),lB false,bX ([]:List Hy),bM ([]:List Pr),ai ([]:List BA),bX ([]:List Hy),bM ([]:List Pr),ai ([]:List BA)]]) (λ(q,_,_)=>[(16,.int (q:Nat))]) (λ(q,_,_)=>fr.length-q) (r6 []) U5 (0,[],(.slice none 0 0)) ⟨aI,Y⟩ ?_)
 rintro⟨q,hy,wh⟩ ⟨aQ,ah⟩
 refine aj tb V (r6 [1000]) [_] U7 ?_
 refine cE 6 ?_ ?_<;>intro hb1<;>try simp at hb1
 ·have XU:=hs (G fr q) (aE oz)
  have PU:hy.length=q:=by rw[ah,length_map,length_take];omega
  refine ak (nx (af (ax (au tb V (r6 [1002]) [.ptr [lS (G fr q)],_,_] [0] U7 Y ⟨bq bz,U⟩ ?_))))
  refine cC (sq (.at b2 2) Y Y (lb Y) (λ_ _ h=>cy tB Y (h.get 0 Y) h.x) (sy (.lit wh) (λh=>cg si Y (aG h.x (mo 0 Y)) (h.get 0 Y) Y h.x) ?_))
  refine ao 2 tb Y (sy (.str (l++(G fr q))) (λh=>TZ Y (h.get 1 Y) (h.get 0 Y) ay h.x) ?_)
  refine ao 1 tb Y (sq (.rd (ai ([xI,(G fr q)]:List BA))) Y Y (lb Y) (λa _ h=>qF (k:=2) (us:=[a.eval (.const (.string { data:= #[124,45] })),a.eval (.tmp 25)]) bz Cr Y yz (b6 (Rel.aH (.string { data:= #[124,45] }) (lb Y)) (b6 (h.get 0 Y) cM)) Y dz dz (aK hS _ h.keep h.x _ aV) (jo V h.x)) (sq (.agg (aP (⟨(l++(G fr q)),false,([xI,(G fr q)]:List BA)⟩:Hy))) Y Y (lb Y) (λa _ h=>gr (ps:=[(0,a.eval (.tmp 24)),(2,a.eval (.tmp 26))]) (us:=[a.eval (.tmp 24),.bool false,a.eval (.tmp 26)]) yL Y yz (kB (lb Y) (Rel.mi (h.get 2 Y)) (kB (lb Y) (Rel.mi (h.get 0 Y)) gn)) Y (b6 (h.get 2 Y) (dT (.lit _ True.intro) (b6 (h.get 0 Y) cM))) h.x) (sy (.rd (bX ([(⟨(l++(G fr q)),false,([xI,(G fr q)]:List BA)⟩:Hy)]))) (λh=>nl cL Xw dz Y Y (h.get 0 Y) (aK hS _ h.keep h.x _ aV) (jo V h.x)) ?_)))
  refine kw bO (fN (f:=aP) (m:=7) (s:=21) hy ([(⟨(l++(G fr q)),false,([xI,(G fr q)]:List BA)⟩:Hy)]) (λ_=>Y) nG V hJ0 Y Y Y (lb Y) Y Y (λa w h=>(h.get 0 Y)) ay ay λv3=>sy (.at b2 2) (λh=>cy tB Y (h.get 10 Y) h.x) (kw bO (gI (b:=b2) (off:=2) (es:=U8) V hJ0 IH Y Y Y (lb Y) Y (λa w h=>⟨(h.get 0 Y),(h.get 1 Y)⟩) (aA [2,4,11,12,13,14,15,16] U8 Y (nx (ln 0 λhl3=>?_))))))
  refine ln 1 λ_=>?_
  refine aT tb V [2,3,4,5,6,1001] [.int (q+1:Nat),_] [0] U6 Y ⟨aM,U⟩ ?_
  exact br (q+1,hy++([(⟨(l++(G fr q)),false,([xI,(G fr q)]:List BA)⟩:Hy)]),v3) (r6 []) ⟨oz,by rw[List.take_add_one,List.getElem?_eq_getElem oz,<-cF oz,List.map_append,<-ah];rfl⟩
 ·refine aW (nx (tw bO (tw (λh=>mu (j:=2) (cs':=[lS l,lB false,bX hy,bM ([]:List Pr),ai ([xI,to]),bX ([]:List Hy),bM ([]:List Pr),ai ([]:List BA)]) hS Y Y h) (aL (sy (.agg [lS l,lB false,bX hy,bM ([]:List Pr),ai ([xI,to]),bX ([]:List Hy),bM ([]:List Pr),ai ([]:List BA)]) (λh=>fA (ds:=[lS l,lB false,bX hy,bM ([]:List Pr),ai ([xI,to]),bX ([]:List Hy),bM ([]:List Pr),ai ([]:List BA)]) pI Y (aG h.x (mo 0 Y)) (h.get 0 Y) Y Y h.x) ?_)))))
  refine kw bO (ce (b:=b1) (off:=0) (es:=U8) (news:=U8) V hJ0 BX Y Y Y (lb Y) Y (λa w h=>⟨(h.get 2 Y),(h.get 0 Y)⟩) (aA [2] [_] Y (nx (aX (λa w h=>j0 (m:=0) Y pI h Y Y (show(_:List CD)=[lS ((dW l to fr).ae),lB ((dW l to fr).thm),bX ((dW l to fr).aa),bM ((dW l to fr).apart),ai ((dW l to fr).ac),bX ((dW l to fr).bB),bM ((dW l to fr).wide),ai ((dW l to fr).proof)]from by(rw[ah,show q=fr.length by omega,take_length];rfl)<;>rfl))))))
theorem Xb {J:WP} (V:aR J)   :Fn prog J 30 [] (.bF [.agg (bV jH),.agg (be jh)]):=by
 refine fE func30 λS w0 hS hJ0=>?_
 refine tw cc (aL (cx Cl V Y Y Y (lb Y) λb1=>cx jz V Y Y Y (lb Y) λb2=>aA [0,1] U2 Y (nx (aj tb V [0,1,1000] [_] U3 ?_))))
 refine aL (ao 1 tb Y (sy (.agg (a8 (dW xT xQ ([]:List BA)))) (λh=>iE ((uW V xT xQ ([]:List BA) dz dz dz).rr) (cO func60) Y (h.get 0 Y) (aK hS _ h.keep h.x) (h.x.1) b8 (aq (Rel.aH (.string { data:= #[116] }) (lb Y)) (aq (Rel.aH (.string { data:= #[113] }) (lb Y)) (aq (xh (Rel.aH (.slice none 0 0))) aN))) (jo V h.x)) ?_))
 refine cx Cm V Y Y Y (lb Y) λb3=>ce (b:=b3) (off:=0) (es:=U8) (news:=U8) V hJ0 BX Y Y Y (lb Y) Y (λa w h=>⟨(h.get 0 Y),(h.get 1 Y)⟩) (aA [0,3,4,5] U4 Y (nx (aL (sy (.at b3 1) (λh=>cy NP Y (h.get 0 Y) h.x) ?_))))
 refine gI (b:=b3) (off:=1) (es:=U8) V hJ0 qO Y Y Y (lb Y) Y (λa w h=>⟨(h.get 0 Y),(Rel.aH (.bool true))⟩) (aA [1,2,3,4] U4 Y (nx (tw (jr (show OB.var b3 [lS ((dW xT xQ ([]:List BA)).ae),lB true,bX ((dW xT xQ ([]:List BA)).aa),bM ((dW xT xQ ([]:List BA)).apart),ai ((dW xT xQ ([]:List BA)).ac),bX ((dW xT xQ ([]:List BA)).bB),bM ((dW xT xQ ([]:List BA)).wide),ai ((dW xT xQ ([]:List BA)).proof)]=OB.var b3 (a8 jI)from Y)) ?_)))
 refine af (λa w h=>lg [OB.var b3 (a8 jI),OB.var b2 [aY ([]:List Stp)],OB.var b1 [ai ([]:List BA),ai ([]:List BA),dX ([]:List Fr)]] (γ:=Nat) (λix'=>([.rd (ai ([xI,xP,xQ,xR]:List BA)),.fn 60 [],.agg (a8 (dW xA xP ([]:List BA))),.fn 60 [],.rd (ai ([xP])),.agg (a8 (dW xB xQ ([xP]))),.fn 60 [],.rd (ai ([xQ])),.agg (a8 (dW xC xR ([xQ]))),.fn 60 [],.rd (ai ([xR])),.agg (a8 (dW xD xQ ([xR]))),.agg (a8 jI),.rd (dX ([(dW xA xP ([]:List BA)),(dW xB xQ ([xP])),(dW xC xR ([xQ])),(dW xD xQ ([xR])),jI])),.agg (bV (⟨([xI,xP,xQ,xR]:List BA),[],[(dW xA xP ([]:List BA)),(dW xB xQ ([xP])),(dW xC xR ([xQ])),(dW xD xQ ([xR])),jI]⟩:Db)),.any,.any]:List AV).getD ix' .any) (λ_=>true) [(1,λ_=>.at b2 0),(0,λ_=>.at b1 0),(4,λg=>.at g 0)] (λ(b:List Bool) (g:Nat)=>(bif b.getD 1 false then [OB.var g (bV (⟨([xI,xP,xQ,xR]:List BA),[],[(dW xA xP ([]:List BA)),(dW xB xQ ([xP])),(dW xC xR ([xQ])),(dW xD xQ ([xR])),jI]⟩:Db))]else(bif b.getD 0 false then [OB.var g [ai ([]:List BA),ai ([]:List BA),dX ([]:List Fr)]]else []))++([OB.var b3 (a8 jI),OB.var b2 [aY ([]:List Stp)],OB.var b1 [ai ([]:List BA),ai ([]:List BA),dX ([]:List Fr)]])) (λk' g=>match k' with | 0=>(.pointer (some ⟨g,0,none⟩)) | _=>undef) [15,16] 0 (λ_=>Y) h V cU Y Y Y Y (λb g p hp=>(mem_append_right _ hp)) ⟨?_,oX Y λZ hl=>b9 Y (hl.env 3 2 _ Y Y) Z,?_,oX Y λZ hl=>b9 Y (hl.env 3 2 _ Y Y) Z,λ_ O' _=>⟨Y,λ_ _ hk Z _ _=>fz bz j7 Y (Rel.aH (.string { data:= #[112] }) (lb Y)) (aK hS _ hk Z _ aV) (jo V Z)⟩,?_,oX Y λZ hl=>b9 Y (hl.env 3 2 _ Y Y) Z,λ_ O' _=>⟨Y,λ_ _ hk Z _ _=>fz bz j7 Y (Rel.aH (.string { data:= #[113] }) (lb Y)) (aK hS _ hk Z _ aV) (jo V Z)⟩,?_,oX Y λZ hl=>b9 Y (hl.env 3 2 _ Y Y) Z,λ_ O' _=>⟨Y,λ_ _ hk Z _ _=>fz bz j7 Y (Rel.aH (.string { data:= #[114] }) (lb Y)) (aK hS _ hk Z _ aV) (jo V Z)⟩,?_,λ_ O' cf=>⟨Y,λ_ _ _ Z hl _=>fA (ds:=[lS (jI.ae),lB (jI.thm),bX (jI.aa),bM (jI.apart),ai (jI.ac),bX (jI.bB),bM (jI.wide),ai (jI.proof)]) pI Y (aG Z (cf _ (mo 0 Y))) (hl.env 0 3 _ Y Y) Y Y Z⟩,?_,oX Y λZ hl=>T3 (xs:=([xI,xP,xQ,xR]:List BA)) (fs:=([(dW xA xP ([]:List BA)),(dW xB xQ ([xP])),(dW xC xR ([xQ])),(dW xD xQ ([xR])),jI])) KC Y (hl.D 0 8 Y Y) (hl.D 13 21 Y Y) Z,bC Y,bC Y,U⟩ ⟨?zl,?zm,U⟩ ⟨.old 1 1 _,.old 2 0 _,.d6 0 15 4 (λ(g:Nat)=>(.pointer (some ⟨g,0,none⟩))) Y Y (λ_=>Y) (λ_=>True.intro),U⟩ ?Rm)
 exact λ_ O' _=>⟨Y,λa _ hk Z _ _=>qF (k:=4) (us:=[a.eval (.const (.string { data:= #[124,45] })),a.eval (.const (.string { data:= #[112] })),a.eval (.const (.string { data:= #[113] })),a.eval (.const (.string { data:= #[114] }))]) bz Cr Y yz (b6 (Rel.aH (.string { data:= #[124,45] }) (lb Y)) (b6 (Rel.aH (.string { data:= #[112] }) (lb Y)) (b6 (Rel.aH (.string { data:= #[113] }) (lb Y)) (b6 (Rel.aH (.string { data:= #[114] }) (lb Y)) cM)))) Y dz dz (aK hS _ hk Z _ aV) (jo V Z)⟩
 exact oY Y λhk Z hl=>iE ((uW V xA xP ([]:List BA) dz dz dz).rr) (cO func60) Y (hl.D 1 9 Y Y) (aK hS _ hk Z) (Z.1) b8 (aq (Rel.aH (.string { data:= #[97] }) (lb Y)) (aq (Rel.aH (.string { data:= #[112] }) (lb Y)) (aq (xh (Rel.aH (.slice none 0 0))) aN))) (jo V Z)
 exact oY Y λhk Z hl=>iE ((uW V xB xQ ([xP]) dz dz dz).rr) (cO func60) Y (hl.D 3 11 Y Y) (aK hS _ hk Z) (Z.1) b8 (aq (Rel.aH (.string { data:= #[98] }) (lb Y)) (aq (Rel.aH (.string { data:= #[113] }) (lb Y)) (aq (hl.D 4 12 Y Y) aN))) (jo V Z)
 exact oY Y λhk Z hl=>iE ((uW V xC xR ([xQ]) dz dz dz).rr) (cO func60) Y (hl.D 6 14 Y Y) (aK hS _ hk Z) (Z.1) b8 (aq (Rel.aH (.string { data:= #[99] }) (lb Y)) (aq (Rel.aH (.string { data:= #[114] }) (lb Y)) (aq (hl.D 7 15 Y Y) aN))) (jo V Z)
 exact oY Y λhk Z hl=>iE ((uW V xD xQ ([xR]) dz dz dz).rr) (cO func60) Y (hl.D 9 17 Y Y) (aK hS _ hk Z) (Z.1) b8 (aq (Rel.aH (.string { data:= #[100] }) (lb Y)) (aq (Rel.aH (.string { data:= #[113] }) (lb Y)) (aq (hl.D 10 18 Y Y) aN))) (jo V Z)
 exact λ_ O' _=>⟨Y,λa w hk Z hl _=>H7 (z:= #[.string ⟨#[]⟩,.bool false,.slice none 0 0,.slice none 0 0,.slice none 0 0,.slice none 0 0,.slice none 0 0,.slice none 0 0]) (cs:=[a8 (dW xA xP ([]:List BA)),a8 (dW xB xQ ([xP])),a8 (dW xC xR ([xQ])),a8 (dW xD xQ ([xR])),a8 jI]) (vs:=[a.eval (.tmp 10),a.eval (.tmp 13),a.eval (.tmp 16),a.eval (.tmp 19),a.eval (.tmp 20)]) fT (λw=>by kernel_rfl) Y yz (aq (hl.D 2 10 Y Y) (aq (hl.D 5 13 Y Y) (aq (hl.D 8 16 Y Y) (aq (hl.D 11 19 Y Y) (aq (hl.D 12 20 Y Y) aN))))) (of_decide_eq_true Y) Y dz dz dz (aK hS _ hk Z _ aV) (jo V Z)⟩
 case zl=>exact eE [[false,false]] yq Y Y Y Y ⟨λ_ _ w hk Z _ _=>bD (gD Cl V Y hk Z) λv w' ⟨b',hv,hp⟩=>⟨b',dZ,λ_=>hv,True.intro,hp⟩,U⟩
 case zm=>exact eE [[true,false]] yq Y Y Y Y ⟨λg _ w hk Z hl hs=>(by obtain⟨eP,hv2,eh⟩:=jw (hl.D 14 22 Y Y);exact bD (iw (S':=S) (off:=0) (news:=U3) (es:=U3) (us:=eP) V hJ0 BV Y hk Z (kt (hs 0 15 _ 4 Y Y Y Y)) (by rw[hv2];rfl) eh (lb Y) Y) λv w' hp=>⟨g,λ_ _=>rfl,λe=>(by cases e),True.intro,hp⟩),U⟩
 clear a w h
 intro b4
 dsimp only[List.map]
 refine kw (λh=>fB hS h (m:=2) (s:=4) Y) (nx (aL (ao 1 tb Y (sq (.agg (bx (⟨xA,[]⟩:Stp))) Y Y (lb Y) (λa _ h=>gr (ps:=[(0,a.eval (.const (.string { data:= #[97] })))]) (us:=[a.eval (.const (.string { data:= #[97] })),.slice none 0 0]) yM Y yz (kB (lb Y) Y gn) Y (b6 (Rel.aH (.string { data:= #[97] }) (lb Y)) (dT (.nil _ _ aI) cM)) h.x) (sy (.rd (bQ ([(0:Int)]))) (λh=>fz c8 px Y (Rel.aH (.int .i64 0)) (aK hS _ h.keep h.x _ aV) (jo V h.x)) ?_)))))
 refine sq (.agg (bx (⟨xB,[(0:Int)]⟩:Stp))) Y Y (lb Y) (λa _ h=>gq (us:=[a.eval (.const (.string { data:= #[98] })),a.eval (.tmp 25)]) rm Y yz (b6 (Rel.aH (.string { data:= #[98] }) (lb Y)) (b6 (h.get 0 Y) cM)) Y h.x) (sy (.rd (bQ ([(1:Int)]))) (λh=>fz c8 px Y (Rel.aH (.int .i64 1)) (aK hS _ h.keep h.x _ aV) (jo V h.x)) ?_)
 refine sq (.agg (bx (⟨xC,[(1:Int)]⟩:Stp))) Y Y (lb Y) (λa _ h=>gq (us:=[a.eval (.const (.string { data:= #[99] })),a.eval (.tmp 27)]) rm Y yz (b6 (Rel.aH (.string { data:= #[99] }) (lb Y)) (b6 (h.get 0 Y) cM)) Y h.x) (sy (.rd (bQ ([(2:Int)]))) (λh=>fz c8 px Y (Rel.aH (.int .i64 2)) (aK hS _ h.keep h.x _ aV) (jo V h.x)) ?_)
 refine sq (.agg (bx (⟨xD,[(2:Int)]⟩:Stp))) Y Y (lb Y) (λa _ h=>gq (us:=[a.eval (.const (.string { data:= #[100] })),a.eval (.tmp 29)]) rm Y yz (b6 (Rel.aH (.string { data:= #[100] }) (lb Y)) (b6 (h.get 0 Y) cM)) Y h.x) (sq (.rd (aY ([(⟨xA,[]⟩:Stp),(⟨xB,[(0:Int)]⟩:Stp),(⟨xC,[(1:Int)]⟩:Stp),(⟨xD,[(2:Int)]⟩:Stp)]))) Y Y (lb Y) (λa _ h=>H7 (z:= #[.string ⟨#[]⟩,.slice none 0 0]) (cs:=[bx (⟨xA,[]⟩:Stp),bx (⟨xB,[(0:Int)]⟩:Stp),bx (⟨xC,[(1:Int)]⟩:Stp),bx (⟨xD,[(2:Int)]⟩:Stp)]) (vs:=[a.eval (.tmp 24),a.eval (.tmp 26),a.eval (.tmp 28),a.eval (.tmp 30)]) eq (λw=>by kernel_rfl) Y yz (aq (h.get 6 Y) (aq (h.get 4 Y) (aq (h.get 2 Y) (aq (h.get 0 Y) aN)))) (of_decide_eq_true Y) Y dz dz dz (aK hS _ h.keep h.x _ aV) (jo V h.x)) (sq (.agg (be ([(⟨xA,[]⟩:Stp),(⟨xB,[(0:Int)]⟩:Stp),(⟨xC,[(1:Int)]⟩:Stp),(⟨xD,[(2:Int)]⟩:Stp)]))) Y Y (lb Y) (λa _ h=>gq (us:=[a.eval (.tmp 31)]) vA Y yz (b6 (h.get 0 Y) cM) Y h.x) (kw du (ce (b:=b1) (off:=0) (es:=U3) (news:=U3) V hJ0 BV Y Y Y (lb Y) Y (λa w h=>⟨(h.get 12 Y),(h.get 9 Y)⟩) (kw du (ce (b:=b2) (off:=0) (es:=[_]) (news:=[_]) V hJ0 fI Y Y Y (lb Y) Y (λa w h=>⟨(h.get 11 Y),(h.get 0 Y)⟩) (aA [1,3,5,7,11,12] U6 Y (nx (ln 0 λcr=>?_)))))))))
 refine ln 1 λ_=>?_
 refine ln 2 λ_=>?_
 refine ln 3 λ_=>?_
 exact tw bO (aX (λa w h=>QE (m:=5) (q:=4) Y vf ee h Y Y Y Y (show(_:List CD)=[ai jH.bL,ai jH.vars,dX jH.ab]from Y) (show(_:List CD)=[aY jh]from Y)))
theorem W4:mz prog 28 1:=⟨(#[.slice none 0 0]),Y,by kernel_rfl⟩
theorem Jy {J:WP} (V:aR J)  (hG:gJ J):Fn prog J 9 [] (.bool true):=by
 refine fE func9 λS w0 hS hJ0=>?_
 refine tw cc ?_
 obtain⟨lc,l7⟩:=Nb
 obtain⟨xs,FJ⟩:∃ xs,lv (fx jH 4 jh) 3=xs:=⟨_,Y⟩
 rw[FJ]at l7
 have n9:0<xs.length:=by rw[l7];simp
 refine aj tb V [] [_] [] ?_
 refine aL (sy (.bF [.agg (bV jH),.agg (be jh)]) (λh=>cV (Xb V  ) (cO func30) Y (aK hS _ h.keep h.x) (h.x.1) aN (jo V h.x)) ?_)
 refine ao 3 tb Y (cx Cl V Y Y Y (lb Y) λb1=>cx jz V Y Y Y (lb Y) λb2=>kw bO (ce (b:=b1) (off:=0) (es:=U3) (news:=U3) V hJ0 BV Y Y Y (lb Y) Y (λa w h=>⟨(h.get 1 Y),(h.get 3 Y)⟩) (kw bO (ce (b:=b2) (off:=0) (es:=[_]) (news:=[_]) V hJ0 fI Y Y Y (lb Y) Y (λa w h=>⟨(h.get 0 Y),(h.get 2 Y)⟩) (kw bO (kw (λh=>fB hS h (m:=1) (s:=1) Y) (kw (λh=>fB hS h (m:=1) (s:=2) Y) (aA [0,1] U2 Y (nx (af (aT tb V [1004,1006,1007] [_,_,.bF [.rd (gB (lv (fx jH (4:Int) jh) 3)),.int 0],_,_,_,_,_] [2] U3 Y ⟨bJ hS V (Sk V jH (4:Int) jh 3 dz (by exact hG) (by exact Nc) dz dz dz) (cO func15),U⟩ ?_)))))))))))
 refine kw (sa 1 Y (congrArg (λz'=>AV.rd (gB z')) (show(lv (fx jH (4:Int) jh) 3)=xs from FJ))) (nx (ln 0 λcr=>?_))
 refine ln 1 λ_=>?_
 refine au tb V [1036] (V4 [.int (xs.length:Nat),_,_,_,_,.ptr (cm (G xs 0)),_,_,_,_,_,_,.ptr (cm (G xs 0)),_,_,.rd (bQ ([(1:Int)])),.bool (decide (((G xs 0).args)=([(1:Int)]))),_,_,_,.ptr (cm (G xs 0)),_,_,_,_,_,_,.ptr (cm (G xs 0)),_,_,_,_,_]) [4,9,16,19,20,24,31] [_] Y ⟨aC yj,cT (k:=0) p7 (hk:=λ_=>by first | omega | (simp;omega) | grind[aE]),cT (k:=0) p7 (hk:=λ_=>by first | omega | (simp;omega) | grind[aE]),λ_ _ hk Z _ _=>fz c8 px Y (Rel.aH (.int .i64 1)) (aK hS _ hk Z _ aV) (jo V Z),bJ hS V (G4 V ((G xs 0).args) ([(1:Int)])) (cO func31),cT (k:=0) p7 (hk:=λ_=>by first | omega | (simp;omega) | grind[aE]),cT (k:=0) p7 (hk:=λ_=>by first | omega | (simp;omega) | grind[aE]),U⟩ ?_
 exact bH 0 (hE:=eB (by rw[l7];simp[G]))
end
section
open Go.RowKit
theorem K7 {J:WP} (V:aR J) (d:Db) (i:Nat) (s:Stp) (gw:Value) (fs:List (List BA)) (hi:i<d.ab.length) (dY:dG d=0) (mZ:∀ t∈fs,1<=t.length/\t.length<=2000) (oP:∀ j,j<s.args.length->0<=G s.args j/\G s.args j< (fs.length:Int)) (hap:∀ f∈d.ab,f.apart.length<=100000):cD prog J 99 [OB.row gw 22 1 (fs.map kN)] [.agg (bV d),.int (i:Nat),.agg (bx s),.lit gw] (.bF [.rd (ai ((cv d i s fs).1)),.int ((cv d i s fs).2)]):=by
 refine eV func99 λS w0 hS hJ0 hH=>?_
 refine tw cc (au tb V [1,3,1000,1001] [.ptr (bV d),.ptr (bx s),_,_] [0,1] U4 Y ⟨cY hS V,cY hS V,U⟩ ?_)
 refine af (aj tb V [0,1,2,3,1002] U3 U5 ?_)
 refine cj 4 ?_ ?_<;>intro hb1
 ·have eU:=IC (d:=d) (i:=i) (s:=s) (a:=fs) (by simpa using hb1)
  refine aj tb V [1000,1001] U2 U2 ?_
  exact tw (λh=>gu h (m:=0) (s:=8) Y) (aX (λa w h=>di (m:=0) (k:=1) Y (dw h) Y Y (congrArg (λz=>AV.rd (ai z)) (show([]:List BA)=((cv d i s fs).1)from by rw[eU])) (eI (by rw[eU]))))
 ·have h0:¬ s.ae=⟨#[63]⟩:=by simpa using hb1
  refine ak (nx (af (af (λa w h=>iF (γ:=Nat) (λix'=>([.ptr [dX d.ab],.rd (dX d.ab),.int (i:Nat),.ptr (a8 (G d.ab i)),.agg (a8 (G d.ab i)),.ptr (bx s),.str s.ae,.bF [.agg (aP ((cA (G d.ab i) s.ae).getD default)),.bool ((cA (G d.ab i) s.ae).isSome)],.bF [.agg (aP ((cA (G d.ab i) s.ae).getD default)),.bool ((cA (G d.ab i) s.ae).isSome)],.agg (aP ((cA (G d.ab i) s.ae).getD default)),.bool ((cA (G d.ab i) s.ae).isSome),.any,.any,.bool ((cA (G d.ab i) s.ae).isSome)]:List AV).getD ix' .any) (λ_=>true) [(1,λ_=>.int (i:Nat)),(3,λ_=>.lit gw),(4,λ_=>.ptr (bV d)),(6,λ_=>.ptr (bx s)),(10,λg=>.at g 0),(11,λ_=>.bool ((cA (G d.ab i) s.ae).isSome))] (λj' g=>match j' with | 0=>[] | 1=>[OB.var g [lS (⟨#[]⟩:BA),lB false,ai ([]:List BA)]] | _=>[OB.var g (aP ((cA (G d.ab i) s.ae).getD default))]) (λk' g=>match k' with | 0=>(.pointer (some ⟨g,0,none⟩)) | _=>undef) [11,12] 2 0 (λ_=>Y) h V cU Y Y Y Y Y Y hsb ⟨oX Y λZ hl=>cd qa Y (hl.env 2 4 _ Y Y) Z,oX Y λZ hl=>bU qA Y (hl.D 0 19 Y Y) Z,oX Y λZ hl=>b9 Y (hl.env 0 1 _ Y Y) Z,?_,oX Y λZ hl=>j4 pI Y (hl.D 3 22 Y Y) aV Z,oX Y λZ hl=>cd ED Y (hl.env 3 6 _ Y Y) Z,oX Y λZ hl=>bU fh Y (hl.D 5 24 Y Y) Z,oY Y λhk Z hl=>cV (KR V (G d.ab i) s.ae) (cO func129) Y (aK hS _ hk Z) (Z.1) (aq (hl.D 4 23 Y Y) (aq (hl.D 6 25 Y Y) aN)) (jo V Z),oX Y λZ hl=>b9 Y (hl.D 7 26 Y Y) Z,oX Y λZ hl=>gt Y (hl.D 8 18 Y Y) Y Z,oX Y λZ hl=>gt Y (hl.D 8 18 Y Y) Y Z,bC Y,bC Y,oX Y λZ hl=>gY Y (hl.D 10 28 Y Y) Z,U⟩ ⟨?pZ,?tf,U⟩ ⟨.old 0 1 _,.old 1 3 _,.old 2 4 _,.old 3 6 _,.d6 0 11 10 (λg=>(.pointer (some ⟨g,0,none⟩))) Y Y (λ_=>Y) (λ_=>True.intro),.new 13 11 _,U⟩ ?pj))))
  exact oX Y λZ hl=>cb (i:=(i:Int)) fT Y (hl.D 1 20 Y Y) (hl.D 2 21 Y Y) bK (cl (xs:=d.ab) (k:=i) ay) Y Z
  case pZ=>exact⟨_,Y,Y,Y,Y,λg _ w hk Z _ _=>bD (gD kR V Y hk Z) λv w' ⟨g',hv,hp⟩=>⟨g',Y,λk' hk'=>absurd hk' (Nat.not_lt_zero _),λ_=>hv,hp⟩⟩
  case tf=>exact⟨_,Y,Y,Y,Y,λg _ w hk Z hl hs=>(by obtain⟨eP,hv2,eh⟩:=jw (hl.D 9 27 Y Y);exact bD (iw (S':=S) (off:=0) (news:=U3) (es:=U3) (us:=eP) V hJ0 jx Y hk Z (kt (hs 0 11 _ 10 oz Y Y Y)) (by rw[hv2];rfl) eh (lb Y) Y) λv w' hp=>⟨g,Y,λ_ _=>rfl,λe=>(by cases e),hp⟩)⟩
  clear a w h
  intro b1
  dsimp only[List.map]
  refine kw (λh=>fB hS h (m:=4) (s:=10) Y) (nx (aj tb V (r5 [1000]) [_] U6 ?_))
  refine cj 5 ?_ ?_<;>intro hb2
  ·refine af (au tb V [0,1001,1003] [_,_,.int (s.args.length:Nat),_] [2] U3 Y ⟨aC fb,U⟩ ?_)
   refine ln 1 λ_=>?_
   refine cj 2 ?_ ?_<;>intro aD<;>try simp at aD
   ·have eU:=ID (a:=fs) h0 hb2 oz
    refine aj tb V [1000,1001] U2 U2 ?_
    exact tw (λh=>gu h (m:=0) (s:=8) Y) (aX (λa w h=>di (m:=0) (k:=1) Y (dw h) Y Y (congrArg (λz=>AV.rd (ai z)) (show([]:List BA)=((cv d i s fs).1)from by rw[eU])) (eI (by rw[eU]))))
   ·have eU:=IE (a:=fs) h0 hb2 (by simpa using aD)
    refine ak (nx (aj tb V [1001,1002,1003] U4 U3 ?_))
    refine ln 0 λ_=>?_
    exact aX (λa w h=>di (m:=1) (k:=2) Y (dw h) Y Y (congrArg (λz=>AV.rd (ai z)) (show(((cA (G d.ab i) s.ae).getD default).ac)=((cv d i s fs).1)from by rw[eU])) (eI (by rw[eU])))
  ·have e2:(cA (G d.ab i) s.ae)=none:=by cases h9:(cA (G d.ab i) s.ae)with | none=>rfl | some y=>rw[h9]at hb2;cases hb2
   refine ak (nx (au tb V [1,2,3,4,1005] (V4 [.int (dR d i s.ae),_]) [4] U5 Y ⟨bJ hS V (KJ V d i s.ae oz) (cO func130),U⟩ ?_))
   refine af (aj tb V (r5 [1001]) U2 U6 ?_)
   refine cj 5 ?_ ?_<;>intro bd<;>try simp at bd
   ·have eU:=IA (a:=fs) h0 e2 (show(dR d i s.ae)<0 by omega)
    refine aj tb V [1000,1001] U2 U2 ?_
    exact tw (λh=>gu h (m:=0) (s:=8) Y) (aX (λa w h=>di (m:=0) (k:=1) Y (dw h) Y Y (congrArg (λz=>AV.rd (ai z)) (show([]:List BA)=((cv d i s fs).1)from by rw[eU])) (eI (by rw[eU]))))
   ·have e5:=vh (d:=d) (i:=i) (s:=s.ae) oz
    have e6:=pS dY _ (aE e5.2.2)
    have e9:(G d.ab (dR d i s.ae).toNat).aa.length<=2000:=e6.1.1
    refine tw (sa 4 Y (show(.int (dR d i s.ae):AV)= .int ((dR d i s.ae).toNat:Nat)from congrArg AV.int oz)) (ak (nx (af (au tb V (r5 [1001,1004,1008,1010]) [_,_,.int (s.args.length:Nat),_,_,_,.ptr (a8 (G d.ab ((dR d i s.ae).toNat))),_,_,.int (((G d.ab ((dR d i s.ae).toNat)).aa).length:Nat),_] [2,6,9] U9 Y ⟨aC fb,bq fT,aC cW,U⟩ ?_))))
    refine ln 5 λ_=>?_
    refine ln 6 λ_=>?_
    refine ln 7 λ_=>?_
    refine cj 8 ?_ ?_<;>intro bW<;>try simp at bW
    ·have eU:=IB (a:=fs) h0 e2 oz oz
     refine aj tb V [1000,1001] U2 U2 ?_
     exact tw (λh=>gu h (m:=0) (s:=8) Y) (aX (λa w h=>di (m:=0) (k:=1) Y (dw h) Y Y (congrArg (λz=>AV.rd (ai z)) (show([]:List BA)=((cv d i s fs).1)from by rw[eU])) (eI (by rw[eU]))))
    ·have eg:s.args.length=(G d.ab (dR d i s.ae).toNat).aa.length:=by omega
     have eU:=BU (a:=fs) h0 e2 oz eg
     refine ak (nx (aL (kz eG V Y Y Y (lb Y) λv2=>ao 1 tb (env':=[(13,_),(54,_),(1,_),(3,_),(4,_),(6,_),(12,_),(44,_),(47,_),(51,_),(53,_)]) Y (aA [0,2,3,4,5,6] U6 Y (nx (af (aj tb V (r6 [1000]) [_] U7 ?_)))))))
     refine ax (lpo (ι:=Nat×Value×(List (List BA))) (λ(q,_,es)=>(q<=s.args.length)/\(es=bg fs (s.args.take q))) (λ(_,ev,es)=>[OB.row ev 22 1 (es.map kN)]) (λ(q,ev,_)=>[(14,.int (q:Nat)),(13,.lit ev)]) (λ(q,_,_)=>s.args.length-q) [1,2,3,4,5,6,0] U5 (0,v2,([]:List (List BA))) ⟨aI,Y⟩ ?_)
     rintro⟨q,ev,es⟩ ⟨aQ,ah⟩
     refine af (au tb V (r7 [1004]) (V3 [.int (s.args.length:Nat),_]) [3] U8 Y ⟨aC fb,U⟩ ?_)
     refine cj 7 ?_ ?_<;>intro eW<;>try simp at eW
     ·have e1:=oP q oz
      have e8:es.length=q:=by rw[ah,rt,length_take];omega
      refine ak (nx (af (ax (cC (ao 5 tb (env':=[(66,_),(65,_),(64,_),(63,_),(62,_),(1,_),(3,_),(4,_),(6,_),(12,_),(14,_),(13,_),(59,_)]) Y (sy (.ptr [lI (G s.args q)]) (λh=>cb (i:=(q:Int)) c8 Y (h.get 1 Y) (h.get 0 Y) bK (cl (xs:=s.args) (k:=q) ay) Y h.x) ?_))))))
      refine ao 1 tb (env':=[(68,_),(67,_),(66,_),(65,_),(64,_),(63,_),(62,_),(1,_),(3,_),(4,_),(6,_),(12,_),(14,_),(13,_),(59,_)]) Y (sy (.lit (cG gw (((G s.args q).toNat)*1))) (λh=>eZ (i:=(G s.args q)) eG Y (dC hH h.keep h.x (mo 0 Y)) (h.get 5 Y) (h.get 0 Y) ay (by rw[length_map];exact ay) h.x) ?_)
      refine sy (.rd (ai (G fs ((G s.args q).toNat)))) (λh=>nn (i:=(G s.args q).toNat) ip Y (dC hH h.keep h.x (mo 0 Y)) (h.get 0 Y) (iG (xs:=fs) (k:=(G s.args q).toNat) ay) h.x) ?_
      refine sy (.rd (cu ([(G fs ((G s.args q).toNat))]))) (λh=>fz eG ra Y (h.get 0 Y) (aK hS _ h.keep h.x _ aV) (jo V h.x)) ?_
      refine fN (f:=kN) (m:=9) (s:=62) es ([(G fs ((G s.args q).toNat))]) (λ_=>Y) sP V hJ0 Y Y Y (lb Y) Y Y (λa w h=>(h.get 0 Y)) (by simp;omega) (by simp;omega) λv3=>?_
      refine ao 1 tb (env':=[(13,_),(72,_),(71,_),(70,_),(69,_),(68,_),(67,_),(66,_),(65,_),(64,_),(63,_),(62,_),(1,_),(3,_),(4,_),(6,_),(12,_),(14,_),(59,_)]) Y (aA [0,2,3,12,13,14,15,16,17] U9 Y (nx (ln 1 λAl=>?_)))
      refine ln 2 λ_=>?_
      refine aT tb V [0,3,4,5,6,7,1002] [_,.int (q+1:Nat),_] [1] U7 Y ⟨aM,U⟩ ?_
      exact br (q+1,v3,es++([(G fs ((G s.args q).toNat))])) [1,2,3,4,5,6,0] ⟨oz,by rw[MX oz,<-ah]⟩
     ·refine aW (nx (tw (λh=>dU hS h (m:=6) (s:=13) Y) (tw (sa 0 Y (congrArg (λz'=>AV.rd (cu z')) (show es=(bg fs s.args)from by rw[ah,show q=s.args.length by omega,take_length]))) ?_)))
      refine au tb V [1003,1005,1007,1008] (V4 [.bF [.rd (ai ((de d.vars (G d.ab i).wide (G d.ab ((dR d i s.ae).toNat)) (bg fs s.args)).1)),.int ((de d.vars (G d.ab i).wide (G d.ab ((dR d i s.ae).toNat)) (bg fs s.args)).2)],_,_,_,_]) [4] U4 Y ⟨bJ hS V (KZ V d i ((dR d i s.ae).toNat) (bg fs s.args) (by exact hi) (by exact e5.2.2) (by rw[rt];exact eg) (by exact zu mZ oP) (by exact e6.1.2) (by exact hap _ (aE e5.2.2)) (by exact e6.1.1)) (cO func131),U⟩ ?_
      refine ln 0 λ_=>?_
      refine ln 1 λ_=>?_
      exact aX (λa w h=>di (m:=2) (k:=3) Y (dw h) Y Y (congrArg (λz=>AV.rd (ai z)) (show((de d.vars (G d.ab i).wide (G d.ab ((dR d i s.ae).toNat)) (bg fs s.args)).1)=((cv d i s fs).1)from by rw[eU])) (eI (by rw[eU])))
theorem Dp {J:WP} (V:aR J) (d:Db) (z:Int) (ss:List Stp) (hw:∀ i,i<d.ab.length->(G d.ab i).wide.length*32<=140737488351232) (hap:∀ f∈d.ab,f.apart.length<=100000):Fn prog J 71 [.agg (bV d),.int z,.agg (be ss)] (.bF [.rd (cu ((aZ d z ss).1)),.agg (kS ((aZ d z ss).2)),.int (dH d z ss)]):=by
 refine fE func71 λS w0 hS hJ0=>?_
 refine tw cc (aL (sy (.ptr (bV d)) (λh=>fk Y (h.get 0 Y) (aK hS _ h.keep h.x _ aV) (jo V h.x)) ?_))
 refine sy (.ptr (be ss)) (λh=>fk Y (h.get 3 Y) (aK hS _ h.keep h.x _ aV) (jo V h.x)) ?_
 refine ao 1 tb (env':=[(6,_),(5,_),(3,_),(0,_),(1,_),(2,_)]) Y (cx sI V Y Y Y (lb Y) λb1=>ao 1 tb (env':=[(8,_),(7,_),(6,_),(5,_),(3,_),(0,_),(1,_),(2,_)]) Y (aA [1,3,4,6] U4 Y (nx (af (au tb V [0,1,2,3,1004] (V3 [.int (dH d z ss),_]) [3] U5 Y ⟨bJ hS V (Dj V d z ss (by exact hw)) (cO func70),U⟩ ?_)))))
 refine aj tb V (r5 [1001]) U2 U6 ?_
 refine cj 5 ?_ ?_<;>intro hb1<;>try simp at hb1
 ·have eU:aZ d z ss=([],(0,0)):=if_neg (by simpa using hb1)
  refine aL (sy (.agg (kS (⟨0,0⟩:Int×Int))) (λh=>gr (ps:=[]) (us:=[.int .i64 0,.int .i64 0]) vz Y yz gn Y (dT (.lit _ True.intro) (dT (.lit _ True.intro) cM)) h.x) ?_)
  refine ao 2 tb (env':=[(6,_),(21,_),(20,_),(7,_),(5,_),(3,_),(1,_),(9,_),(19,_)]) Y (ce (b:=b1) (off:=0) (es:=U2) (news:=U2) V hJ0 lL Y Y Y (lb Y) Y (λa w h=>⟨(h.get 3 Y),(h.get 2 Y)⟩) (ao 1 tb (env':=[(8,_),(6,_),(21,_),(20,_),(7,_),(5,_),(3,_),(1,_),(9,_),(19,_)]) Y (aA [0,1,4] U3 Y (nx (tw (λh=>gu h (m:=1) (s:=6) Y) (aX (λa w h=>pg (cs:=[lI ((⟨0,0⟩:Int×Int).1),lI ((⟨0,0⟩:Int×Int).2)]) (m:=2) (q:=1) (z:=0) Y oC h Y Y (show([lI ((⟨0,0⟩:Int×Int).1),lI ((⟨0,0⟩:Int×Int).2)]:List CD)=[lI (((aZ d z ss).2).1),lI (((aZ d z ss).2).2)]from by first | (rw[eU];done) | rw[eU,e3]) Y (congrArg (λz=>AV.rd (cu z)) (show([]:List (List BA))=((aZ d z ss).1)from by rw[eU])) Y Y)))))))
 ·have e0:dH d z ss=0:=by simpa using hb1
  obtain⟨ha,hf⟩:=nK e0
  have bw:=(tD ss).1 hf
  obtain⟨dY,lC,f9⟩:=oE ha
  have hi:z.toNat<d.ab.length:=by omega
  have jX:=bw.1
  have cr:=bw.2.1
  refine tw (sa 3 Y (show(.int z:AV)= .int (z.toNat:Nat)from congrArg AV.int oz)) (ak (nx (aL (kz eG V Y Y Y (lb Y) λv2=>ao 1 tb (env':=[(10,_),(22,_),(7,_),(5,_),(3,_),(1,_),(9,_),(19,_)]) Y (aA [0,2,3,4,5] U5 Y (nx (af (aj tb V (r5 [1000]) [_] U6 ?_))))))))
  refine ax (lpo (ι:=Nat×Value×(List (List BA))) (λ(k,_,fs)=>(k<=ss.length)/\(fs=dL d z.toNat ss k)/\(∀ j,j<k->iy d z.toNat ss j=0)) (λ(_,v,fs)=>[OB.row v 22 1 (fs.map kN),OB.var b1 [lI 0,lI 0]]) (λ(k,v,_)=>[(11,.int (k:Nat)),(10,.lit v)]) (λ(k,_,_)=>ss.length-k) [1,2,3,4,5,0] U4 (0,v2,([]:List (List BA))) ⟨aI,Y,λj hj=>by omega⟩ ?_)
  rintro⟨k,v,fs⟩ ⟨aQ,ah,bh⟩
  refine af (au tb V (r6 [1002,1004]) (V3 [.int (ss.length:Nat),_]) [3] U8 Y ⟨aC eo,U⟩ ?_)
  refine ln 6 λcr=>?_
  refine cj 7 ?_ ?_<;>intro hb2<;>try simp at hb2
  ·have e2:=rA dY hi k bh
   rw[<-ah]at e2
   have e3:fs.length=k:=by rw[ah,lx]
   have e4:=GM bw (k:=k) oz
   refine ak (nx (af (ax (au tb V (r6 [1010,1012,1013]) (V5 [.ptr (bx (G ss k)),_,_,.bF [.rd (ai ((cv d z.toNat (G ss k) fs).1)),.int ((cv d z.toNat (G ss k) fs).2)],_,_,_,_,_]) [5,8] U9 Y ⟨bq eq,λ_ _ hk Z hl _=>dv (K7 V d z.toNat (G ss k) v fs (by exact hi) (by exact dY) (by exact e2) (by exact λj hj=>by have:=e4 j hj;omega) (by exact hap)) (cO func99) Y (aK hS _ hk Z) (Z.1) (dJ (aG Z (mo 0 Y)) b8) (aq (hl.D 0 31 Y Y) (aq (hl.D 1 32 Y Y) (aq (hl.D 6 37 Y Y) (aq (hl.D 7 38 Y Y) aN)))) (jo V Z),U⟩ ?_))))
   refine ln 6 λ_=>?_
   refine af (aj tb V (r6 [7,8,1001]) U2 U9 ?_)
   refine cj 8 ?_ ?_<;>intro aD<;>try simp at aD
   ·have eU:aZ d z ss=(fs,((cv d z.toNat (G ss k) fs).2,(k:Int))):=by rw[aZ,if_pos e0,Ch (k:=k) oz bh (by rw[rv,<-ah];simpa using aD),rv,<-ah]
    refine aL (ao 3 tb (env':=[(46,_),(45,_),(44,_),(7,_),(5,_),(3,_),(1,_),(11,_),(10,_),(12,_),(13,_),(43,_)]) Y (sq (.agg (kS (⟨(cv d z.toNat (G ss k) fs).2,(k:Int)⟩:Int×Int))) Y Y (lb Y) (λa _ h=>gq (us:=[a.eval (.tmp 45),a.eval (.tmp 46)]) vB Y yz (b6 (h.get 1 Y) (b6 (h.get 0 Y) cM)) Y h.x) (ao 1 tb (env':=[(6,_),(47,_),(46,_),(45,_),(44,_),(7,_),(5,_),(3,_),(1,_),(11,_),(10,_),(12,_),(13,_),(43,_)]) Y (kw bO (ce (b:=b1) (off:=0) (es:=U2) (news:=U2) V hJ0 lL Y Y Y (lb Y) Y (λa w h=>⟨(h.get 5 Y),(h.get 1 Y)⟩) (ao 1 tb (env':=[(8,_),(6,_),(47,_),(46,_),(45,_),(44,_),(7,_),(5,_),(3,_),(1,_),(11,_),(10,_),(12,_),(13,_),(43,_)]) Y (aA [0,1,6] U3 Y (nx (tw bO (tw (λh=>dU hS h (m:=1) (s:=6) Y) (aX (λa w h=>pg (cs:=[lI ((⟨(cv d z.toNat (G ss k) fs).2,(k:Int)⟩:Int×Int).1),lI ((⟨(cv d z.toNat (G ss k) fs).2,(k:Int)⟩:Int×Int).2)]) (m:=2) (q:=1) (z:=0) Y oC h Y Y (show([lI ((⟨(cv d z.toNat (G ss k) fs).2,(k:Int)⟩:Int×Int).1),lI ((⟨(cv d z.toNat (G ss k) fs).2,(k:Int)⟩:Int×Int).2)]:List CD)=[lI (((aZ d z ss).2).1),lI (((aZ d z ss).2).2)]from by first | (rw[eU];done) | rw[eU,e3]) Y (congrArg (λz=>AV.rd (cu z)) (show fs=((aZ d z ss).1)from by rw[eU])) Y (congrArg AV.int (show(0:Int)=dH d z ss from by rw[e0]))))))))))))))
   ·have e5:iy d z.toNat ss k=0:=by rw[rv,<-ah];simpa using aD
    refine ak (nx (cC (ao 2 tb (env':=[(49,_),(48,_),(7,_),(5,_),(3,_),(1,_),(11,_),(10,_),(12,_),(13,_),(43,_)]) Y (sy (.rd (cu ([((cv d z.toNat (G ss k) fs).1)]))) (λh=>fz eG ra Y (h.get 0 Y) (aK hS _ h.keep h.x _ aV) (jo V h.x)) ?_))))
    refine fN (f:=kN) (m:=2) (s:=48) fs ([((cv d z.toNat (G ss k) fs).1)]) (λ_=>Y) sP V hJ0 Y Y Y (lb Y) Y Y (λa w h=>(h.get 0 Y)) (by simp;omega) (by simp;omega) λv3=>?_
    refine ao 1 tb (env':=[(10,_),(51,_),(50,_),(49,_),(48,_),(7,_),(5,_),(3,_),(1,_),(11,_),(12,_),(13,_),(43,_)]) Y (aA [0,2,5,6,7,8,9] U7 Y (nx (ln 1 λhl3=>?_)))
    refine aT tb V [0,2,3,4,5,1002] [_,.int (k+1:Nat),_] [1] U6 Y ⟨aM,U⟩ ?_
    exact br (k+1,v3,fs++([((cv d z.toNat (G ss k) fs).1)])) [1,2,3,4,5,0] ⟨oz,by rw[EG,<-ah],cB bh e5⟩
  ·obtain rfl:k=ss.length:=by omega
   have e3:fs.length=ss.length:=by rw[ah,lx]
   refine aW (nx (af (au tb V [0,5,1005,1007,1011,1013] [_,_,.int (fs.length:Nat),.int (fs.length-1:Nat),.lit (cG v ((fs.length-1)*1)),.rd (ai (G fs (fs.length-1))),_,_,_,.ptr (a8 (G d.ab z.toNat)),_,_,.bool (decide ((G fs (fs.length-1))=((G d.ab z.toNat).ac))),_] [2,3,4,5,9,12] U6 Y ⟨λ_ _ _ Z hl _=>pm (by rw[length_map]) sH Y (aG Z (mo 0 Y)) (hl.D 1 53 Y Y) Z,λ_ _ _ Z hl _=>qI (i:=fs.length) (j:=1) Y (hl.D 2 54 Y Y) (Rel.aH (.int .i64 1)) ay ay Z,λ_ _ _ Z hl _=>eZ (i:=((fs.length-1:Nat):Int)) eG Y (aG Z (mo 0 Y)) (hl.D 0 52 Y Y) (hl.D 3 55 Y Y) bK (by rw[length_map];exact Int.ofNat_lt.2 ay) Z,λ_ _ _ Z hl _=>nn (i:=fs.length-1) ip Y (aG Z (mo 0 Y)) (hl.D 4 56 Y Y) (iG (xs:=fs) (k:=fs.length-1) ay) Z,bq fT,bJ hS V (Do V (G fs (fs.length-1)) ((G d.ab z.toNat).ac)) (cO func100),U⟩ ?_)))
   refine ln 2 λ_=>?_
   refine ln 3 λ_=>?_
   refine ln 4 λ_=>?_
   refine cj 5 ?_ ?_<;>intro bd<;>try simp at bd
   ·have eU:aZ d z ss=(fs,(28,(ss.length:Int))):=by rw[aZ,if_pos e0,pw bh,<-ah,if_neg (by first | (simpa using bd) | (simpa [e3]using bd))]
    refine aL (ao 2 tb (env':=[(67,_),(66,_),(7,_),(10,_),(57,_),(59,_),(63,_),(65,_)]) Y (sy (.int (fs.length:Nat)) (λh=>pm (by rw[length_map]) sH Y (aG h.x (mo 0 Y)) (h.get 0 Y) h.x) ?_))
    refine sq (.agg (kS (⟨(28:Int),(fs.length:Int)⟩:Int×Int))) Y Y (lb Y) (λa _ h=>gq (us:=[a.eval (.const (.int .i64 28)),a.eval (.tmp 68)]) vB Y yz (b6 (Rel.aH (.int .i64 28)) (b6 (h.get 0 Y) cM)) Y h.x) (ao 1 tb (env':=[(6,_),(69,_),(68,_),(67,_),(66,_),(7,_),(10,_),(57,_),(59,_),(63,_),(65,_)]) Y (kw bO (ce (b:=b1) (off:=0) (es:=U2) (news:=U2) V hJ0 lL Y Y Y (lb Y) Y (λa w h=>⟨(h.get 5 Y),(h.get 1 Y)⟩) (ao 1 tb (env':=[(8,_),(6,_),(69,_),(68,_),(67,_),(66,_),(7,_),(10,_),(57,_),(59,_),(63,_),(65,_)]) Y (aA [0,1,6] U3 Y (nx (tw bO (tw (λh=>dU hS h (m:=1) (s:=6) Y) (aX (λa w h=>pg (cs:=[lI ((⟨(28:Int),(fs.length:Int)⟩:Int×Int).1),lI ((⟨(28:Int),(fs.length:Int)⟩:Int×Int).2)]) (m:=2) (q:=1) (z:=0) Y oC h Y Y (show([lI ((⟨(28:Int),(fs.length:Int)⟩:Int×Int).1),lI ((⟨(28:Int),(fs.length:Int)⟩:Int×Int).2)]:List CD)=[lI (((aZ d z ss).2).1),lI (((aZ d z ss).2).2)]from by first | (rw[eU];done) | rw[eU,e3]) Y (congrArg (λz=>AV.rd (cu z)) (show fs=((aZ d z ss).1)from by rw[eU])) Y (congrArg AV.int (show(0:Int)=dH d z ss from by rw[e0]))))))))))))
   ·have eU:aZ d z ss=(fs,(0,0)):=by rw[aZ,if_pos e0,pw bh,<-ah,if_pos (by first | (simpa using bd) | (simpa [e3]using bd))]
    refine ak (nx (aL (ao 1 tb (env':=[(70,_),(7,_),(10,_),(57,_),(59,_),(63,_),(65,_)]) Y (sy (.agg (kS (⟨0,0⟩:Int×Int))) (λh=>gr (ps:=[]) (us:=[.int .i64 0,.int .i64 0]) vz Y yz gn Y (dT (.lit _ True.intro) (dT (.lit _ True.intro) cM)) h.x) ?_))))
    refine ao 1 tb (env':=[(6,_),(71,_),(70,_),(7,_),(10,_),(57,_),(59,_),(63,_),(65,_)]) Y (kw bO (ce (b:=b1) (off:=0) (es:=U2) (news:=U2) V hJ0 lL Y Y Y (lb Y) Y (λa w h=>⟨(h.get 3 Y),(h.get 1 Y)⟩) (ao 1 tb (env':=[(8,_),(6,_),(71,_),(70,_),(7,_),(10,_),(57,_),(59,_),(63,_),(65,_)]) Y (aA [0,1,4] U3 Y (nx (tw bO (tw (λh=>dU hS h (m:=1) (s:=6) Y) (aX (λa w h=>pg (cs:=[lI ((⟨0,0⟩:Int×Int).1),lI ((⟨0,0⟩:Int×Int).2)]) (m:=2) (q:=1) (z:=0) Y oC h Y Y (show([lI ((⟨0,0⟩:Int×Int).1),lI ((⟨0,0⟩:Int×Int).2)]:List CD)=[lI (((aZ d z ss).2).1),lI (((aZ d z ss).2).2)]from by first | (rw[eU];done) | rw[eU,e3]) Y (congrArg (λz=>AV.rd (cu z)) (show fs=((aZ d z ss).1)from by rw[eU])) Y (congrArg AV.int (show(0:Int)=dH d z ss from by rw[e0])))))))))))
end
section
abbrev hZ (c:bZ) (a:Int):Bool:=decide (a<0)||decide (c.step<=a)
section
variable {j:Jb} {c:bZ}
theorem Fx (h:c.args.any (hZ c)=true):iB j c=false:=by
 obtain⟨a,ha,h1⟩:=List.any_eq_true.1 h
 have h2:(c.args.all λa=>decide (0<=a/\a<c.step))=false:=by
  rw[List.all_eq_false]
  refine⟨a,ha,?_⟩
  have h3:a<0∨c.step<=a:=by simpa [hZ]using h1
  simp only[decide_eq_true_eq]
  omega
 rw[iB,h2,Bool.false_and,Bool.false_and]
theorem tT (h:c.args.any (hZ c)=false):∀ a∈c.args,0<=a/\a<c.step:=by
 intro a ha
 have h1:=List.any_eq_false.1 h a ha
 have h3:¬ (a<0∨c.step<=a):=by simpa [hZ]using h1
 omega
theorem Pw (h:c.args.any (hZ c)=false):(c.args.all λa=>decide (0<=a/\a<c.step))=true:=
 all_eq_true.2 λa ha=>decide_eq_true (tT h a ha)
def i8 (j:Jb) (c:bZ):Bool:=
 if c.dN=1 then decide (c.ae=⟨#[]⟩/\c.args.length=1/\G j.ts (G c.args 0).toNat=G j.ts c.step.toNat)
  else decide (0<=bR j.d c.ae/\bR j.d c.ae< (j.i:Int)/\c.args.length=(G j.d.ab (bR j.d c.ae).toNat).aa.length)&&fF j (G j.d.ab (bR j.d c.ae).toNat) c.args c.step.toNat
theorem As (h:i8 j c=false):iB j c=false:=by
 have e:iB j c=(c.args.all (λa=>decide (0<=a/\a<c.step))&&i8 j c&&decide ((cw j.ss c).length<dd j.ss/\(dd j.ss:Int)=c.before/\((cw j.ss c).length:Int)=c.after)):=rfl
 rw[e,h,Bool.and_false,Bool.false_and]
theorem At (h0:c.args.any (hZ c)=false) (h:i8 j c=true):iB j c=decide ((cw j.ss c).length<dd j.ss/\(dd j.ss:Int)=c.before/\((cw j.ss c).length:Int)=c.after):=by
 have e:iB j c=(c.args.all (λa=>decide (0<=a/\a<c.step))&&i8 j c&&decide ((cw j.ss c).length<dd j.ss/\(dd j.ss:Int)=c.before/\((cw j.ss c).length:Int)=c.after)):=rfl
 rw[e,h,Pw h0,Bool.true_and,Bool.true_and]
theorem Fy (h:iB j c=true):(∀ a∈c.args,0<=a/\a<c.step)/\i8 j c=true/\(cw j.ss c).length<dd j.ss:=by
 have e:iB j c=(c.args.all (λa=>decide (0<=a/\a<c.step))&&i8 j c&&decide ((cw j.ss c).length<dd j.ss/\(dd j.ss:Int)=c.before/\((cw j.ss c).length:Int)=c.after)):=rfl
 rw[e,Bool.and_eq_true,Bool.and_eq_true]at h
 exact⟨λa ha=>of_decide_eq_true (all_eq_true.1 h.1.1 a ha),h.1.2,(of_decide_eq_true h.2).1⟩
theorem tU {ss:List Stp}:((decide (((cw ss c).length:Int)< (dd ss:Int))&&decide ((ii ss c).before=c.before))&&decide ((ii ss c).after=c.after))=decide ((cw ss c).length<dd ss/\(dd ss:Int)=c.before/\((cw ss c).length:Int)=c.after):=by
 rw[Bool.eq_iff_iff]
 simp only[Bool.and_eq_true,decide_eq_true_eq]
 exact⟨λh=>⟨oz,h.1.2,h.2⟩,λh=>⟨⟨oz,h.2.1⟩,h.2.2⟩⟩
theorem F0 (h:i8 j c=true):¬ c.dN=1∨c.args.length=1:=by
 by_cases h1:c.dN=1
 ·rw[i8,if_pos h1]at h
  exact .inr (of_decide_eq_true h).2.1
 ·exact .inl h1
end
section
variable {d:Db} {z:Int} {ss q:List Stp} {c:bZ} {l:List bZ} {k:Nat}
theorem J3:(cz d z ss c).1.length<=ss.length:=by
 unfold cz
 split
 ·exact Nat.zero_le _
 ·split
  ·exact Nat.zero_le _
  ·split
   ·exact Nat.zero_le _
   ·split
    ·exact Nat.zero_le _
    ·rename_i h
     have h1:iB (fx d z ss) c=true:=by cases e:iB (fx d z ss) c<;>simp_all
     have h2:(cw ss c).length<dd ss:=(Fy h1).2.2
     have h3:=Vp ss
     show(cw ss c).length<=ss.length
     omega
theorem vH (h:k<l.length):lR d z q k ss (l.drop k)=if(cz d z ss (G l k)).2=0 then lR d z q (k+1) (cz d z ss (G l k)).1 (l.drop (k+1))else((k:Int),(cz d z ss (G l k)).2):=by
 rw[List.drop_eq_getElem_cons h,<-cF h,lR]
theorem vI (h:k=l.length):lR d z q k ss (l.drop k)=if ss=q then((k:Int),0)else((k:Int),261):=by
 rw[List.drop_of_length_le oz,lR]
def fK (d:Db) (z:Int) (ss q:List Stp) (l:List bZ):Int×Int:=if cQ d z ss=0 then lR d z q 0 ss l else(0,cQ d z ss)
end
theorem VW {a b:Stp}:(decide (a.ae=b.ae)&&decide (a.args=b.args))=decide (a=b):=by
 rw[Bool.eq_iff_iff]
 simp only[Bool.and_eq_true,decide_eq_true_eq]
 constructor
 ·intro h
  cases a;cases b;simp_all
 ·rintro rfl
  exact⟨rfl,rfl⟩
def lF (ss:List Stp) (last:Nat):Nat->List Bool
 | 0=>(List.replicate ss.length false).set last true
 | k+1=>lG ss (lF ss last k) (last-k)
def mh (ss:List Stp) (last:Nat):List Bool:=lF ss last (last+1)
def gU (ss:List Stp) (last:Nat):List Stp:=(et ss (mh ss last) (last+1)).2
section
variable {ss:List Stp} {last n k:Nat}
theorem Gq:∀ k,(lF ss last k).length=ss.length
 | 0=>by simp[lF]
 | k+1=>by rw[lF,Gs,Gq k]
theorem Rr:(mh ss last).length=ss.length:=Gq _
theorem Gp (h:1<=ss.length):∀ k,lF ss (ss.length-1) k=jb ss k
 | 0=>rfl
 | k+1=>by rw[lF,jb,Gp h k]
theorem AL (h:1<=ss.length):gU ss (ss.length-1)=jt ss:=by
 rw[gU,mh,Gp h,Nat.sub_add_cancel h];rfl
theorem Gn (n:Nat):∀(al:List Int) (m:List Bool),(iU m al).take n=iU (m.take n) al
 | [],m=>rfl
 | a::al,m=>by
  rw[iU,foldl_cons,iU,foldl_cons,<-List.take_set]
  exact Gn n al _
theorem rG {α:Type} [Inhabited α] {l:List α} {i n:Nat} (h:i<n):G (l.take n) i=G l i:=tG h
theorem Gr (hl:last<ss.length):∀ k,k<=last+1->(lF ss last k).take (last+1)=jb (ss.take (last+1)) k
 | 0,_=>by
  have e:(ss.take (last+1)).length=last+1:=by rw[length_take];omega
  rw[lF,jb,A3,e,List.take_set,List.take_replicate,Nat.min_eq_left oz]
  rfl
 | k+1,hk=>by
  have e:(ss.take (last+1)).length=last+1:=by rw[length_take];omega
  have ih:=Gr hl k oz
  rw[lF,jb,e,show last+1-1-k=last-k by omega,<-ih]
  unfold lG
  rw[rG (show last-k<last+1 by omega),rG (show last-k<last+1 by omega)]
  split
  ·rw[Gn]
  ·rfl
theorem HD {m m':List Bool} (hn:n<=ss.length) (hm:m.take n=m') (bw:∀ j,j<n->∀ a∈(G ss j).args,0<=a/\a< (j:Int)):∀ k,k<=n->(et ss m k).1.take n=(et (ss.take n) m' k).1/\(et ss m k).2=(et (ss.take n) m' k).2
 | 0,_=>by
  refine⟨?_,rfl⟩
  show(List.replicate ss.length (0:Int)).take n=List.replicate (ss.take n).length 0
  rw[List.take_replicate,length_take]
 | k+1,hk=>by
  obtain⟨h1,h2⟩:=HD hn hm bw k oz
  have e1:G m' k=G m k:=by rw[<-hm,rG oz]
  rw[et,et,e1,rG (show k<n by omega)]
  split
  ·have e2:((et ss m k).1.set k ((et ss m k).2.length:Int)).take n=(et (ss.take n) m' k).1.set k ((et (ss.take n) m' k).2.length:Int):=by rw[List.take_set,h1,h2]
   refine⟨e2,?_⟩
   dsimp only
   rw[h2]
   congr 3
   unfold mj
   apply List.map_congr_left
   intro a ha
   have h3:=bw k oz a ha
   rw[h2]at e2
   rw[<-e2,rG oz]
  ·exact⟨h1,h2⟩
theorem Ql (bw:ey ss) (hl:last<ss.length):gU ss last=jt (ss.take (last+1)):=by
 have e:(ss.take (last+1)).length=last+1:=by rw[length_take];omega
 rw[gU,jt,fW,e]
 refine(HD (m':=jb (ss.take (last+1)) (last+1)) oz ?_ (λj hj a ha=>?_) (last+1) aV).2
 ·exact Gr hl _ aV
 ·have h2:=(bw.2.2 j oz).2 a (by rw[<-cF oz];exact ha)
  exact h2
theorem Gh {ys zs:List Bool} {i q:Nat} (bw:ey ss) (hi:i<ss.length) (h:zs=iU ys ((G ss i).args.take q)):G zs i=G ys i:=by
 rw[h,Gm]
 have e:¬ (i∈((G ss i).args.take q).map Int.toNat/\i<ys.length):=by
  rintro⟨h1,_⟩
  obtain⟨a,ha,h2⟩:=mem_map.1 h1
  have h3:=(bw.2.2 i hi).2 a (by rw[<-cF hi];exact List.mem_of_mem_take ha)
  omega
 rw[decide_eq_false e,Bool.or_false]
theorem Rj {ys zs:List Bool} {i q:Nat} (bw:ey ss) (hi:i<ss.length) (h:zs=iU ys ((G ss i).args.take q)) (hq:q<=(G ss i).args.length) (h3:q=0∨G ys i=true) (hb:(decide ((q:Int)< ((G ss i).args.length:Int))&&G zs i)=false):zs=lG ss ys i:=by
 have h4:=Gh bw hi h
 cases hg:G ys i with
 | true=>
  rw[h4,hg,Bool.and_true,decide_eq_false_iff_not]at hb
  rw[h]
  exact A0 hg oz
 | false=>
  have h5:q=0:=by
   rcases h3 with h3 | h3
   ·exact h3
   ·rw[hg]at h3;cases h3
  rw[A9 hg,h,h5];rfl
theorem Vn {c:bZ} {s:Stp} (h:∀ a∈s.args,a<c.step):jM c s=s:=by
 unfold jM
 have e:(s.args.map λa=>if a=c.step then G c.args 0 else a)=s.args:=by
  conv=>rhs;rw[<-map_id s.args]
  apply List.map_congr_left
  intro a ha
  have:=h a ha
  rw[if_neg oz];rfl
 rw[e]
theorem Vo {c:bZ} (bw:ey ss) (hn:(n:Int)<=c.step) (hl:n<=ss.length):(ss.map (jM c)).take n=ss.take n:=by
 rw[<-map_take]
 conv=>rhs;rw[<-map_id (ss.take n)]
 apply List.map_congr_left
 intro s hs
 obtain⟨j,hj,rfl⟩:=ej hs
 have hj':j<n:=by rw[length_take]at hj;omega
 rw[rG hj']
 refine Vn λa ha=>?_
 have h2:=(bw.2.2 j oz).2 a (by rw[<-cF oz];exact ha)
 omega
end
def qb (d:Db) (z:Int) (ss:List Stp) (n:Nat) (st:Stp) (tx:List BA):Bool:=decide (dH d z (ss.take n++[st])=0/\(aZ d z (ss.take n++[st])).1.length=n+1/\G (aZ d z (ss.take n++[st])).1 n=tx)
theorem Ot {d:Db} {z:Int} {ss:List Stp} {n:Nat} {st:Stp} {tx:List BA}:((decide (dH d z (ss.take n++[st])=0)&&decide (((aZ d z (ss.take n++[st])).1.length:Int)=((n+1:Nat):Int)))&&decide (G (aZ d z (ss.take n++[st])).1 n=tx))=qb d z ss n st tx:=by
 rw[Bool.eq_iff_iff]
 simp only[Bool.and_eq_true,decide_eq_true_eq,qb]
 exact⟨λh=>⟨h.1.1,oz,h.2⟩,λh=>⟨⟨h.1,oz⟩,h.2.2⟩⟩
def s4 (ss:List Stp) (c:bZ):List Stp:=
 if c.dN=2 then gU (ss.set c.step.toNat ⟨c.ae,c.args⟩) (ss.length-1)
 else if c.step=(ss.length:Int)-1 then gU ss (G c.args 0).toNat
 else gU (ss.map (jM c)) (ss.length-1)
theorem Ly {ss:List Stp} {c:bZ} (bw:ey ss) (jW:∀ a∈c.args,0<=a/\a<c.step) (hc1:c.dN=2∨1<=c.args.length):s4 ss c=cw ss c:=by
 have hl:=bw.1
 unfold s4 cw
 split
 ·have e:=AL (ss:=ss.set c.step.toNat ⟨c.ae,c.args⟩) (by simpa using hl)
  rw[List.length_set]at e
  exact e
 ·rename_i h1
  have hg:=jW _ (aE (xs:=c.args) (k:=0) oz)
  split
  ·rename_i h2
   rw[Ql bw oz,show(G c.args 0+1).toNat=(G c.args 0).toNat+1 by omega,Vo bw oz oz]
  ·have e:=AL (ss:=ss.map (jM c)) (by simpa using hl)
   rw[length_map]at e
   exact e
end
section
open Go.RowKit
section
variable {J:WP} (V:aR J)
include V
theorem K6 (ss:List Stp)  :Fn prog J 52 [.agg (be ss)] (.int (ft ss)):=by
 refine fE func52 λS w0 hS hJ0=>?_
 clear hJ0
 refine aJ tb V [1000] [.ptr (be ss),_] [0] [_] Y ⟨d9 hS V,U⟩ ?_
 refine af (aJ tb V [0,1001,1009] [_,_,.int (ss.length:Nat),_,_,_,_,.int (ss.length:Nat),_,_] [2,7] U3 Y ⟨aC eo,aC eo,U⟩ ?_)
 refine ln 1 λ_=>?_
 refine cj 2 ?_ ?_<;>intro hb1
 ·have eU:ft ss=4:=zQ (by simp only[Bool.or_eq_true,decide_eq_true_eq]at hb1;omega)
  refine qs tb V [1000] [_] [_] ?_
  exact aU 0 (hE:=eI (by rw[eU]))
 ·have hn:¬ (ss.length<1∨2000<ss.length):=by simp only[Bool.or_eq_false_iff,decide_eq_false_iff_not]at hb1;omega
  refine ak (nx (af (qs tb V [0,1000] [_] U2 ?_)))
  refine ax (lp (ι:=Nat) (λk=>(k<=ss.length)/\(∀ j,j<k->kX ss j=0)) (λk=>[(3,.int (k:Nat))]) (λk=>ss.length-k) [0,1] [_] 0 ⟨aI,λj hj=>by omega⟩ ?_)
  rintro k ⟨aQ,ah⟩
  refine af (aJ tb V [0,1,1004] (V3 [.int (ss.length:Nat),_]) [3] U3 Y ⟨aC eo,U⟩ ?_)
  refine cj 2 ?_ ?_<;>intro hb2<;>try simp at hb2
  ·refine ak (nx (af (ax (aJ tb V [0,1,1005,1006] (V3 [.ptr (bx (G ss k)),_,_,_]) [3] U4 Y ⟨bq eq,U⟩ ?_))))
   refine ln 2 λ_=>?_
   refine af (aJ tb V [0,1,3,1002] [_,.int (((G ss k).args).length:Nat),_] [1] U4 Y ⟨aC fb,U⟩ ?_)
   refine cj 3 ?_ ?_<;>intro aD<;>try simp at aD
   ·have eU:ft ss=4:=by have e9:=zV (ss:=ss) (k:=k) oz;rw[rC hn oz ah (by rw[e9];decide),e9]
    refine qs tb V [1000] [_] [_] ?_
    exact aU 0 (hE:=eI (by rw[eU]))
   ·refine ak (nx (qs tb V [0,1,2,1000] [_] U4 ?_))
    refine ax (lp (ι:=Nat) (λq=>(q<=(G ss k).args.length)/\(∀ j,j<q->kf k (G (G ss k).args j)=false)) (λq=>[(5,.int (q:Nat))]) (λq=>(G ss k).args.length-q) [0,1,2,3] U3 0 ⟨aI,λj hj=>by omega⟩ ?_)
    rintro q ⟨fD,bu⟩
    refine af (aJ tb V [0,1,2,3,1003] [_,_,.int (((G ss k).args).length:Nat),_] [2] U5 Y ⟨aC fb,U⟩ ?_)
    refine cj 4 ?_ ?_<;>intro bd<;>try simp at bd
    ·refine ak (nx (af (ax (aJ tb V [0,1,2,3,1012] [_,_,.ptr [lI (G ((G ss k).args) q)],_,_,_,_,_,.ptr [lI (G ((G ss k).args) q)],_,_,_,_] [2,8] U5 Y ⟨bq c8,cT c8 (hk:=λ(aF:((decide ((G ((G ss k).args) q)< (0:Int)))==false)=true)=>by(try simp at aF);first | omega | (simp;omega) | grind[aE]),U⟩ ?_))))
     refine cj 4 ?_ ?_<;>intro bW
     ·have eU:ft ss=3:=by have e9:=zU (ss:=ss) (k:=k) oz (C1 oz bW);rw[rC hn oz ah (by rw[e9];decide),e9]
      refine qs tb V [1000] [_] [_] ?_
      exact aU 0 (hE:=eI (by rw[eU]))
     ·refine ak (nx (dK tb V [0,1,2,1002] [_,.int (q+1:Nat),_] [1] U4 Y ⟨aM,U⟩ ?_))
      exact dM (q+1) [0,1,2,3] ⟨oz,cB bu bW⟩
    ·have eF:=zW (ss:=ss) (k:=k) oz (C2 λj hj=>bu j oz)
     refine aW (nx (dK tb V [0,1002] [_,.int (k+1:Nat),_] [1] U2 Y ⟨aM,U⟩ ?_))
     exact dM (k+1) [0,1] ⟨oz,cB ah eF⟩
  ·have eU:ft ss=0:=zP hn λj hj=>ah j oz
   refine aW (nx (qs tb V [1000] [_] [_] ?_))
   exact aU 0 (hE:=eI (by rw[eU]))
theorem Lh (ss:List Stp) (last:Nat) (bw:ey ss) (hlt:last<ss.length):Fn prog J 84 [.agg (be ss),.int (last:Nat)] (.rd (mJ (mh ss last))):=by
 refine fE func84 λS w0 hS hJ0=>?_
 refine tw cc ?_
 have jX:=bw.1
 have cr:=bw.2.1
 refine au tb V [1,1000] [.ptr (be ss),_] [0] U2 Y ⟨cY hS V,U⟩ ?_
 refine aL (ao 2 tb Y (sy (.int (ss.length:Nat)) (λh=>kq eo Y (h.get 0 Y) h.x) ?_))
 refine xY (f:=kh) (k:=ss.length) false Gk Y V Y Y Y (lb Y) (λa w h=>⟨(h.get 0 Y),(h.get 0 Y)⟩) ay ay λv1=>ao 1 tb Y (aA [0,3,5,6] U4 Y (nx (ln 1 λcr=>?_)))
 refine aL (ao 2 tb Y (sy (.lit (cG v1 (last*1))) (λh=>eZ (i:=(last:Int)) nN Y (aG h.x (mo 0 Y)) (h.get 1 Y) (h.get 0 Y) bK (by rw[length_map];exact Int.ofNat_lt.2 ay) h.x) ?_))
 refine qT (i:=last) V hJ0 qO Y Y Y (by rw[length_map];exact ay) (λa w h=>⟨(h.get 0 Y),(Rel.aH (.bool true))⟩) ?_
 rw[show((List.replicate ss.length false).map kh).set last [lB true]=((List.replicate ss.length false).set last true).map kh from map_set.symm]
 refine aA [3,5,6] U3 Y (nx (af (af (HO tb V [0,2,1001] U2 U3 ?_))))
 refine kw (sa 2 Y (congrArg AV.int (show(last:Int)=(last:Int)-((0:Nat):Int)from by simp))) (nx (ax (lpo (ι:=Nat×(List Bool)×Value) (λ(j,ys,_)=>(j<=last+1)/\(ys=lF ss last j)/\(ys.length=ss.length)) (λ(_,ys,vw)=>[OB.row vw 4 1 (ys.map kh)]) (λ(j,_,vw)=>[(6,.int ((last:Int)-(j:Int))),(5,.lit vw)]) (λ(j,_,_)=>last+1-j) [1,2,0] [_] (0,(List.replicate ss.length false).set last true,v1) ⟨aI,Y,by simp⟩ ?_)))
 rintro⟨j,ys,vw⟩ ⟨aQ,ah,bh⟩
 refine af (aj tb V [0,1,2,1001] U2 U4 ?_)
 refine cj 3 ?_ ?_<;>intro hb1<;>try simp at hb1
 ·have gR:last-j<ss.length:=by omega
  refine tw (sa 1 Y (show(.int ((last:Int)-(j:Int)):AV)= .int (last-j:Nat)from congrArg AV.int oz)) (ak (nx (af (ax (aj tb V [0,1,2,1000] [_] U4 ?_)))))
  refine ax (lpo (ι:=Nat×(List Bool)×Value) (λ(q,zs,_)=>(q<=(G ss (last-j)).args.length)/\(zs=iU ys ((G ss (last-j)).args.take q))/\(q=0∨G ys (last-j)=true)/\(zs.length=ss.length)) (λ(_,zs,vu)=>[OB.row vu 4 1 (zs.map kh)]) (λ(q,_,vu)=>[(7,.int (q:Nat)),(5,.lit vu)]) (λ(q,_,_)=>(G ss (last-j)).args.length-q) [0,1,3,2] U2 (0,ys,vw) ⟨aI,Y,.inl Y,bh⟩ ?_)
  rintro⟨q,zs,vu⟩ ⟨fD,bu,i5,mN⟩
  refine af (au tb V [0,1,2,3,1006,1014] (V4 [.ptr (bx (G ss (last-j))),_,_,.int (((G ss (last-j)).args).length:Nat),_,_,_,_,.lit (cG vu ((last-j)*1)),.bool (G zs (last-j)),_]) [4,7,12,13] U6 Y ⟨bq eq,aC fb,λ_ _ _ Z hl hc=>eZ (i:=((last-j:Nat):Int)) nN Y (aG Z (mo 0 Y)) (hl.D 10 30 Y hc) (hl.D 11 31 Y hc) bK (by rw[length_map];exact Int.ofNat_lt.2 (by have aF:((decide ((q:Int)< ((((G ss (last-j)).args).length:Nat):Int)))==true)=true:=hc;(try simp at aF);(first | omega | (simp;omega) | grind[aE]))) Z,λ_ _ _ Z hl hc=>nn (i:=last-j) xl Y (aG Z (mo 0 Y)) (hl.D 12 32 Y hc) (iG (xs:=zs) (k:=last-j) (by have aF:((decide ((q:Int)< ((((G ss (last-j)).args).length:Nat):Int)))==true)=true:=hc;(try simp at aF);(first | omega | (simp;omega) | grind[aE]))) Z,U⟩ ?_)
  refine ln 4 λ_=>?_
  refine cj 5 ?_ ?_<;>intro hb2
  ·simp only[Bool.and_eq_true,decide_eq_true_eq]at hb2
   have e4:=um bw (k:=last-j) (j:=q) gR oz
   have Pb:G ys (last-j)=true:=by rw[<-Gh bw gR bu];exact hb2.2
   refine ak (nx (af (ax (cC (ao 4 tb Y (sy (.ptr (bx (G ss (last-j)))) (λh=>cb (i:=((last-j:Nat):Int)) eq Y (h.get 1 Y) (h.get 0 Y) bK (cl (xs:=ss) (k:=last-j) ay) Y h.x) ?_))))))
   refine ao 3 tb Y (sy (.ptr [lI (G ((G ss (last-j)).args) q)]) (λh=>cb (i:=(q:Int)) c8 Y (h.get 1 Y) (h.get 0 Y) bK (cl (xs:=(G ss (last-j)).args) (k:=q) ay) Y h.x) ?_)
   refine ao 1 tb Y (sy (.lit (cG vu (((G ((G ss (last-j)).args) q).toNat)*1))) (λh=>eZ (i:=(G ((G ss (last-j)).args) q)) nN Y (aG h.x (mo 0 Y)) (h.get 9 Y) (h.get 0 Y) ay (by rw[length_map];exact ay) h.x) ?_)
   refine qT (i:=(G ((G ss (last-j)).args) q).toNat) V hJ0 qO Y Y Y (by rw[length_map];exact ay) (λa w h=>⟨(h.get 0 Y),(Rel.aH (.bool true))⟩) ?_
   rw[show(zs.map kh).set ((G ((G ss (last-j)).args) q).toNat) [lB true]=(zs.set ((G ((G ss (last-j)).args) q).toNat) true).map kh from map_set.symm]
   refine aA [11,12,13,14] U4 Y (nx (aT tb V [0,1,3,1002] [_,.int (q+1:Nat),_] [1] U4 Y ⟨aM,U⟩ ?_))
   exact br (q+1,zs.set ((G ((G ss (last-j)).args) q).toNat) true,vu) [0,1,3,2] ⟨oz,by rw[bu];exact Gi oz,by exact .inr Pb,by rw[List.length_set];exact mN⟩
  ·have e9:zs=lG ss ys (last-j):=Rj bw gR bu fD i5 hb2
   refine aW (nx (aT tb V [0,3,1002] [_,.int (((last-j:Nat):Int)-(1:Int)),_] [1] U3 Y ⟨md,U⟩ ?_))
   exact kw (sa 2 Y (congrArg AV.int (show((last-j:Nat):Int)-(1:Int)=(last:Int)-((j+1:Nat):Int)from by omega))) (br ((j+1),zs,vu) [0,2,1] ⟨oz,by rw[e9,ah,lF],by exact mN⟩)
 ·refine aW (nx (aj tb V [1001] U2 [_] ?_))
  exact tw (λh=>dU hS h (m:=0) (s:=4) Y) (bH 0 (hE:=congrArg (λz=>AV.rd (mJ z)) (show ys=(mh ss last)from by have e:=ah;rw[show j=last+1 by omega]at e;exact e)))
theorem vF (ss:List Stp) (last:Nat) (bw:ey ss) (hlt:last<ss.length):Fn prog J 53 [.agg (be ss),.int (last:Nat)] (.agg (be (gU ss last))):=by
 refine fE func53 λS w0 hS hJ0=>?_
 refine tw cc ?_
 have jX:=bw.1
 have cr:=bw.2.1
 have rQ:(mh ss last).length=ss.length:=Rr
 refine aL (sy (.ptr (be ss)) (λh=>fk Y (h.get 0 Y) (aK hS _ h.keep h.x _ aV) (jo V h.x)) ?_)
 refine cx jz V Y Y Y (lb Y) λb1=>aA [0,1,3] U3 Y (nx (au tb V [0,1,2,1002,1003] [_,_,.rd (mJ (mh ss last)),_] [2] U5 Y ⟨bJ hS V (Lh V ss last (by exact bw) (by exact hlt)) (cO func84),U⟩ ?_))
 refine ln 3 λcr=>?_
 refine aL (ao 2 tb Y (sy (.int (ss.length:Nat)) (λh=>kq eo Y (h.get 0 Y) h.x) ?_))
 refine xY (f:=bT) (k:=ss.length) (0:Int) Gl Y V Y Y Y (lb Y) (λa w h=>⟨(h.get 0 Y),(h.get 0 Y)⟩) ay ay λv2=>ao 1 tb Y (aA [0,3,5,6,7,9] U6 Y (nx (ln 1 λhl2=>?_)))
 refine tw (iJ 88 2 V) (aL (sy (.agg [.lit (.slice none 0 0)]) (λh=>gr (ps:=[]) (us:=[.slice none 0 0]) mK Y yz gn Y (dT (.lit _ True.intro) cM) h.x) ?_))
 refine cx jz V Y Y Y (lb Y) λb3=>ce (b:=b3) (off:=0) (es:=[_]) (news:=[_]) V hJ0 fI Y Y Y (lb Y) Y (λa w h=>⟨(h.get 0 Y),(h.get 1 Y)⟩) (aA [0,2,4,5,6,7] U6 Y (nx (af (aj tb V (r6 [1000]) [_] U7 ?_))))
 refine ax (lpo (ι:=Nat×(List Stp)×Value×(List Int)×Value) (λ(k,out,_,to,_)=>(k<=last+1)/\(et ss (mh ss last) k=(to,out))) (λ(_,out,wt,to,wo)=>[OB.var b3 [.lit wo],OB.row wo 88 2 (out.map bx),OB.row wt 3 1 (to.map bT),OB.var b1 [aY ([]:List Stp)]]) (λ(k,_,wt,_,_)=>[(8,.int (k:Nat)),(6,.lit wt)]) (λ(k,_,_,_,_)=>last+1-k) [0,2,3,4,5,6,1] U5 (0,[],v2,List.replicate ss.length (0:Int),(.slice none 0 0)) ⟨aI,Y⟩ ?_)
 rintro⟨k,out,wt,to,wo⟩ ⟨aQ,ah⟩
 refine af (aj tb V (r7 [1002]) U3 U8 ?_)
 refine cj 7 ?_ ?_<;>intro hb1<;>try simp at hb1
 ·have e2:to.length=ss.length/\out.length<=k:=by have h9:=xu ss (mh ss last) k;rwa [ah]at h9
  refine ak (nx (af (ax (af (au tb V (r7 [1004]) [_,_,.ptr [lB (G (mh ss last) k)],_,_] [2] U8 Y ⟨bq nN,U⟩ ?_)))))
  refine cj 7 ?_ ?_<;>intro hb2<;>try simp at hb2
  ·refine aW (nx (aT tb V (r5 [6,1002]) [_,.int (k+1:Nat),_] [1] U7 Y ⟨aM,U⟩ ?_))
   exact br (k+1,out,wt,to,wo) (r5 [6,5]) ⟨oz,by first | (rw[uy hb2];exact ah) | (rw[uz hb2,ah,bu,show q=(G ss k).args.length by omega,take_length])⟩
  ·refine ak (nx (aL (ao 2 tb Y (sy (.at b3 0) (λh=>cy ie Y (h.get 2 Y) h.x) ?_))))
   refine sy (.lit wo) (λh=>cg iD Y (aG h.x (mo 0 Y)) (h.get 0 Y) Y h.x) ?_
   refine sy (.int (out.length:Nat)) (λh=>pm (by rw[length_map]) eo Y (aG h.x (mo 1 Y)) (h.get 0 Y) h.x) ?_
   refine sy (.lit (cG wt (k*1))) (λh=>eZ (i:=(k:Int)) c8 Y (aG h.x (mo 2 Y)) (h.get 4 Y) (h.get 3 Y) bK (by rw[length_map];exact Int.ofNat_lt.2 ay) h.x) ?_
   refine kw du (qT (i:=k) V hJ0 qN Y Y Y (by rw[length_map];exact ay) (λa w h=>⟨(h.get 0 Y),(h.get 1 Y)⟩) ?_)
   rw[show(to.map bT).set k [lI (out.length:Int)]=(to.set k (out.length:Int)).map bT from map_set.symm]
   refine aA [6,7,8,9,10,11,12] U7 Y (nx (tw (iJ 3 1 V) (aL (ao 3 tb Y (sy (.ptr (bx (G ss k))) (λh=>cb (i:=(k:Int)) eq Y (h.get 1 Y) (h.get 0 Y) bK (cl (xs:=ss) (k:=k) ay) Y h.x) ?_)))))
   refine ao 2 tb Y (sq (.agg [lS ((G ss k).ae),.lit (.slice none 0 0)]) Y Y (lb Y) (λa _ h=>gr (ps:=[(0,a.eval (.tmp 40))]) (us:=[a.eval (.tmp 40),.slice none 0 0]) yM Y yz (kB (lb Y) (Rel.mi (h.get 0 Y)) gn) Y (b6 (h.get 0 Y) (dT (.lit _ True.intro) cM)) h.x) (cx mw V Y Y Y (lb Y) λb4=>ce (b:=b4) (off:=0) (es:=U2) (news:=U2) V hJ0 mt Y Y Y (lb Y) Y (λa w h=>⟨(h.get 0 Y),(h.get 1 Y)⟩) (aA [0,8,9,10,11,12,13,14] U8 Y (nx (af (aj tb V (r8 [1000]) [_] U9 ?_))))))
   refine ax (lpo (ι:=Nat×(List Int)×Value) (λ(q,nums,_)=>(q<=(G ss k).args.length)/\(nums=mj (to.set k (out.length:Int)) ((G ss k).args.take q))) (λ(_,nums,wa)=>[OB.var b4 [lS ((G ss k).ae),.lit wa],OB.row wa 3 1 (nums.map bT),OB.row wt 3 1 ((to.set k (out.length:Int)).map bT),OB.var b3 [.lit wo],OB.row wo 88 2 (out.map bx),OB.var b1 [aY ([]:List Stp)]]) (λ(q,_,_)=>[(10,.int (q:Nat))]) (λ(q,_,_)=>(G ss k).args.length-q) (r9 []) U8 (0,[],(.slice none 0 0)) ⟨aI,Y⟩ ?_)
   rintro⟨q,nums,wa⟩ ⟨fD,bu⟩
   refine af (au tb V (r9 [1006,1008]) (V4 [.ptr (bx (G ss k)),_,_,.int (((G ss k).args).length:Nat),_]) [4,7] lm Y ⟨bq eq,aC fb,U⟩ ?_)
   refine ln 9 λ_=>?_
   refine cj 10 ?_ ?_<;>intro aD<;>try simp at aD
   ·have e4:=um bw (k:=k) (j:=q) oz oz
    have e5:nums.length=q:=by rw[bu,mj,length_map,length_take];omega
    have e6:=xk bw (show k<ss.length by omega)
    refine ak (nx (af (ax (tw bO (λa w h=>po [OB.var b4 [lS ((G ss k).ae),.lit wa],OB.row wt 3 1 ((to.set k (out.length:Int)).map bT),OB.var b3 [.lit wo],OB.row wo 88 2 (out.map bx),OB.var b1 [aY ([]:List Stp)]] (γ:=Value) (λix'=>([.at b4 1,.lit wa,.lit wt,.ptr (be ss),.rd (aY ss),.int (k:Nat),.ptr (bx (G ss k)),.ptr [bQ ((G ss k).args)],.rd (bQ ((G ss k).args)),.int (q:Nat),.ptr [lI (G ((G ss k).args) q)],.int (G ((G ss k).args) q),.lit (cG wt (((G ((G ss k).args) q).toNat)*1)),.int (G (to.set k (out.length:Int)) ((G ((G ss k).args) q).toNat)),.rd (bQ ([(G (to.set k (out.length:Int)) ((G ((G ss k).args) q).toNat))])),.any,.at b4 1,.any]:List AV).getD ix' .any) (λ_=>true) [(9,λ_=>.at b4 0),(7,λ_=>.at b3 0),(4,λ_=>.at b1 0),(2,λ_=>.ptr (be ss)),(1,λ_=>.int (last:Nat)),(5,λ_=>.rd (mJ (mh ss last))),(8,λ_=>.int (k:Nat)),(6,λ_=>.lit wt),(10,λ_=>.int (q:Nat))] (λj' g=>match j' with | 0=>[OB.row wa 3 1 (nums.map bT),OB.var b4 [lS ((G ss k).ae),.lit wa],OB.row wt 3 1 ((to.set k (out.length:Int)).map bT),OB.var b3 [.lit wo],OB.row wo 88 2 (out.map bx),OB.var b1 [aY ([]:List Stp)]] | 1=>[OB.row g 3 1 ((nums++([(G (to.set k (out.length:Int)) ((G ((G ss k).args) q).toNat))])).map bT),OB.var b4 [lS ((G ss k).ae),.lit wa],OB.row wt 3 1 ((to.set k (out.length:Int)).map bT),OB.var b3 [.lit wo],OB.row wo 88 2 (out.map bx),OB.var b1 [aY ([]:List Stp)]] | _=>[OB.row g 3 1 ((nums++([(G (to.set k (out.length:Int)) ((G ((G ss k).args) q).toNat))])).map bT),OB.var b4 [lS ((G ss k).ae),.lit g],OB.row wt 3 1 ((to.set k (out.length:Int)).map bT),OB.var b3 [.lit wo],OB.row wo 88 2 (out.map bx),OB.var b1 [aY ([]:List Stp)]]) (λk' g=>match k' with | 0=>g | _=>undef) [15,17] 1 (.slice none 0 0) (λ_=>Y) h V cU Y Y Y Y Y Y hsb ⟨oX Y λZ hl=>cy mQ Y (hl.env 0 9 _ Y Y) Z,λ_ O' cf=>⟨Y,λ_ _ _ Z hl _=>cg iV Y (aG Z (cf _ (mo 0 Y))) (hl.D 0 53 Y Y) Y Z⟩,oX Y λZ hl=>b9 Y (hl.env 7 6 _ Y Y) Z,oX Y λZ hl=>cd ie Y (hl.env 3 2 _ Y Y) Z,oX Y λZ hl=>bU iD Y (hl.D 3 56 Y Y) Z,oX Y λZ hl=>b9 Y (hl.env 6 8 _ Y Y) Z,?_,oX Y λZ hl=>cd mQ Y (hl.D 6 59 Y Y) Z,oX Y λZ hl=>bU iV Y (hl.D 7 60 Y Y) Z,oX Y λZ hl=>b9 Y (hl.env 8 10 _ Y Y) Z,?_,oX Y λZ hl=>bU gd Y (hl.D 10 63 Y Y) Z,?_,?_,oY Y λhk Z hl=>fz c8 px Y (hl.D 13 66 Y Y) (aK hS _ hk Z _ aV) (jo V Z),bC Y,oX Y λZ hl=>cy mQ Y (hl.env 0 9 _ Y Y) Z,bC Y,U⟩ ⟨?zi,?zj,U⟩ ⟨.old 0 9 _,.old 1 7 _,.old 2 4 _,.old 3 2 _,.old 4 1 _,.old 5 5 _,.old 6 8 _,.old 7 6 _,.old 8 10 _,U⟩ ?Rl)))))
    exact oX Y λZ hl=>cb (i:=(k:Int)) eq Y (hl.D 4 57 Y Y) (hl.D 5 58 Y Y) bK (cl (xs:=ss) (k:=k) ay) Y Z
    exact oX Y λZ hl=>cb (i:=(q:Int)) c8 Y (hl.D 8 61 Y Y) (hl.D 9 62 Y Y) bK (cl (xs:=(G ss k).args) (k:=q) ay) Y Z
    exact λ_ O' cf=>⟨Y,λ_ _ _ Z hl _=>eZ (i:=(G ((G ss k).args) q)) c8 Y (aG Z (cf _ (mo 1 Y))) (hl.D 2 55 Y Y) (hl.D 11 64 Y Y) ay (by rw[length_map];exact ay) Z⟩
    exact λ_ O' cf=>⟨Y,λ_ _ _ Z hl _=>nn (i:=(G ((G ss k).args) q).toNat) gd Y (aG Z (cf _ (mo 1 Y))) (hl.D 12 65 Y Y) (iG (xs:=to.set k (out.length:Int)) (k:=(G ((G ss k).args) q).toNat) ay) Z⟩
    case zi=>exact⟨_,Y,Y,Y,Y,λ_ _ w hk Z hl _=>bD (lw (f:=bT) nums ([(G (to.set k (out.length:Int)) ((G ((G ss k).args) q).toNat))]) (λ_=>rfl) pL V hJ0 Y hk Z (hl.D 1 54 Y Y).lit (hl.D 14 67 Y Y) (by simp;omega) (by simp;omega)) λv w' hp=>⟨v,Y,λk' hk'=>absurd hk' (Nat.not_lt_zero _),λ_=>rfl,hp⟩⟩
    case zj=>exact⟨_,Y,Y,Y,Y,λg _ w hk Z hl hs=>bD (D1 (off:=1) (cs:=[lS ((G ss k).ae),.lit wa]) (es:=[lS ((G ss k).ae),.lit g]) (c:=.lit g) V hJ0 qM Y hk Z (hl.D 16 69 Y Y) (by rw[(hs 0 15 _ 68 oz Y Y Y)];exact Rel.aH _ (nq (Z.2.1 _ (mo 0 Y)))) (lb Y) Y) λv w' hp=>⟨g,Y,λ_ _=>rfl,λe=>(by cases e),hp⟩⟩
    clear a w h
    intro v5
    dsimp only[List.map]
    refine nx (aT tb V (r8 [1002]) [_,.int (q+1:Nat),_] [1] U9 Y ⟨aM,U⟩ ?_)
    refine kw qD (kw qD (kw qD (kw qD (kw ec (kw qD (br (q+1,nums++([(G (to.set k (out.length:Int)) ((G ((G ss k).args) q).toNat))]),v5) (r9 []) ⟨oz,by rw[bu];exact Ht oz⟩))))))
   ·refine aW (nx (tw bO (tw (λh=>mu (j:=1) (cs':=[lS ((G ss k).ae),bQ nums]) hS Y Y h) (cC (sq (.at b3 0) Y Y (lb Y) (λ_ _ h=>cy ie Y (h.get 1 Y) h.x) (sy (.lit wo) (λh=>cg iD Y (aG h.x (mo 2 Y)) (h.get 0 Y) Y h.x) ?_))))))
    refine sy (.agg (bx (⟨(G ss k).ae,nums⟩:Stp))) (λh=>fA (ds:=[lS ((G ss k).ae),bQ nums]) oD Y (aG h.x (mo 0 Y)) (h.get 2 Y) Y Y h.x) ?_
    refine sy (.rd (aY ([(⟨(G ss k).ae,nums⟩:Stp)]))) (λh=>nl eq Cu dz Y Y (h.get 0 Y) (aK hS _ h.keep h.x _ aV) (jo V h.x)) ?_
    refine kw gF (fN (f:=bx) (m:=2) (s:=71) out ([(⟨(G ss k).ae,nums⟩:Stp)]) (λ_=>Y) oG V hJ0 Y Y Y (lb Y) Y Y (λa w h=>(h.get 0 Y)) (by simp;omega) (by simp;omega) λv6=>?_)
    refine sy (.at b3 0) (λh=>cy ie Y (h.get 6 Y) h.x) ?_
    refine kw gF (gI (b:=b3) (off:=0) (es:=[_]) V hJ0 BW Y Y Y (lb Y) Y (λa w h=>⟨(h.get 0 Y),(h.get 1 Y)⟩) (aA [2,7,8,9,10,11,12,13] U8 Y (nx (ln 0 λtR=>?_))))
    refine aT tb V [1,2,3,4,5,7,1002] [_,.int (k+1:Nat),_] [1] U7 Y ⟨aM,U⟩ ?_
    refine kw du (kw cK (br (k+1,out++([(⟨(G ss k).ae,nums⟩:Stp)]),wt,to.set k (out.length:Int),v6) (r5 [6,5]) ⟨oz,by first | (rw[uy hb2];exact ah) | (rw[uz hb2,ah,bu,show q=(G ss k).args.length by omega,take_length])⟩))
 ·have e1:out=gU ss last:=by rw[gU,show last+1=k by omega,ah]
  refine aW (nx (tw bO (tw (λh=>mu (j:=0) (cs':=[aY out]) hS Y Y h) (aL (sy (.agg (be out)) (λh=>fA (ds:=[aY out]) ee Y (aG h.x (mo 0 Y)) (h.get 0 Y) Y Y h.x) ?_)))))
  refine kw du (ce (b:=b1) (off:=0) (es:=[_]) (news:=[_]) V hJ0 fI Y Y Y (lb Y) Y (λa w h=>⟨(h.get 2 Y),(h.get 0 Y)⟩) (aA [2] [_] Y (nx (aX (λa w h=>j0 (m:=0) Y ee h Y Y (show(_:List CD)=[aY (gU ss last)]from by(rw[e1])<;>rfl))))))
end
end
section
def kD (j:Jb) (c:bZ):Bool:=!(c.args.any (hZ c))&&i8 j c
section
variable {d:Db} {z:Int} {ss:List Stp} {ts:List (List BA)} {c:bZ} {j:Jb} {k:Nat}
theorem J4 (hk:k<c.args.length) (h:hZ c (G c.args k)=true):c.args.any (hZ c)=true:=List.any_eq_true.2 ⟨_,aE hk,h⟩
theorem J5 (h:∀ j,j<c.args.length->hZ c (G c.args j)=false):c.args.any (hZ c)=false:=
 List.any_eq_false.2 λx Z=>by
  obtain⟨j,hj,rfl⟩:=ej Z
  rw[h j hj];simp
theorem Np (h:c.args.any (hZ c)=true):kD j c=false:=by rw[kD,h];rfl
theorem we (h:c.args.any (hZ c)=false):kD j c=i8 j c:=by rw[kD,h];rfl
theorem wg (h:c.args.any (hZ c)=false) (h1:c.dN=1):((decide ((c.args.length:Int)=(1:Int))&&decide (c.ae=(⟨#[]⟩:BA)))&&decide (G j.ts (G c.args 0).toNat=G j.ts c.step.toNat))=kD j c:=by
 rw[we h,i8,if_pos h1,Bool.eq_iff_iff]
 simp only[Bool.and_eq_true,decide_eq_true_eq]
 exact⟨λe=>⟨e.1.2,oz,e.2⟩,λe=>⟨⟨oz,e.1⟩,e.2.2⟩⟩
theorem Nq (h:c.args.any (hZ c)=false) (h1:¬ c.dN=1) (h2:bR j.d c.ae<0∨(j.i:Int)<=bR j.d c.ae∨ ¬ c.args.length=(G j.d.ab (bR j.d c.ae).toNat).aa.length):kD j c=false:=by
 rw[we h,i8,if_neg h1]
 have e:¬ (0<=bR j.d c.ae/\bR j.d c.ae< (j.i:Int)/\c.args.length=(G j.d.ab (bR j.d c.ae).toNat).aa.length):=by omega
 rw[decide_eq_false e,Bool.false_and]
theorem Nr (hr:cQ d z ss=0) (jZ:ts=(aZ d z ss).1) (h:c.args.any (hZ c)=false) (Ap:¬ c.dN=1) (gT:0<=c.step) (f8:c.step< (ss.length:Int)) (h0:¬ bR d c.ae<0) (h1:bR d c.ae<z) (hl:c.args.length=(G d.ab (bR d c.ae).toNat).aa.length):
 kD (⟨d,z.toNat,ss,ts,[]⟩:Jb) c=qb d z ss c.step.toNat ⟨c.ae,c.args⟩ (G ts c.step.toNat):=by
 have gS:=tT h
 have hf:=pf (p:=λf=>decide (f.ae=c.ae)) (xs:=d.ab) (by show ¬ bR d c.ae= -1;omega)
 have Pk:(G d.ab (bR d c.ae).toNat).ae=c.ae:=of_decide_eq_true hf.2.2.1
 have h2:=UB hr (k:=(bR d c.ae).toNat) oz (al:=c.args) (step:=c.step.toNat) hl oz (λa ha=>by have:=gS a ha;omega)
 rw[Pk]at h2
 subst jZ
 rw[we h,i8,if_neg Ap]
 have e:0<=bR d c.ae/\bR d c.ae< ((z.toNat:Nat):Int)/\c.args.length=(G d.ab (bR d c.ae).toNat).aa.length:=⟨oz,oz,hl⟩
 rw[show decide (0<=bR (⟨d,z.toNat,ss,(aZ d z ss).1,[]⟩:Jb).d c.ae/\bR (⟨d,z.toNat,ss,(aZ d z ss).1,[]⟩:Jb).d c.ae< (((⟨d,z.toNat,ss,(aZ d z ss).1,[]⟩:Jb).i:Nat):Int)/\c.args.length=(G (⟨d,z.toNat,ss,(aZ d z ss).1,[]⟩:Jb).d.ab (bR (⟨d,z.toNat,ss,(aZ d z ss).1,[]⟩:Jb).d c.ae).toNat).aa.length)=true from decide_eq_true e,Bool.true_and,Bool.eq_iff_iff,qb,decide_eq_true_eq]
 exact h2.symm
theorem Ns (h:kD (⟨d,z.toNat,ss,(aZ d z ss).1,[]⟩:Jb) c=false):iB (fx d z ss) c=false:=by
 cases ha:c.args.any (hZ c)with
 | true=>exact Fx ha
 | false=>
  rw[we ha]at h
  exact As h
theorem Nt (h:kD (⟨d,z.toNat,ss,(aZ d z ss).1,[]⟩:Jb) c=true):(∀ a∈c.args,0<=a/\a<c.step)/\(¬ c.dN=1∨c.args.length=1)/\iB (fx d z ss) c=decide ((cw ss c).length<dd ss/\(dd ss:Int)=c.before/\((cw ss c).length:Int)=c.after):=by
 rw[kD,Bool.and_eq_true,Bool.not_eq_true']at h
 exact⟨tT h.1,F0 h.2,At (j:=fx d z ss) h.1 h.2⟩
end
theorem GD {α:Type} [DecidableEq α]:∀ {xs ys:List α},xs.Nodup->(∀ x∈xs,x∈ys)->xs.length<=ys.length
 | [],_,_,_=>by simp
 | x::xs,ys,h,hs=>by
  have h1:=nodup_cons.1 h
  have Z:=hs x yz
  have h2:xs.length<=(ys.erase x).length:=GD h1.2 λy hy=>(List.mem_erase_of_ne (λe=>h1.1 (by rw[<-e];exact hy))).2 (hs y (by simp[hy]))
  rw[List.length_erase_of_mem Z]at h2
  have:=List.length_pos_of_mem Z
  simp only[length_cons];omega
theorem DG {d:Db} (h:dG d=0):∀ f∈d.ab,f.apart.length<=100000:=by
 intro f hf
 obtain⟨k,hk,rfl⟩:=ej hf
 have h1:=pR h k hk
 have E3:=(tE h1).1
 have hs:gg d (G d.ab k)=true:=by
  unfold dI fd at h1
  split at h1
  ·cases h1
  split at h1
  ·cases h1
  split at h1
  ·cases h1
  split at h1
  ·rename_i h2
   rw[h1]at h2
   simp at h2
  split at h1
  ·cases h1
  split at h1
  ·rename_i h2
   rw[h1]at h2
   simp at h2
  split at h1
  ·cases h1
  ·rename_i h3
   simpa using h3
 unfold gg at hs
 simp only[Bool.and_eq_true,decide_eq_true_eq]at hs
 obtain⟨⟨⟨_,ht⟩,_⟩,hw,ha⟩:=hs
 have d8:(G d.ab k).wide.Nodup:=by
  have h2:=(FY _).1 hw
  exact h2.imp λh3 e=>by rw[e,w6]at h3;cases h3
 have FE:(eN (G d.ab k).aa).length<=40:=by
  rw[eN,length_map]
  exact Nat.le_trans (List.length_filter_le _ _) E3
 have h2:(G d.ab k).apart.length<=((eN (G d.ab k).aa).flatMap λa=>(eN (G d.ab k).aa).map λb=>(⟨a,b⟩:Pr)).length:=by
  refine GD (by rw[ha];exact d8.filter _) λp hp=>?_
  rw[ha]at hp
  have h3:=(List.mem_filter.1 hp).2
  simp only[i7,Bool.and_eq_true,decide_eq_true_eq]at h3
  have h4:=all_eq_true.1 ht
  exact List.mem_flatMap.2 ⟨p.a,of_decide_eq_true (h4 _ h3.1),mem_map.2 ⟨p.b,of_decide_eq_true (h4 _ h3.2),rfl⟩⟩
 have h5:((eN (G d.ab k).aa).flatMap λa=>(eN (G d.ab k).aa).map λb=>(⟨a,b⟩:Pr)).length=(eN (G d.ab k).aa).length*(eN (G d.ab k).aa).length:=by
  rw[List.length_flatMap]
  simp only[length_map,List.map_const',List.sum_replicate_nat]
 rw[h5]at h2
 have h6:=Nat.mul_le_mul FE FE
 omega
end
end Go.Proofs.YtdfadihhfppjaaaGreatDoor
