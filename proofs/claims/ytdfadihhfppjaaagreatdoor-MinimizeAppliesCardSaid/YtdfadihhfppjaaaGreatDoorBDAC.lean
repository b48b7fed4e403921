/-
  Part of the proof that MinimizeApplies returns true. Conditions: none.
-/
import Derived.Test.YtdfadihhfppjaaaGreatDoorBDAB
namespace Go.Proofs.YtdfadihhfppjaaaGreatDoor
set_option maxRecDepth 100000
set_option maxHeartbeats 8000000
open Go.Proofs.Tryz
open List (foldl_cons length_append length_cons length_map length_take map_id map_set map_take mem_append_left mem_append_right mem_cons mem_cons_of_mem mem_singleton take_length)
section
open Go.RowKit
theorem w4:eq prog 77:=nO
theorem Rc:eq prog 169:=nO
theorem Nr:c9 prog 92 5 7:=fO
theorem Rf:eq prog 90:=nO
theorem wQ:j1 prog 90 9 3 aB.kind:=⟨by kernel_rfl,by kernel_rfl⟩
theorem Cb:oq prog 3 (.int default):=⟨(.int .i64 0),λw=>by kernel_rfl,λS w=>(show Rel S w (.int 0) _ from Rel.aG _)⟩
theorem Gs:eq prog 33:=nO
theorem Wc:f8 prog 158 [.lit (.map none)]:=⟨(.map none),λw=>by kernel_rfl,λS w=>(show bD S w [.lit (.map none)] [.map none]from⟨.lit _ True.intro,U⟩)⟩
theorem UI:dS prog 158 1:=zO
theorem Wf:f8 prog 29 [.lit (.slice none 0 0)]:=⟨(.slice none 0 0),λw=>by kernel_rfl,λS w=>(show bD S w [.lit (.slice none 0 0)] [.slice none 0 0]from⟨.lit _ True.intro,U⟩)⟩
theorem Wg:f8 prog 33 [.lit .nilFunc]:=⟨(.nilFunc),λw=>by kernel_rfl,λS w=>(show bD S w [.lit .nilFunc] [.nilFunc]from⟨.lit _ True.intro,U⟩)⟩
theorem UL:dS prog 33 1:=zO
abbrev eV (x0 x1 y1 x2 y2 x3 y3 x4 x5 x6:Nat):Value:=.func (.func 102) #[] #[.pointer (some ⟨x0,0,none⟩),.pointer (some ⟨x1,y1,none⟩),.pointer (some ⟨x2,y2,none⟩),.pointer (some ⟨x3,y3,none⟩),.pointer (some ⟨x4,0,none⟩),.pointer (some ⟨x5,0,none⟩),.pointer (some ⟨x6,0,none⟩)]
section
variable {J:WP} (V:aS J)
include V
theorem G2 {S:Nat->Prop} {w0:World} (hS:∀ b,w0.heap.size<=b->S b) (hJ0:J w0) {l:Nat} {κ μ σ:Type} {I:List (List Int)->κ->List OB} {pv:μ->Value} {O3:μ->List OB} {O4:σ->List OB} (bb mb:Nat) (bf of:Nat) (bj oj:Nat) (bs os:Nat) (ba bY bt:Nat) (d:Db) (i:Nat) (ss:List Stp) (ts:List (List BA)) (M:Nat) (mm:List (BA×Int)) (gf:Fr) (step:Nat) (va:Value) (xs:List (List Int)) (q:Nat) (Mb:BM) (al:List Int) (hH:Has [OB.mI M mm] S w0) (hY:yj prog J S w0 l (λx9=>[.rd (bS x9)]) (xs) I pv O3 O4) (dw:List (List Int)) (k0:κ) (hT:lH (⟨d,i,ss,ts,mm⟩:Jb) gf step) (hq:al.length=q) (wy:q<=gf.aa.length) (kT:∀ x∈al,0<=x/\x< (step:Int)) (hM:fJ gf.aa Mb) (hp:dw++(ek (⟨d,i,ss,ts,mm⟩:Jb) gf step q Mb al).1<+:xs) (ih:∀(pre':List (List Int)) (k':κ) (oe:Value) (M':BM) (al':List Int),al'.length=(q+1)->(q+1)<=gf.aa.length->(∀ x'∈al',0<=x'/\x'< (step:Int))->fJ gf.aa M'->pre'++(ek (⟨d,i,ss,ts,mm⟩:Jb) gf step (q+1) M' al').1<+:xs->qQ (ι:= { q':List (List Int)×κ×Value×BM // q'.1=pre'++(ek (⟨d,i,ss,ts,mm⟩:Jb) gf step (q+1) M' al').1/\q'.2.2.2=(ek (⟨d,i,ss,ts,mm⟩:Jb) gf step (q+1) M' al').2 } ⊕ { q':σ×Value×List Int×BM // (q+1)<=q'.2.2.1.length }) prog J S w0 102 [.at bb 0,.at bf of,.at bj oj,.at bs os,.at ba 0,.at bY 0,.at bt 0] (OB.var bb [.lit (.map (some mb))]::OB.map aB cC mb (M')::OB.pt bf of (aY gf)::OB.pt bj oj [.ptr (jC d i ss ts M)]::OB.pt bs os [lI (step:Int)]::OB.var ba [.lit (oe)]::OB.row oe 3 1 ((al').map bT)::OB.var bY [.lit (.func (.yield l) #[] #[])]::OB.var bt [.lit (eV bb bf of bj oj bs os ba bY bt)]::I (pre') k') (λi'=>.bool i'.isLeft) (pn (λz'=>OB.var bb [.lit (.map (some mb))]::OB.map aB cC mb (z'.1.2.2.2)::OB.pt bf of (aY gf)::OB.pt bj oj [.ptr (jC d i ss ts M)]::OB.pt bs os [lI (step:Int)]::OB.var ba [.lit (z'.1.2.2.1)]::OB.row z'.1.2.2.1 3 1 ((al').map bT)::OB.var bY [.lit (.func (.yield l) #[] #[])]::OB.var bt [.lit (eV bb bf of bj oj bs os ba bY bt)]::I z'.1.1 z'.1.2.1) λs'=>OB.var bb [.lit (.map (some mb))]::OB.map aB cC mb (s'.1.2.2.2)::OB.pt bf of (aY gf)::OB.pt bj oj [.ptr (jC d i ss ts M)]::OB.pt bs os [lI (step:Int)]::OB.var ba [.lit (s'.1.2.1)]::OB.row s'.1.2.1 3 1 ((s'.1.2.2.1).map bT)::OB.var bY [.lit (.func (.yield l) #[] #[])]::OB.var bt [.lit (eV bb bf of bj oj bs os ba bY bt)]::O4 s'.1.1) pv O3):qQ (ι:= { q':List (List Int)×κ×Value×BM // q'.1=dw++(ek (⟨d,i,ss,ts,mm⟩:Jb) gf step q Mb al).1/\q'.2.2.2=(ek (⟨d,i,ss,ts,mm⟩:Jb) gf step q Mb al).2 } ⊕ { q':σ×Value×List Int×BM // q<=q'.2.2.1.length }) prog J S w0 102 [.at bb 0,.at bf of,.at bj oj,.at bs os,.at ba 0,.at bY 0,.at bt 0] (OB.var bb [.lit (.map (some mb))]::OB.map aB cC mb Mb::OB.pt bf of (aY gf)::OB.pt bj oj [.ptr (jC d i ss ts M)]::OB.pt bs os [lI (step:Int)]::OB.var ba [.lit va]::OB.row va 3 1 (al.map bT)::OB.var bY [.lit (.func (.yield l) #[] #[])]::OB.var bt [.lit (eV bb bf of bj oj bs os ba bY bt)]::I dw k0) (λi'=>.bool i'.isLeft) (pn (λz'=>OB.var bb [.lit (.map (some mb))]::OB.map aB cC mb (z'.1.2.2.2)::OB.pt bf of (aY gf)::OB.pt bj oj [.ptr (jC d i ss ts M)]::OB.pt bs os [lI (step:Int)]::OB.var ba [.lit (z'.1.2.2.1)]::OB.row z'.1.2.2.1 3 1 (al.map bT)::OB.var bY [.lit (.func (.yield l) #[] #[])]::OB.var bt [.lit (eV bb bf of bj oj bs os ba bY bt)]::I z'.1.1 z'.1.2.1) λs'=>OB.var bb [.lit (.map (some mb))]::OB.map aB cC mb (s'.1.2.2.2)::OB.pt bf of (aY gf)::OB.pt bj oj [.ptr (jC d i ss ts M)]::OB.pt bs os [lI (step:Int)]::OB.var ba [.lit (s'.1.2.1)]::OB.row s'.1.2.1 3 1 ((s'.1.2.2.1).map bT)::OB.var bY [.lit (.func (.yield l) #[] #[])]::OB.var bt [.lit (eV bb bf of bj oj bs os ba bY bt)]::O4 s'.1.1) pv O3:=by
 have _:=hS
 refine Nz (N:=162) func102 Y Y (lb Y) λR=>?_
 refine gQ (B:=So J S w0 162 (OB.var bb [.lit (.map (some mb))]::OB.map aB cC mb Mb::OB.pt bf of (aY gf)::OB.pt bj oj [.ptr (jC d i ss ts M)]::OB.pt bs os [lI (step:Int)]::OB.var ba [.lit va]::OB.row va 3 1 (al.map bT)::OB.var bY [.lit (.func (.yield l) #[] #[])]::OB.var bt [.lit (eV bb bf of bj oj bs os ba bY bt)]::(I dw k0++R)) [(0,.at bb 0),(1,.at bf of),(2,.at bj oj),(3,.at bs os),(4,.at ba 0),(5,.at bY 0),(6,.at bt 0)]) ?_ λa w h=>h
 refine tw (uA (i:=2) (m:=1) Y Y) (tw (uA (i:=3) (m:=2) Y Y) ?_)
 refine tw (uA (i:=4) (m:=3) Y Y) ?_
 have hst:step<ts.length:=hT.st
 have wk:=hT.gh
 refine ak tb V (r7 []) [_] U7 ?_
 refine af (au tb V (r7 [1003,1007,1010,1015]) [.lit (.map (some mb)),_,_,_,_,_,_,_,_,.ptr [ai (G ts step)],_,.bJ [.bool ((ce gf.aa Mb gf.ac (G ts step)).1),.bool ((ce gf.aa Mb gf.ac (G ts step)).2)],_,_,_,_,_] [0,9,11] lJ Y ⟨λ_ _ _ Z hl _=>cg rV Y (aH Z (mo 0 Y)) (hl.env 3 0 _ Y Y) Y Z,bn eC,λ_ _ hk Z hl _=>dE (Bb V mb Mb gf gf.ac (G ts step) (by exact hT.fl)) (cO func94) Y (aK hS _ hk Z) (Z.1) (dC (aH Z (mo 1 Y)) b9) (aq (hl.D 0 22 Y Y) (aq (hl.D 1 23 Y Y) (aq (hl.D 3 25 Y Y) (aq (hl.D 10 32 Y Y) aP)))) (jo V Z),U⟩ ?_)
 refine ln 7 λ_=>?_
 refine ln 8 λ_=>?_
 refine ln 9 λ_=>?_
 refine ak tb V (r7 [1001]) U2 U8 ?_
 refine cj 7 ?_ ?_<;>intro hb1<;>try simp at hb1
 ·
  refine ak tb V [1000] [_] [_] ?_
  exact aZ (λa w h=>oS (dt (m:=0) (.inl ⟨(dw,k0,va,Mb),by first | exact uG (j:=(⟨d,i,ss,ts,mm⟩:Jb)) (pre:=dw) hb1 | exact uE (j:=(⟨d,i,ss,ts,mm⟩:Jb)) (pre:=dw) hb1 oz hG | exact sm (j:=(⟨d,i,ss,ts,mm⟩:Jb)) (pre:=dw) hb1 oz hG | exact uF (j:=(⟨d,i,ss,ts,mm⟩:Jb)) (pre:=dw) hb1 oz (uy aE bh bV) | exact uD (j:=(⟨d,i,ss,ts,mm⟩:Jb)) (pre:=dw) hb1 oz rp oz ah bp⟩) Y h Y Y))
 ·
  refine aj (nx (af (aT tb V (r7 [1002]) [.lit va,.int (al.length:Nat),_] [0,1] U8 Y ⟨λ_ _ _ Z hl _=>cg iG Y (aH Z (mo 5 Y)) (hl.env 4 4 _ Y Y) Y Z,λ_ _ _ Z hl _=>oV (by rw[length_map]) eW Y (aH Z (mo 6 Y)) (hl.D 0 38 Y Y) Z,U⟩ ?_)))
  refine kw (sa 7 Y (congrArg AV.int (show(al.length:Int)=(q:Int)from by omega))) (nx (af (au tb V (r8 [1002,1004]) (V3 [.int (gf.aa.length:Nat),_]) [3] fw Y ⟨aD cT,U⟩ ?_)))
  refine ln 8 λ_=>?_
  refine cj 9 ?_ ?_<;>intro hb2<;>try simp at hb2
  ·
   refine af ?_
   have hgv:=GS V d i ss ts M gf al step (by exact hT.fl) hT.hi (λt h'=>(hT.ts t h').1) (λj h'=>by have h8:=kT _ (aC h');exact⟨h8.1,oz⟩) oz hT.st hT.gh (λh h'=>(hT.tx h h').2) hT.wd
   have cY:=A8 V al (by have:=hT.gh;omega)
   rcases hG:fy (⟨d,i,ss,ts,[]⟩:Jb) gf al step with _ | _
   ·
    rw[hG]at hgv
    refine λa w h=>HT pv (λq=>O3 q++([OB.var bb [.lit (.map (some mb))],OB.map aB cC mb Mb,OB.pt bf of (aY gf),OB.pt bj oj [.ptr (jC d i ss ts M)],OB.pt bs os [lI (step:Int)],OB.var ba [.lit va],OB.row va 3 1 (al.map bT),OB.var bY [.lit (.func (.yield l) #[] #[])],OB.var bt [.lit (eV bb bf of bj oj bs os ba bY bt)]]++R)) [OB.var bb [.lit (.map (some mb))],OB.map aB cC mb Mb,OB.pt bf of (aY gf),OB.pt bj oj [.ptr (jC d i ss ts M)],OB.pt bs os [lI (step:Int)],OB.var ba [.lit va],OB.row va 3 1 (al.map bT),OB.var bY [.lit (.func (.yield l) #[] #[])],OB.var bt [.lit (eV bb bf of bj oj bs os ba bY bt)]] (γ:=Unit) (λix'=>([.ptr (jC d i ss ts M),.agg (aY gf),.lit va,.int (step:Nat),.bool false,.bool (!false),.bool (!false),.any,.lit va,.any,.any,.bool true,.bool true]:List AV).getD ix' .any) (λix'=>([true,true,true,true,true,true,true,(!false==false),(!false==false),(!false==false),(!false==false),true,true]:List Bool).getD ix' true) [(7,λ(_:Unit)=>.bool true)] (λ(_:List Bool) (_:Unit)=>[OB.var bb [.lit (.map (some mb))],OB.map aB cC mb Mb,OB.pt bf of (aY gf),OB.pt bj oj [.ptr (jC d i ss ts M)],OB.pt bs os [lI (step:Int)],OB.var ba [.lit va],OB.row va 3 1 (al.map bT),OB.var bY [.lit (.func (.yield l) #[] #[])],OB.var bt [.lit (eV bb bf of bj oj bs os ba bY bt)]]++(I dw k0++R)) (λ_ _=>undef) [] () (λ_=>Y) h V cP Y Y Y Y (λb g p hp=>mem_append_left _ hp) ⟨?QX,?QY,?Q2,?Q3,?Q4,?Q5,?Q6,?Q7,?Q8,?Q9,?QZ,?Q0,?Q1,U⟩ trivial ⟨.new 12 7 _,U⟩ (λq=>I4 [OB.var bb [.lit (.map (some mb))],OB.map aB cC mb Mb,OB.pt bf of (aY gf),OB.pt bj oj [.ptr (jC d i ss ts M)],OB.pt bs os [lI (step:Int)],OB.var ba [.lit va],OB.row va 3 1 (al.map bT),OB.var bY [.lit (.func (.yield l) #[] #[])],OB.var bt [.lit (eV bb bf of bj oj bs os ba bY bt)]] q) ?nf
    case QX=>exact λ_ O' _=>⟨Y,λ_ _ _ Z hl _=>qu w4 Y (hl.env 1 2 _ Y Y) Z⟩
    case QY=>exact λ_ O' _=>⟨Y,λ_ _ _ Z hl _=>jB pu Y (hl.env 2 1 _ Y Y) aV Z⟩
    case Q2=>exact λ_ O' cf=>⟨Y,λ_ _ _ Z hl _=>cg iG Y (aH Z (cf _ (mo 5 Y))) (hl.env 4 4 _ Y Y) Y Z⟩
    case Q3=>exact λ_ O' _=>⟨Y,λ_ _ _ Z hl _=>bU fY Y (hl.env 0 3 _ Y Y) Z⟩
    case Q4=>exact λ_ O' cf=>⟨Y,λ_ _ hk Z hl _=>Ht hgv (cO func68) Y hS V hk Z (aq ((hl.D 0 45 Y Y).sub λ_ _ h'=>h'.1) (aq ((hl.D 1 46 Y Y).sub λ_ _ h'=>h'.1) (aq (kB hS Z (cf _ (mo 6 Y)) (hl.D 2 47 Y Y)) (aq ((hl.D 3 48 Y Y).sub λ_ _ h'=>h'.1) aP))))⟩
    case Q5=>exact λ_ O' _=>⟨Y,λ_ _ _ Z hl _=>Bo Y (hl.D 4 49 Y Y) Z⟩
    case Q6=>exact λ_ O' _=>⟨Y,λ_ _ _ Z hl _=>b8 Y (hl.D 5 50 Y Y) Z⟩
    case Q7=>exact λ_ O' _=>⟨⟨_,_,_,Y,Y,Y,Y,Y⟩,λ_ _ _ _ _ hc=>by cases hc⟩
    case Q8=>exact λ_ O' cf=>⟨⟨_,_,_,Y,Y,Y,Y,Y⟩,λ_ _ _ Z hl _=>cg iG Y (aH Z (cf _ (mo 5 Y))) (hl.env 4 4 _ Y Y) Y Z⟩
    case Q9=>exact λ_ O' _=>⟨⟨_,_,_,Y,Y,Y,Y,Y⟩,λ_ _ _ _ _ hc=>by cases hc⟩
    case QZ=>exact λ_ O' _=>⟨⟨_,_,_,Y,Y,Y,Y,Y⟩,λ_ _ _ _ _ hc=>by cases hc⟩
    case Q0=>exact λ_ O' _=>⟨Y,λ_ _ _ Z hl _=>Bp (b:=false) Y (hl.D 6 51 Y Y) (λhg=>by cases hg) Z⟩
    case Q1=>exact λ_ O' _=>⟨Y,λ_ _ _ Z hl _=>gO Y (hl.D 11 56 Y Y) Z⟩
    clear a w h
    rintro _
    dsimp only[List.map]
    exact nx (aZ (λa w h=>oS (dt (m:=0) (.inl ⟨(dw,k0,va,Mb),by first | exact uG (j:=(⟨d,i,ss,ts,mm⟩:Jb)) (pre:=dw) hb1 | exact uE (j:=(⟨d,i,ss,ts,mm⟩:Jb)) (pre:=dw) hb1 oz hG | exact sm (j:=(⟨d,i,ss,ts,mm⟩:Jb)) (pre:=dw) hb1 oz hG | exact uF (j:=(⟨d,i,ss,ts,mm⟩:Jb)) (pre:=dw) hb1 oz (uy aE bh bV) | exact uD (j:=(⟨d,i,ss,ts,mm⟩:Jb)) (pre:=dw) hb1 oz rp oz ah bp⟩) Y h Y Y)))
   ·
    rw[hG]at hgv
    refine λa w h=>HT pv (λq=>O3 q++([OB.var bb [.lit (.map (some mb))],OB.map aB cC mb Mb,OB.pt bf of (aY gf),OB.pt bj oj [.ptr (jC d i ss ts M)],OB.pt bs os [lI (step:Int)],OB.var ba [.lit va],OB.row va 3 1 (al.map bT),OB.var bY [.lit (.func (.yield l) #[] #[])],OB.var bt [.lit (eV bb bf of bj oj bs os ba bY bt)]]++R)) [OB.var bb [.lit (.map (some mb))],OB.map aB cC mb Mb,OB.pt bf of (aY gf),OB.pt bj oj [.ptr (jC d i ss ts M)],OB.pt bs os [lI (step:Int)],OB.var ba [.lit va],OB.row va 3 1 (al.map bT),OB.var bY [.lit (.func (.yield l) #[] #[])],OB.var bt [.lit (eV bb bf of bj oj bs os ba bY bt)]] (γ:=κ ⊕ σ) (λix'=>([.ptr (jC d i ss ts M),.agg (aY gf),.lit va,.int (step:Nat),.bool true,.bool (!true),.bool (!true),.rd (.lit (.func (.yield l) #[] #[])),.lit va,.rd (bS al),.any,.any,.any]:List AV).getD ix' .any) (λix'=>([true,true,true,true,true,true,true,(!true==false),(!true==false),(!true==false),(!true==false),true,true]:List Bool).getD ix' true) [(7,λg=>.bool g.isLeft)] (λ(b:List Bool) (g:κ ⊕ σ)=>[OB.var bb [.lit (.map (some mb))],OB.map aB cC mb Mb,OB.pt bf of (aY gf),OB.pt bj oj [.ptr (jC d i ss ts M)],OB.pt bs os [lI (step:Int)],OB.var ba [.lit va],OB.row va 3 1 (al.map bT),OB.var bY [.lit (.func (.yield l) #[] #[])],OB.var bt [.lit (eV bb bf of bj oj bs os ba bY bt)]]++(bif b.getD 0 false then g.elim (λz=>I (dw++[al]) z++R) (λs=>O4 s++R)else(I dw k0++R))) (λk' g=>match k' with | 0=>.bool g.isLeft | 1=>.bool g.isLeft | 2=>.bool g.isLeft | _=>undef) [10,11,12] (.inl k0) (λ_=>Y) h V cP Y Y Y Y (λb g p hp=>mem_append_left _ hp) ⟨?Ro,?Rp,?Ru,?Rv,?Rw,?Rx,?Ry,?Rz,?RA,?RB,?Rq,?Rr,?Rt,U⟩ ⟨?Mv,?Mw,?Mx,U⟩ ⟨.dZ 2 12 7 (λ(g:κ ⊕ σ)=>.bool g.isLeft) Y Y (λ_=>Y) (λ_=>True.intro),U⟩ (λq=>I4 [OB.var bb [.lit (.map (some mb))],OB.map aB cC mb Mb,OB.pt bf of (aY gf),OB.pt bj oj [.ptr (jC d i ss ts M)],OB.pt bs os [lI (step:Int)],OB.var ba [.lit va],OB.row va 3 1 (al.map bT),OB.var bY [.lit (.func (.yield l) #[] #[])],OB.var bt [.lit (eV bb bf of bj oj bs os ba bY bt)]] q) ?nt
    case Ro=>exact λ_ O' _=>⟨Y,λ_ _ _ Z hl _=>qu w4 Y (hl.env 1 2 _ Y Y) Z⟩
    case Rp=>exact λ_ O' _=>⟨Y,λ_ _ _ Z hl _=>jB pu Y (hl.env 2 1 _ Y Y) aV Z⟩
    case Ru=>exact λ_ O' cf=>⟨Y,λ_ _ _ Z hl _=>cg iG Y (aH Z (cf _ (mo 5 Y))) (hl.env 4 4 _ Y Y) Y Z⟩
    case Rv=>exact λ_ O' _=>⟨Y,λ_ _ _ Z hl _=>bU fY Y (hl.env 0 3 _ Y Y) Z⟩
    case Rw=>exact λ_ O' cf=>⟨Y,λ_ _ hk Z hl _=>Ht hgv (cO func68) Y hS V hk Z (aq ((hl.D 0 45 Y Y).sub λ_ _ h'=>h'.1) (aq ((hl.D 1 46 Y Y).sub λ_ _ h'=>h'.1) (aq (kB hS Z (cf _ (mo 6 Y)) (hl.D 2 47 Y Y)) (aq ((hl.D 3 48 Y Y).sub λ_ _ h'=>h'.1) aP))))⟩
    case Rx=>exact λ_ O' _=>⟨Y,λ_ _ _ Z hl _=>Bo Y (hl.D 4 49 Y Y) Z⟩
    case Ry=>exact λ_ O' _=>⟨Y,λ_ _ _ Z hl _=>b8 Y (hl.D 5 50 Y Y) Z⟩
    case Rz=>exact λ_ O' cf=>⟨⟨_,_,_,Y,Y,Y,Y,Y⟩,λ_ _ _ Z hl _=>cg Rc Y (aH Z (cf _ (mo 7 Y))) (hl.env 5 5 _ Y Y) Y Z⟩
    case RA=>exact λ_ O' cf=>⟨⟨_,_,_,Y,Y,Y,Y,Y⟩,λ_ _ _ Z hl _=>cg iG Y (aH Z (cf _ (mo 5 Y))) (hl.env 4 4 _ Y Y) Y Z⟩
    case RB=>exact λ_ O' cf=>⟨⟨_,_,_,Y,Y,Y,Y,Y⟩,λ_ _ hk Z hl _=>Tt cY (cO func35) Y hS V hk Z (aq (kB hS Z (cf _ (mo 6 Y)) (hl.D 8 53 Y Y)) aP)⟩
    case Rq=>exact bB Y
    case Rr=>exact bB Y
    case Rt=>exact bB Y
    case Mv=>exact za [[false,false,false]] yq Y Y ⟨_,_,_,Y,Y,Y,Y,Y⟩ Y ⟨λg a w hk Z hl hs=>DJ (Lz (I':=λz=>I (dw++[al]) z) (O:=I dw k0) (R:=R) (bu:=[.rd (bS al)]) (xs:=[.tmp 54]) [OB.var bb [.lit (.map (some mb))],OB.map aB cC mb Mb,OB.pt bf of (aY gf),OB.pt bj oj [.ptr (jC d i ss ts M)],OB.pt bs os [lI (step:Int)],OB.var ba [.lit va],OB.row va 3 1 (al.map bT),OB.var bY [.lit (.func (.yield l) #[] #[])],OB.var bt [.lit (eV bb bf of bj oj bs os ba bY bt)]] Y Y hk Z (hl.D 7 52 Y Y).lit (aq (hl.D 9 54 Y Y) aP) (λm' R' w1 vs hk Z hv=>hY m' R' dw al k0 w1 vs (by rw[(sm (j:=(⟨d,i,ss,ts,mm⟩:Jb)) (pre:=dw) (k:=q) hb1 oz hG).1];exact hp) hk Z hv)) (λv w' ⟨g',e',hs'⟩=>⟨g',dY,λ_=>e',True.intro,hs'⟩) (λc w' hc=>hc),U⟩
    case Mw=>exact za [[true,false,false]] yq Y Y Y Y ⟨λg a w hk Z hl hs=>(bC (Bp (b:=g.isLeft) Y (hl.D 6 51 Y Y) (λ_=>by rw[hs 0 10 _ 55 Y Y Y Y];exact Rel.aG _) Z) λv w' hp=>⟨g,λ_ _=>rfl,λ_=>hp.1.lit,True.intro,qH V hk Z hp.2.1⟩).toP,U⟩
    case Mx=>exact za [[true,true,false]] yq Y Y Y Y ⟨λg a w hk Z hl hs=>(bC (gO (S:=S) (av:=.bool g.isLeft) Y (by rw[hs 1 11 _ 56 Y Y Y Y];exact Rel.aG _) Z) λv w' hp=>⟨g,λ_ _=>rfl,λ_=>hp.1.lit,True.intro,qH V hk Z hp.2.1⟩).toP,U⟩
    clear a w h
    rintro(z9 | s9)
    ·
     dsimp only[List.map]
     exact nx (aZ (λa w h=>oS (dt (m:=0) (.inl ⟨((dw++[al]),z9,va,Mb),by first | exact uG (j:=(⟨d,i,ss,ts,mm⟩:Jb)) (pre:=dw) hb1 | exact uE (j:=(⟨d,i,ss,ts,mm⟩:Jb)) (pre:=dw) hb1 oz hG | exact sm (j:=(⟨d,i,ss,ts,mm⟩:Jb)) (pre:=dw) hb1 oz hG | exact uF (j:=(⟨d,i,ss,ts,mm⟩:Jb)) (pre:=dw) hb1 oz (uy aE bh bV) | exact uD (j:=(⟨d,i,ss,ts,mm⟩:Jb)) (pre:=dw) hb1 oz rp oz ah bp⟩) Y h Y Y)))
    ·
     dsimp only[List.map]
     exact nx (aZ (λa w h=>oS (dt (m:=0) (.inr ⟨(s9,va,al,Mb),by first | exact Nat.le_of_eq hq.symm | (simp only[length_take];omega)⟩) Y h Y Y)))
  ·
   have e2:q<gf.aa.length:=by omega
   refine aj (nx (aL (ao 3 tb (env':=[(59,_),(58,_),(57,_),(3,_),(2,_),(1,_),(0,_),(4,_),(5,_),(6,_),(10,_),(42,_),(44,_)]) Y (sy (.ptr (aN (G gf.aa q))) (λh=>cb (i:=(q:Int)) cD Y (h.get 1 Y) (h.get 0 Y) bM (cq (xs:=gf.aa) (k:=q) az) Y h.x) ?_))))
   refine ao 1 tb (env':=[(61,_),(60,_),(59,_),(58,_),(57,_),(3,_),(2,_),(1,_),(0,_),(4,_),(5,_),(6,_),(10,_),(42,_),(44,_)]) Y (iJ (cs:=aN (G gf.aa q)) su Y Y Y (lb Y) Y Y Y dz (m:=0) Y Y (λa w h=>aK hS _ h.keep h.x _ aV) (λa w h w' hk'=>fi V _ _ hk' h.x) ?_)
   refine aA [0,6,7,8,9,10,12,13] U8 Y (nx (ak tb V (r8 [1001,1002]) U3 fw ?_))
   refine af (ak tb V (ma [1002]) U3 lJ ?_)
   refine FB (ι:=Nat×Nat) (λ(sA,sB)=>(iY (⟨d,i,ss,ts,mm⟩:Jb) gf.aa step (G gf.aa q) Mb=(sA,sB))/\(sA<=sB)/\(sB<=step)) (λ(_,_)=>(OB.var bb [.lit (.map (some mb))]::OB.map aB cC mb Mb::OB.pt bf of (aY gf)::OB.pt bj oj [.ptr (jC d i ss ts M)]::OB.pt bs os [lI (step:Int)]::OB.var ba [.lit va]::OB.row va 3 1 (al.map bT)::OB.var bY [.lit (.func (.yield l) #[] #[])]::OB.var bt [.lit (eV bb bf of bj oj bs os ba bY bt)]::(I dw k0++R))) (λ(sA,sB)=>[(11,.ptr (aN (G gf.aa q))),(2,.ptr [.ptr (jC d i ss ts M)]),(0,.at bb 0),(4,.at ba 0),(6,.at bt 0),(10,.int (q:Nat)),(12,.int (sA:Nat)),(13,.int (sB:Nat))]) ?_ ?_
   ·
    refine cj 10 ?_ ?_<;>intro aE<;>try simp at aE
    ·
     refine af (tw bQ (λa w h=>k6 (OB.var bb [.lit (.map (some mb))]::OB.pt bf of (aY gf)::OB.pt bj oj [.ptr (jC d i ss ts M)]::OB.pt bs os [lI (step:Int)]::OB.var ba [.lit va]::OB.row va 3 1 (al.map bT)::OB.var bY [.lit (.func (.yield l) #[] #[])]::OB.var bt [.lit (eV bb bf of bj oj bs os ba bY bt)]::(I dw k0++R)) (γ:=Value) (λix'=>([.ptr [ai ((G gf.aa q).ac)],.rd (ai ((G gf.aa q).ac)),.lit (.map (some mb)),.rd (fj (bK Mb)),.bJ [.rd (ai (if b7 (ay (bK Mb)) ((G gf.aa q).ac) 2000 then bz (ay (bK Mb)) ((G gf.aa q).ac)else [])),.int (if b7 (ay (bK Mb)) ((G gf.aa q).ac) 2000 then 0 else 15)],.bJ [.rd (ai (if b7 (ay (bK Mb)) ((G gf.aa q).ac) 2000 then bz (ay (bK Mb)) ((G gf.aa q).ac)else [])),.int (if b7 (ay (bK Mb)) ((G gf.aa q).ac) 2000 then 0 else 15)],.rd (ai (if b7 (ay (bK Mb)) ((G gf.aa q).ac) 2000 then bz (ay (bK Mb)) ((G gf.aa q).ac)else [])),.int (if b7 (ay (bK Mb)) ((G gf.aa q).ac) 2000 then 0 else 15),.rd (ai (if b7 (ay (bK Mb)) ((G gf.aa q).ac) 2000 then bz (ay (bK Mb)) ((G gf.aa q).ac)else [])),.int (if b7 (ay (bK Mb)) ((G gf.aa q).ac) 2000 then 0 else 15)]:List AV).getD ix' .any) (λ_=>true) [(11,λ_=>.ptr (aN (G gf.aa q))),(3,λ_=>.ptr [lI (step:Int)]),(2,λ_=>.ptr [.ptr (jC d i ss ts M)]),(1,λ_=>.ptr (aY gf)),(0,λ_=>.at bb 0),(4,λ_=>.at ba 0),(6,λ_=>.at bt 0),(10,λ_=>.int (q:Nat)),(12,λ_=>.int (0:Int)),(13,λ_=>.int (step:Nat)),(14,λ_=>.rd (ai (if b7 (ay (bK Mb)) ((G gf.aa q).ac) 2000 then bz (ay (bK Mb)) ((G gf.aa q).ac)else []))),(15,λ_=>.int (if b7 (ay (bK Mb)) ((G gf.aa q).ac) 2000 then 0 else 15))] (λ(b:List Bool) (g:Value)=>[OB.map aB cC mb Mb]++(OB.var bb [.lit (.map (some mb))]::OB.pt bf of (aY gf)::OB.pt bj oj [.ptr (jC d i ss ts M)]::OB.pt bs os [lI (step:Int)]::OB.var ba [.lit va]::OB.row va 3 1 (al.map bT)::OB.var bY [.lit (.func (.yield l) #[] #[])]::OB.var bt [.lit (eV bb bf of bj oj bs os ba bY bt)]::(I dw k0++R))) (λk' g=>match k' with | 0=>g | _=>undef) [3] undef (λ_=>Y) h V cP Y Y Y Y (λb g p hp=>(mem_append_right _ hp)) ⟨oX Y λZ hl=>ca lO Y (hl.env 0 11 _ Y Y) Z,oX Y λZ hl=>bU ia Y (hl.D 0 67 Y Y) Z,λ_ O' cf=>⟨Y,λ_ _ _ Z hl _=>cg rV Y (aH Z (cf _ (mo 0 Y))) (hl.env 4 0 _ Y Y) Y Z⟩,bB Y,?_,oX Y λZ hl=>b8 Y (hl.D 4 71 Y Y) Z,oX Y λZ hl=>gi Y (hl.D 5 66 Y Y) Y Z,oX Y λZ hl=>gi Y (hl.D 5 66 Y Y) Y Z,oX Y λZ hl=>gO Y (hl.D 6 72 Y Y) Z,oX Y λZ hl=>gO Y (hl.D 7 73 Y Y) Z,U⟩ ⟨?LI,U⟩ ⟨.old 0 11 _,.old 1 3 _,.old 2 2 _,.old 3 1 _,.old 4 0 _,.old 5 4 _,.old 6 6 _,.old 7 10 _,.old 8 12 _,.old 9 13 _,.new 8 14 _,.new 9 15 _,U⟩ ?Xg))
     exact oY Y λhk Z hl=>cQ (GJ V ((G gf.aa q).ac) (bK Mb) 2000 az (by exact λb hb=>(hM.FR b hb).1)) (cO func103) Y (aK hS _ hk Z) (Z.1) (aq (hl.D 1 68 Y Y) (aq (hl.D 3 70 Y Y) (aq (Rel.aG (.int .i64 2000)) aP))) (jo V Z)
     case LI=>exact ew [[false]] yq Y Y Y Y ⟨λ_ _ w hk Z hl _=>bC (pI (O:=[OB.map aB cC mb Mb]) (R:=(OB.var bb [.lit (.map (some mb))]::OB.pt bf of (aY gf)::OB.pt bj oj [.ptr (jC d i ss ts M)]::OB.pt bs os [lI (step:Int)]::OB.var ba [.lit va]::OB.row va 3 1 (al.map bT)::OB.var bY [.lit (.func (.yield l) #[] #[])]::OB.var bt [.lit (eV bb bf of bj oj bs os ba bY bt)]::(I dw k0++R))) (Bf V mb Mb (by exact hM.nd) (by exact hM.key hT.fl (λy h=>(hT.tx y h).2)) (by have:=hM.len;omega)) (cO func96) Y hS hJ0 b9 hk Z (aq (hl.D 2 69 Y Y) aP)) λv w' ⟨i,hp,hv⟩=>⟨v,dY,λ_=>rfl,hv,hp⟩,U⟩
     clear a w h
     intro x1
     dsimp only[List.map]
     refine nx (ln 10 λE4=>?_)
     refine au tb V [0,1,2,4,5,6,7,8,9,10,11,1003,1004] [.lit (.map (some mb)),_,_,_,.bool (pA gf.aa Mb ((G gf.aa q).ac))] [0,4] [_,_,_,_,_,_,_,_,_,_,_,_,_] Y ⟨λ_ _ _ Z hl _=>cg rV Y (aH Z (mo 1 Y)) (hl.env 4 0 _ Y Y) Y Z,λ_ _ hk Z hl _=>dE (Sl V mb Mb gf ((G gf.aa q).ac) (by exact hT.fl)) (cO func104) Y (aK hS _ hk Z) (Z.1) (dC (aH Z (mo 0 Y)) b9) (aq (hl.D 0 74 Y Y) (aq (hl.D 1 75 Y Y) (aq (hl.D 3 77 Y Y) aP))) (jo V Z),U⟩ ?_
     refine ln 11 λ_=>?_
     refine cj 12 ?_ ?_<;>intro bh<;>try simp at bh
     ·
      refine au tb V (r7 [10,1010,1011]) (V5 [.str (cn (if b7 (ay (bK Mb)) ((G gf.aa q).ac) 2000 then bz (ay (bK Mb)) ((G gf.aa q).ac)else [])),.bJ [.int ((aw mm (cn (if b7 (ay (bK Mb)) ((G gf.aa q).ac) 2000 then bz (ay (bK Mb)) ((G gf.aa q).ac)else []))).getD default),.bool ((aw mm (cn (if b7 (ay (bK Mb)) ((G gf.aa q).ac) 2000 then bz (ay (bK Mb)) ((G gf.aa q).ac)else []))).isSome)],_,_,_,_,_]) [5,6] fw Y ⟨bN hS V (w8 V (if b7 (ay (bK Mb)) ((G gf.aa q).ac) 2000 then bz (ay (bK Mb)) ((G gf.aa q).ac)else []) (by first | exact(uY hT hM (aC oz)).1 | exact(hT.ts _ (aC (show sA+n<ts.length by omega))).1.2) (by first | exact(uY hT hM (aC oz)).2 | exact(hT.ts _ (aC (show sA+n<ts.length by omega))).2)) (cO func64),λ_ _ hk Z hl _=>mc (Kd:=aB) (f:=(λz':Int=>AV.int z')) (L:=mm) wQ Cb (cn (if b7 (ay (bK Mb)) ((G gf.aa q).ac) 2000 then bz (ay (bK Mb)) ((G gf.aa q).ac)else [])) Y (dD hH hk Z (mo 0 Y)) (hl.D 3 83 Y Y) (hl.D 5 85 Y Y) Z,U⟩ ?_
      refine af (ak tb V [0,2,3,4,5,6,8,1010] lJ U8 ?_)
      refine cj 7 ?_ ?_<;>intro bV
      ·
       refine ak tb V [1000] [_] [_] ?_
       refine tw cp (tw cp ?_)
       refine tw cp (tw cp ?_)
       refine tw cp (tw cp ?_)
       refine tw cp (tw rZ ?_)
       exact tw cp (aZ (λa w h=>oS (dt (m:=0) (.inl ⟨(dw,k0,va,Mb),by first | exact uG (j:=(⟨d,i,ss,ts,mm⟩:Jb)) (pre:=dw) hb1 | exact uE (j:=(⟨d,i,ss,ts,mm⟩:Jb)) (pre:=dw) hb1 oz hG | exact sm (j:=(⟨d,i,ss,ts,mm⟩:Jb)) (pre:=dw) hb1 oz hG | exact uF (j:=(⟨d,i,ss,ts,mm⟩:Jb)) (pre:=dw) hb1 oz (uy aE bh bV) | exact uD (j:=(⟨d,i,ss,ts,mm⟩:Jb)) (pre:=dw) hb1 oz rp oz ah bp⟩) Y h Y Y)))
      ·
       have e5:0<=(aw mm (cn (if b7 (ay (bK Mb)) (G gf.aa q).ac 2000 then bz (ay (bK Mb)) (G gf.aa q).ac else []))).getD default/\(aw mm (cn (if b7 (ay (bK Mb)) (G gf.aa q).ac 2000 then bz (ay (bK Mb)) (G gf.aa q).ac else []))).getD default< (step:Int)/\iY (⟨d,i,ss,ts,mm⟩:Jb) gf.aa step (G gf.aa q) Mb=(((aw mm (cn (if b7 (ay (bK Mb)) (G gf.aa q).ac 2000 then bz (ay (bK Mb)) (G gf.aa q).ac else []))).getD default).toNat,((aw mm (cn (if b7 (ay (bK Mb)) (G gf.aa q).ac 2000 then bz (ay (bK Mb)) (G gf.aa q).ac else []))).getD default).toNat+1):=UR hT aE bh bV
       refine aj (nx (aT tb V (r6 [1003,1004]) [_,_,.int (((aw mm (cn (if b7 (ay (bK Mb)) ((G gf.aa q).ac) 2000 then bz (ay (bK Mb)) ((G gf.aa q).ac)else []))).getD default)+(1:Int)),_,_] [2] U8 Y ⟨aM,U⟩ ?_))
       refine kw (sa 6 Y (congrArg AV.int (show((aw mm (cn (if b7 (ay (bK Mb)) ((G gf.aa q).ac) 2000 then bz (ay (bK Mb)) ((G gf.aa q).ac)else []))).getD default)=((((aw mm (cn (if b7 (ay (bK Mb)) (G gf.aa q).ac 2000 then bz (ay (bK Mb)) (G gf.aa q).ac else []))).getD default).toNat:Nat):Int)from by omega))) (kw (sa 7 Y (congrArg AV.int (show((aw mm (cn (if b7 (ay (bK Mb)) ((G gf.aa q).ac) 2000 then bz (ay (bK Mb)) ((G gf.aa q).ac)else []))).getD default)+(1:Int)=((((aw mm (cn (if b7 (ay (bK Mb)) (G gf.aa q).ac 2000 then bz (ay (bK Mb)) (G gf.aa q).ac else []))).getD default).toNat+1:Nat):Int)from by omega))) ?_)
       refine kw cp (kw cp ?_)
       refine kw cp (kw cp ?_)
       refine kw cp (kw cp ?_)
       refine kw cp (kw rZ ?_)
       exact kw cp (qb (((aw mm (cn (if b7 (ay (bK Mb)) (G gf.aa q).ac 2000 then bz (ay (bK Mb)) (G gf.aa q).ac else []))).getD default).toNat,((aw mm (cn (if b7 (ay (bK Mb)) (G gf.aa q).ac 2000 then bz (ay (bK Mb)) (G gf.aa q).ac else []))).getD default).toNat+1) (r8 []) ⟨by first | exact BK aE | exact BL bh | exact e5.2.2,oz,oz⟩)
     ·
      refine aj (kw cp (kw cp ?_))
      refine kw cp (kw cp ?_)
      refine kw cp (kw cp ?_)
      refine kw cp (kw rZ ?_)
      exact kw cp (qb (0,step) [0,2,3,4,5,6,7,8] ⟨by first | exact BK aE | exact BL bh | exact e5.2.2,oz,oz⟩)
    ·
     exact aj (qb (0,step) [0,2,4,5,6,7,8,9] ⟨by first | exact BK aE | exact BL bh | exact e5.2.2,oz,oz⟩)
   ·
    rintro⟨sA,sB⟩ ⟨rp,WY,WZ⟩
    refine af (ak tb V (r6 [7,1001]) U2 U8 ?_)
    refine ax (lpo (ι:=Nat×BM×Value×(List (List Int))×κ) (λ(n,M2,_,pre,_)=>(sA+n<=sB)/\(pre=dw++(fh (⟨d,i,ss,ts,mm⟩:Jb) gf step q Mb al sA n).1)/\(M2=(fh (⟨d,i,ss,ts,mm⟩:Jb) gf step q Mb al sA n).2)) (λ(_,M2,wa,pre,kk)=>(OB.var bb [.lit (.map (some mb))]::OB.map aB cC mb M2::OB.pt bf of (aY gf)::OB.pt bj oj [.ptr (jC d i ss ts M)]::OB.pt bs os [lI (step:Int)]::OB.var ba [.lit wa]::OB.row wa 3 1 (al.map bT)::OB.var bY [.lit (.func (.yield l) #[] #[])]::OB.var bt [.lit (eV bb bf of bj oj bs os ba bY bt)]::(I pre kk++R))) (λ(n,_,_,_,_)=>[(18,.int (sA+n:Nat))]) (λ(n,_,_,_,_)=>sB-(sA+n)) (r8 []) U7 (0,Mb,va,dw,k0) ⟨oz,by rw[B0];simp,by rw[B0]⟩ ?_)
    rintro⟨n,M2,wa,pre,kk⟩ ⟨aQ,ah,bp⟩
    refine af (ak tb V (r8 [1002]) U3 U9 ?_)
    refine cj 8 ?_ ?_<;>intro eM<;>try simp at eM
    ·
     have h6:1<=(G ts (sA+n)).length/\(G ts (sA+n)).length<=2000:=(hT.ts _ (aC (show sA+n<ts.length by omega))).1
     have h5:1<=(G gf.aa q).ac.length:=(hT.tx _ (aC e2)).1
     refine aj (nx (af (ax (au tb V (r8 [1006,1007]) (V5 [.ptr [ai (G ts (sA+n))],_,_]) [5] fw Y ⟨bn eC,U⟩ ?_))))
     refine ln 8 λ_=>?_
     refine af (au tb V (r8 [9,1018]) (V5 [.str (cn (G ts (sA+n))),.int ((aw mm (cn (G ts (sA+n)))).getD default),_,_,_,_,.ptr [lS (G (G ts (sA+n)) 0)],_,_,_,.ptr [lS (G ((G gf.aa q).ac) 0)],_,_,_]) [5,6,11,15] fw Y ⟨bN hS V (w8 V (G ts (sA+n)) (by first | exact(uY hT hM (aC oz)).1 | exact(hT.ts _ (aC (show sA+n<ts.length by omega))).1.2) (by first | exact(uY hT hM (aC oz)).2 | exact(hT.ts _ (aC (show sA+n<ts.length by omega))).2)) (cO func64),λ_ _ hk Z hl _=>Bl (Kd:=aB) (f:=(λz':Int=>AV.int z')) (L:=mm) wQ Cb (cn (G ts (sA+n))) Y (dD hH hk Z (mo 0 Y)) (hl.D 3 119 Y Y) (hl.D 5 121 Y Y) Z,cN (k:=0) bx (hk:=λ(aF:((!decide (((aw mm (cn (G ts (sA+n)))).getD default)=((sA+n:Nat):Int)))==false)=true)=>by(try simp at aF);first | omega | (simp;omega) | grind[aC]),cN (k:=0) bx (hk:=λ(aF:((!decide (((aw mm (cn (G ts (sA+n)))).getD default)=((sA+n:Nat):Int)))==false)=true)=>by(try simp at aF);first | omega | (simp;omega) | grind[aC]),U⟩ ?_)
     refine cj 9 ?_ ?_<;>intro fM
     ·
      have ho:ly (⟨d,i,ss,ts,mm⟩:Jb) (G gf.aa q) (sA+n)=false:=(Gm hT (show sA+n<ts.length by omega)).trans (by have h9:=congrArg (λb'=>!b') fM;exact h9)
      refine aW (nx (aT tb V (r7 [1002]) [_,.int (sA+n+1:Nat),_] [1] U8 Y ⟨aM,U⟩ ?_))
      exact bq ((n+1),M2,wa,pre,kk) (r8 []) ⟨oz,by first | (rw[sj ho];exact ah) | exact(od (j:=(⟨d,i,ss,ts,mm⟩:Jb)) ah bp lP Y ho ez).1,by first | (rw[sj ho];exact bp) | exact(if_pos g5).symm.trans (od (j:=(⟨d,i,ss,ts,mm⟩:Jb)) ah bp lP Y ho ez).2 | exact(if_neg (by simp[g5])).symm.trans (od (j:=(⟨d,i,ss,ts,mm⟩:Jb)) ah bp lP Y ho ez).2⟩
     ·
      have ho:ly (⟨d,i,ss,ts,mm⟩:Jb) (G gf.aa q) (sA+n)=true:=(Gm hT (show sA+n<ts.length by omega)).trans (by have h9:=congrArg (λb'=>!b') fM;exact h9)
      refine aj (nx (af (ak tb V (r9 [1001]) U2 fw ?_)))
      refine FB (ι:=BM) (λM3=>(M3=if(G gf.aa q).be then cl M2 (G (G gf.aa q).ac 1) ((G ts (sA+n)).drop 1)else M2)) (λM3=>(OB.var bb [.lit (.map (some mb))]::OB.map aB cC mb M3::OB.pt bf of (aY gf)::OB.pt bj oj [.ptr (jC d i ss ts M)]::OB.pt bs os [lI (step:Int)]::OB.var ba [.lit wa]::OB.row wa 3 1 (al.map bT)::OB.var bY [.lit (.func (.yield l) #[] #[])]::OB.var bt [.lit (eV bb bf of bj oj bs os ba bY bt)]::(I pre kk++R))) (λ_=>[(11,.ptr (aN (G gf.aa q))),(2,.ptr [.ptr (jC d i ss ts M)]),(0,.at bb 0),(4,.at ba 0),(6,.at bt 0),(10,.int (q:Nat)),(13,.int (sB:Nat)),(18,.int (sA+n:Nat))]) ?_ ?_
      ·
       refine cj 9 ?_ ?_<;>intro iA<;>try simp at iA
       ·
        have e3:(G gf.aa q).ac.length=2:=hT.fl _ (aC oz) iA
        have e4:=(hT.ts _ (aC (show sA+n<ts.length by omega))).1
        refine tw bQ (λa w h=>iq (γ:=Unit) (λix'=>([.lit (.map (some mb)),.ptr [ai ((G gf.aa q).ac)],.rd (ai ((G gf.aa q).ac)),.ptr [lS (G ((G gf.aa q).ac) 1)],.str (G ((G gf.aa q).ac) 1),.rd (ai (G ts (sA+n))),.rd (ai ((G ts (sA+n)).drop 1)),.any]:List AV).getD ix' .any) (λ_=>true) [(11,λ_=>.ptr (aN (G gf.aa q))),(2,λ_=>.ptr [.ptr (jC d i ss ts M)]),(0,λ_=>.at bb 0),(4,λ_=>.at ba 0),(6,λ_=>.at bt 0),(10,λ_=>.int (q:Nat)),(13,λ_=>.int (sB:Nat)),(18,λ_=>.int (sA+n:Nat))] (λj' _=>match j' with | 0=>(OB.map aB cC mb M2::OB.var bb [.lit (.map (some mb))]::OB.pt bf of (aY gf)::OB.pt bj oj [.ptr (jC d i ss ts M)]::OB.pt bs os [lI (step:Int)]::OB.var ba [.lit wa]::OB.row wa 3 1 (al.map bT)::OB.var bY [.lit (.func (.yield l) #[] #[])]::OB.var bt [.lit (eV bb bf of bj oj bs os ba bY bt)]::(I pre kk++R)) | _=>(OB.map aB cC mb (cl M2 (G ((G gf.aa q).ac) 1) ((G ts (sA+n)).drop 1))::OB.var bb [.lit (.map (some mb))]::OB.pt bf of (aY gf)::OB.pt bj oj [.ptr (jC d i ss ts M)]::OB.pt bs os [lI (step:Int)]::OB.var ba [.lit wa]::OB.row wa 3 1 (al.map bT)::OB.var bY [.lit (.func (.yield l) #[] #[])]::OB.var bt [.lit (eV bb bf of bj oj bs os ba bY bt)]::(I pre kk++R))) (λ_ _=>undef) [7] 0 () (λ_=>Y) h V cP Y Y Y Y Y Y hsb ⟨λ_ O' cf=>⟨Y,λ_ _ _ Z hl _=>cg rV Y (aH Z (cf _ (mo 1 Y))) (hl.env 2 0 _ Y Y) Y Z⟩,oX Y λZ hl=>ca lO Y (hl.env 0 11 _ Y Y) Z,oX Y λZ hl=>bU ia Y (hl.D 1 138 Y Y) Z,?_,oX Y λZ hl=>bU fd Y (hl.D 3 140 Y Y) Z,oX Y λZ hl=>b8 Y (hl.env 8 19 _ Y Y) Z,?_,bB Y,U⟩ ⟨?L3,U⟩ ⟨.old 0 11 _,.old 1 2 _,.old 2 0 _,.old 3 4 _,.old 4 6 _,.old 5 10 _,.old 6 13 _,.old 7 18 _,U⟩ ?Xr)
        exact oX Y λZ hl=>cb (i:=((1:Nat):Int)) bx Y (hl.D 2 139 Y Y) (Rel.aG (.int .i64 1)) bM (cq (xs:=(G gf.aa q).ac) (k:=1) az) Y Z
        exact oX Y λZ hl=>iH (ys:=(G ts (sA+n)).drop 1) (lo:=1) (hi:=(G ts (sA+n)).length) (by rw[take_length]) bx (λ_=>Y) Y (hl.D 5 142 Y Y) (Rel.aG (.int .i64 1)) Y az az Z
        case L3=>exact⟨_,Y,Y,Y,Y,λg _ w hk Z hl _=>bC (pJ (f:=cC) rO V hJ0 (G ((G gf.aa q).ac) 1) ((G ts (sA+n)).drop 1) (.inl Y) hk Z (hl.D 0 137 Y Y) (hl.D 4 141 Y Y) (hl.D 6 143 Y Y)) λv w' ⟨_,hp⟩=>⟨g,Y,λ_ _=>rfl,λe=>(by cases e),hp⟩⟩
        clear a w h
        intro _
        dsimp only[List.map]
        refine kw cp (kw cp ?_)
        refine kw cp (kw cp ?_)
        refine kw cp (kw cp ?_)
        refine kw cp (kw rZ ?_)
        exact kw cp (qb (cl M2 (G ((G gf.aa q).ac) 1) ((G ts (sA+n)).drop 1)) (r8 []) (show(cl M2 (G ((G gf.aa q).ac) 1) ((G ts (sA+n)).drop 1))=if(G gf.aa q).be then cl M2 (G (G gf.aa q).ac 1) ((G ts (sA+n)).drop 1)else M2 from by first | exact(if_pos iA).symm | exact(if_neg (by simp[iA])).symm))
       ·
        exact aj (qb M2 (r8 []) (show M2=if(G gf.aa q).be then cl M2 (G (G gf.aa q).ac 1) ((G ts (sA+n)).drop 1)else M2 from by first | exact(if_pos iA).symm | exact(if_neg (by simp[iA])).symm))
      ·
       rintro M3 hF
       have lP:M3=if(G gf.aa q).be then cl M2 (G (G gf.aa q).ac 1) ((G ts (sA+n)).drop 1)else M2:=hF
       refine aL (sy (.lit wa) (λh=>cg iG Y (aH h.x (mo 5 Y)) (h.get 3 Y) Y h.x) ?_)
       refine ao 1 tb (env':=[(145,_),(144,_),(11,_),(2,_),(0,_),(4,_),(6,_),(10,_),(13,_),(18,_)]) Y (sy (.rd (bS ([((sA+n:Nat):Int)]))) (λh=>ft dc pi Y (h.get 0 Y) (aK hS _ h.keep h.x _ aV) (jo V h.x)) ?_)
       refine kw gx (fP (f:=bT) (m:=2) (s:=144) al ([((sA+n:Nat):Int)]) (λ_=>Y) py V hJ0 Y Y Y (lb Y) Y Y (λa w h=>(h.get 0 Y)) az az λv2=>?_)
       refine kw gx (gz (b:=ba) (off:=0) (es:=[_]) V hJ0 qz Y Y Y (lb Y) Y (λa w h=>⟨(h.get 7 Y),(h.get 0 Y)⟩) ?_)
       refine aA [1,4,5,6,7,8,9,10,11] U9 Y (nx (ln 0 λE5=>?_))
       refine aL (sy (.lit (eV bb bf of bj oj bs os ba bY bt)) (λh=>cg Gs Y (aH h.x (mo 8 Y)) (h.get 5 Y) Y h.x) ?_)
       refine kw cp (kw cp ?_)
       refine kw gN (kw gN ?_)
       refine kw cp (kw cp ?_)
       refine kw cp (kw cp ?_)
       refine kw cp (Il (O:=(OB.var bb [.lit (.map (some mb))]::OB.map aB cC mb M3::OB.pt bf of (aY gf)::OB.pt bj oj [.ptr (jC d i ss ts M)]::OB.pt bs os [lI (step:Int)]::OB.var ba [.lit v2]::OB.row v2 3 1 ((al++([((sA+n:Nat):Int)])).map bT)::OB.var bY [.lit (.func (.yield l) #[] #[])]::OB.var bt [.lit (eV bb bf of bj oj bs os ba bY bt)]::I pre kk)) (R:=R) [] [.pointer (some ⟨bb,0,none⟩),.pointer (some ⟨bf,of,none⟩),.pointer (some ⟨bj,oj,none⟩),.pointer (some ⟨bs,os,none⟩),.pointer (some ⟨ba,0,none⟩),.pointer (some ⟨bY,0,none⟩),.pointer (some ⟨bt,0,none⟩)] [.at bb 0,.at bf of,.at bj oj,.at bs os,.at ba 0,.at bY 0,.at bt 0] (ih (pre':=pre) (k':=kk) (oe:=v2) (M':=M3) (al':=(al++([((sA+n:Nat):Int)]))) (by simp;omega) oz (λx' hx'=>by rcases List.mem_append.1 hx' with h | h;exact kT x' h;rw[mem_singleton.1 h];omega) (by rw[lP,bp];exact Th hT (k:=q) oz (show sA+n<ts.length by omega) (IK hT oz hM n)) (by rw[lP,ah,bp];exact VE (j:=(⟨d,i,ss,ts,mm⟩:Jb)) oz ho (VN (j:=(⟨d,i,ss,ts,mm⟩:Jb)) hb1 oz rp hp))) (cO func102) Y Y Y (lb Y) (λa w h=>(h.get 0 Y).lit) (λa w h=>aP) (λw=>(aq (Rel.aG _) (aq (Rel.aG _) (aq (Rel.aG _) (aq (Rel.aG _) (aq (Rel.aG _) (aq (Rel.aG _) (aq (Rel.aG _) aP)))))))) (λq=>V2 q) (λs3=>?_) (λz4=>?_))
       ·
        dsimp only[List.map,pn]
        have es:=s3.2
        refine ao 1 tb (env':=[(20,_),(149,_),(148,_),(146,_),(11,_),(2,_),(0,_),(4,_),(6,_),(10,_),(13,_),(18,_)]) Y (aA [0,4,5,6,7,8,9,10,11] U9 Y ?_)
        refine nx (tw gx (tw (λh=>map_take▸BQ (m:=q) (by rw[length_map];exact az) h) ?_))
        refine aL (sy (.lit s3.1.2.1) (λh=>cg iG Y (aH h.x (mo 6 Y)) (h.get 4 Y) Y h.x) ?_)
        refine ao 1 tb (env':=[(151,_),(150,_),(20,_),(11,_),(2,_),(0,_),(4,_),(6,_),(10,_),(13,_),(18,_)]) Y (sy (.lit (du s3.1.2.1 q)) (λh=>qt (m:=q) dc Y (aH h.x (mo 0 Y)) (by first | rfl | (rw[length_map];exact az)) (h.get 1 Y) (h.get 0 Y) h.x) ?_)
        refine kw gx (gz (b:=ba) (off:=0) (es:=[_]) V hJ0 qz Y Y Y (lb Y) Y (λa w h=>⟨(h.get 7 Y),(h.get 0 Y)⟩) ?_)
        refine aA [3,4,5,6,7,8,9,10,11] U9 Y (nx (af (ak tb V (r9 [1001]) U2 fw ?_)))
        refine cj 9 ?_ ?_<;>intro g5<;>try simp at g5
        ·
         have e3:(G gf.aa q).ac.length=2:=hT.fl _ (aC oz) g5
         refine tw gN (λa w h=>k6 (OB.var ba [.lit (du s3.1.2.1 q)]::OB.row (du s3.1.2.1 q) 3 1 ((s3.1.2.2.1.take q).map bT)::OB.var bb [.lit (.map (some mb))]::OB.pt bf of (aY gf)::OB.pt bj oj [.ptr (jC d i ss ts M)]::OB.pt bs os [lI (step:Int)]::OB.var bY [.lit (.func (.yield l) #[] #[])]::OB.var bt [.lit (eV bb bf of bj oj bs os ba bY bt)]::(O4 s3.1.1++R)) (γ:=Unit) (λix'=>([.lit (.map (some mb)),.ptr [ai ((G gf.aa q).ac)],.rd (ai ((G gf.aa q).ac)),.ptr [lS (G ((G gf.aa q).ac) 1)],.str (G ((G gf.aa q).ac) 1),.any]:List AV).getD ix' .any) (λ_=>true) [(20,λ_=>.bool false),(11,λ_=>.ptr (aN (G gf.aa q))),(2,λ_=>.ptr [.ptr (jC d i ss ts M)]),(0,λ_=>.at bb 0),(4,λ_=>.at ba 0),(6,λ_=>.at bt 0),(10,λ_=>.int (q:Nat)),(13,λ_=>.int (sB:Nat)),(18,λ_=>.int (sA+n:Nat))] (λ(b:List Bool) (g:Unit)=>(bif b.getD 0 false then [OB.map aB cC mb (gM s3.1.2.2.2 (G ((G gf.aa q).ac) 1))]else [OB.map aB cC mb s3.1.2.2.2])++(OB.var ba [.lit (du s3.1.2.1 q)]::OB.row (du s3.1.2.1 q) 3 1 ((s3.1.2.2.1.take q).map bT)::OB.var bb [.lit (.map (some mb))]::OB.pt bf of (aY gf)::OB.pt bj oj [.ptr (jC d i ss ts M)]::OB.pt bs os [lI (step:Int)]::OB.var bY [.lit (.func (.yield l) #[] #[])]::OB.var bt [.lit (eV bb bf of bj oj bs os ba bY bt)]::(O4 s3.1.1++R))) (λ_ _=>undef) [5] () (λ_=>Y) h V cP Y Y Y Y (λb g p hp=>(mem_append_right _ hp)) ⟨λ_ O' cf=>⟨Y,λ_ _ _ Z hl _=>cg rV Y (aH Z (cf _ (mo 2 Y))) (hl.env 3 0 _ Y Y) Y Z⟩,oX Y λZ hl=>ca lO Y (hl.env 1 11 _ Y Y) Z,oX Y λZ hl=>bU ia Y (hl.D 1 156 Y Y) Z,?_,oX Y λZ hl=>bU fd Y (hl.D 3 158 Y Y) Z,bB Y,U⟩ ⟨?L4,U⟩ ⟨.old 0 20 _,.old 1 11 _,.old 2 2 _,.old 3 0 _,.old 4 4 _,.old 5 6 _,.old 6 10 _,.old 7 13 _,.old 8 18 _,U⟩ ?Xu)
         exact oX Y λZ hl=>cb (i:=((1:Nat):Int)) bx Y (hl.D 2 157 Y Y) (Rel.aG (.int .i64 1)) bM (cq (xs:=(G gf.aa q).ac) (k:=1) az) Y Z
         case L4=>exact ew [[false]] yq Y Y Y Y ⟨λg _ w hk Z hl _=>bC (DA rO V hJ0 (G ((G gf.aa q).ac) 1) Y hk Z (hl.D 0 155 Y Y) (hl.D 4 159 Y Y)) λv w' hp=>⟨g,λ_ _=>rfl,λe=>(by cases e),True.intro,hp.2⟩,U⟩
         clear a w h
         intro _
         dsimp only[List.map]
         refine nx (ak tb V [1,2,3,4,5,6,7,8,1001] U2 U9 ?_)
         refine cj 8 ?_ ?_<;>intro io
         ·
          try simp at io
          refine ak tb V [1000] [_] [_] ?_
          refine tw cp (tw cp ?_)
          refine tw d8 (tw d8 ?_)
          refine tw cp (tw cp ?_)
          refine tw cp (tw rZ ?_)
          exact tw cp (aZ (λa w h=>oS (dt (m:=0) (.inr ⟨(s3.1.1,(du s3.1.2.1 q),s3.1.2.2.1.take q,gM s3.1.2.2.2 (G ((G gf.aa q).ac) 1)),by first | exact Nat.le_of_eq hq.symm | (simp only[length_take];omega)⟩) Y h Y Y)))
         ·
          exact False.elim (by simp at io)
        ·
         refine aj (nx (ak tb V [1,2,3,4,5,6,7,8,1001] U2 U9 ?_))
         refine cj 8 ?_ ?_<;>intro io
         ·
          try simp at io
          refine ak tb V [1000] [_] [_] ?_
          refine tw cp (tw cp ?_)
          refine tw gN (tw gN ?_)
          refine tw cp (tw cp ?_)
          refine tw cp (tw cp ?_)
          exact tw cp (aZ (λa w h=>oS (dt (m:=0) (.inr ⟨(s3.1.1,(du s3.1.2.1 q),s3.1.2.2.1.take q,s3.1.2.2.2),by first | exact Nat.le_of_eq hq.symm | (simp only[length_take];omega)⟩) Y h Y Y)))
         ·
          exact False.elim (by simp at io)
       dsimp only[List.map,pn]
       have ez:=z4.2
       refine ao 1 tb (env':=[(20,_),(149,_),(148,_),(146,_),(11,_),(2,_),(0,_),(4,_),(6,_),(10,_),(13,_),(18,_)]) Y (aA [0,4,5,6,7,8,9,10,11] U9 Y ?_)
       refine nx (tw gx (tw (λh=>map_take▸BQ (m:=q) (by rw[length_map];exact az) h) ?_))
       refine aL (sy (.lit z4.1.2.2.1) (λh=>cg iG Y (aH h.x (mo 6 Y)) (h.get 4 Y) Y h.x) ?_)
       refine ao 1 tb (env':=[(151,_),(150,_),(20,_),(11,_),(2,_),(0,_),(4,_),(6,_),(10,_),(13,_),(18,_)]) Y (sy (.lit (du z4.1.2.2.1 q)) (λh=>qt (m:=q) dc Y (aH h.x (mo 0 Y)) (by first | rfl | (rw[length_map];exact az)) (h.get 1 Y) (h.get 0 Y) h.x) ?_)
       refine kw gx (gz (b:=ba) (off:=0) (es:=[_]) V hJ0 qz Y Y Y (lb Y) Y (λa w h=>⟨(h.get 7 Y),(h.get 0 Y)⟩) ?_)
       refine aA [3,4,5,6,7,8,9,10,11] U9 Y (nx (af (ak tb V (r9 [1001]) U2 fw ?_)))
       refine cj 9 ?_ ?_<;>intro g5<;>try simp at g5
       ·
        have e3:(G gf.aa q).ac.length=2:=hT.fl _ (aC oz) g5
        refine tw gN (λa w h=>k6 (OB.var ba [.lit (du z4.1.2.2.1 q)]::OB.row (du z4.1.2.2.1 q) 3 1 (((al++([((sA+n:Nat):Int)])).take q).map bT)::OB.var bb [.lit (.map (some mb))]::OB.pt bf of (aY gf)::OB.pt bj oj [.ptr (jC d i ss ts M)]::OB.pt bs os [lI (step:Int)]::OB.var bY [.lit (.func (.yield l) #[] #[])]::OB.var bt [.lit (eV bb bf of bj oj bs os ba bY bt)]::(I z4.1.1 z4.1.2.1++R)) (γ:=Unit) (λix'=>([.lit (.map (some mb)),.ptr [ai ((G gf.aa q).ac)],.rd (ai ((G gf.aa q).ac)),.ptr [lS (G ((G gf.aa q).ac) 1)],.str (G ((G gf.aa q).ac) 1),.any]:List AV).getD ix' .any) (λ_=>true) [(20,λ_=>.bool true),(11,λ_=>.ptr (aN (G gf.aa q))),(2,λ_=>.ptr [.ptr (jC d i ss ts M)]),(0,λ_=>.at bb 0),(4,λ_=>.at ba 0),(6,λ_=>.at bt 0),(10,λ_=>.int (q:Nat)),(13,λ_=>.int (sB:Nat)),(18,λ_=>.int (sA+n:Nat))] (λ(b:List Bool) (g:Unit)=>(bif b.getD 0 false then [OB.map aB cC mb (gM z4.1.2.2.2 (G ((G gf.aa q).ac) 1))]else [OB.map aB cC mb z4.1.2.2.2])++(OB.var ba [.lit (du z4.1.2.2.1 q)]::OB.row (du z4.1.2.2.1 q) 3 1 (((al++([((sA+n:Nat):Int)])).take q).map bT)::OB.var bb [.lit (.map (some mb))]::OB.pt bf of (aY gf)::OB.pt bj oj [.ptr (jC d i ss ts M)]::OB.pt bs os [lI (step:Int)]::OB.var bY [.lit (.func (.yield l) #[] #[])]::OB.var bt [.lit (eV bb bf of bj oj bs os ba bY bt)]::(I z4.1.1 z4.1.2.1++R))) (λ_ _=>undef) [5] () (λ_=>Y) h V cP Y Y Y Y (λb g p hp=>(mem_append_right _ hp)) ⟨λ_ O' cf=>⟨Y,λ_ _ _ Z hl _=>cg rV Y (aH Z (cf _ (mo 2 Y))) (hl.env 3 0 _ Y Y) Y Z⟩,oX Y λZ hl=>ca lO Y (hl.env 1 11 _ Y Y) Z,oX Y λZ hl=>bU ia Y (hl.D 1 156 Y Y) Z,?_,oX Y λZ hl=>bU fd Y (hl.D 3 158 Y Y) Z,bB Y,U⟩ ⟨?L5,U⟩ ⟨.old 0 20 _,.old 1 11 _,.old 2 2 _,.old 3 0 _,.old 4 4 _,.old 5 6 _,.old 6 10 _,.old 7 13 _,.old 8 18 _,U⟩ ?Xv)
        exact oX Y λZ hl=>cb (i:=((1:Nat):Int)) bx Y (hl.D 2 157 Y Y) (Rel.aG (.int .i64 1)) bM (cq (xs:=(G gf.aa q).ac) (k:=1) az) Y Z
        case L5=>exact ew [[false]] yq Y Y Y Y ⟨λg _ w hk Z hl _=>bC (DA rO V hJ0 (G ((G gf.aa q).ac) 1) Y hk Z (hl.D 0 155 Y Y) (hl.D 4 159 Y Y)) λv w' hp=>⟨g,λ_ _=>rfl,λe=>(by cases e),True.intro,hp.2⟩,U⟩
        clear a w h
        intro _
        dsimp only[List.map]
        refine nx (ak tb V [1,2,3,4,5,6,7,8,1001] U2 U9 ?_)
        refine cj 8 ?_ ?_<;>intro io
        ·
         exact False.elim (by simp at io)
        ·
         try simp at io
         refine tw (A0 (congrArg (λz'=>OB.row (du z4.1.2.2.1 q) 3 1 ((z').map bT)) (show((al++([((sA+n:Nat):Int)])).take q)=al from IB hq))) (aj (nx (aT tb V (r7 [1002]) [_,.int (sA+n+1:Nat),_] [1] U8 Y ⟨aM,U⟩ ?_)))
         refine kw cp (kw cp ?_)
         refine kw d8 (kw d8 ?_)
         refine kw cp (kw cp ?_)
         refine kw cp (kw rZ ?_)
         exact kw cp (bq ((n+1),gM z4.1.2.2.2 (G ((G gf.aa q).ac) 1),(du z4.1.2.2.1 q),z4.1.1,z4.1.2.1) (r8 []) ⟨oz,by first | (rw[sj ho];exact ah) | exact(od (j:=(⟨d,i,ss,ts,mm⟩:Jb)) ah bp lP Y ho ez).1,by first | (rw[sj ho];exact bp) | exact(if_pos g5).symm.trans (od (j:=(⟨d,i,ss,ts,mm⟩:Jb)) ah bp lP Y ho ez).2 | exact(if_neg (by simp[g5])).symm.trans (od (j:=(⟨d,i,ss,ts,mm⟩:Jb)) ah bp lP Y ho ez).2⟩)
       ·
        refine aj (nx (ak tb V [1,2,3,4,5,6,7,8,1001] U2 U9 ?_))
        refine cj 8 ?_ ?_<;>intro io
        ·
         exact False.elim (by simp at io)
        ·
         try simp at io
         refine tw (Gg (congrArg (λz'=>OB.row (du z4.1.2.2.1 q) 3 1 ((z').map bT)) (show((al++([((sA+n:Nat):Int)])).take q)=al from IB hq))) (aj (nx (aT tb V (r7 [1002]) [_,.int (sA+n+1:Nat),_] [1] U8 Y ⟨aM,U⟩ ?_)))
         refine kw cp (kw cp ?_)
         refine kw gN (kw gN ?_)
         refine kw cp (kw cp ?_)
         refine kw cp (kw cp ?_)
         exact kw cp (bq ((n+1),z4.1.2.2.2,(du z4.1.2.2.1 q),z4.1.1,z4.1.2.1) (r8 []) ⟨oz,by first | (rw[sj ho];exact ah) | exact(od (j:=(⟨d,i,ss,ts,mm⟩:Jb)) ah bp lP Y ho ez).1,by first | (rw[sj ho];exact bp) | exact(if_pos g5).symm.trans (od (j:=(⟨d,i,ss,ts,mm⟩:Jb)) ah bp lP Y ho ez).2 | exact(if_neg (by simp[g5])).symm.trans (od (j:=(⟨d,i,ss,ts,mm⟩:Jb)) ah bp lP Y ho ez).2⟩)
    ·
     refine aW (nx (ak tb V [1000] [_] [_] ?_))
     exact aZ (λa w h=>oS (dt (m:=0) (.inl ⟨(pre,kk,wa,M2),by first | exact uG (j:=(⟨d,i,ss,ts,mm⟩:Jb)) (pre:=dw) hb1 | exact uE (j:=(⟨d,i,ss,ts,mm⟩:Jb)) (pre:=dw) hb1 oz hG | exact sm (j:=(⟨d,i,ss,ts,mm⟩:Jb)) (pre:=dw) hb1 oz hG | exact uF (j:=(⟨d,i,ss,ts,mm⟩:Jb)) (pre:=dw) hb1 oz (uy aE bh bV) | exact uD (j:=(⟨d,i,ss,ts,mm⟩:Jb)) (pre:=dw) hb1 oz rp oz ah bp⟩) Y h Y Y))
theorem S0 {S:Nat->Prop} {w0:World} (hS:∀ b,w0.heap.size<=b->S b) (hJ0:J w0) {l:Nat} {κ μ σ:Type} {I:List (List Int)->κ->List OB} {pv:μ->Value} {O3:μ->List OB} {O4:σ->List OB} (bb mb:Nat) (bf of:Nat) (bj oj:Nat) (bs os:Nat) (ba bY bt:Nat) (d:Db) (i:Nat) (ss:List Stp) (ts:List (List BA)) (M:Nat) (mm:List (BA×Int)) (gf:Fr) (step:Nat) (xs:List (List Int)) (hH:Has [OB.mI M mm] S w0) (hY:yj prog J S w0 l (λx9=>[.rd (bS x9)]) xs I pv O3 O4) (hT:lH (⟨d,i,ss,ts,mm⟩:Jb) gf step):
 ∀(n q:Nat) (pre':List (List Int)) (k':κ) (oe:Value) (M':BM) (al':List Int),gf.aa.length-q=n->al'.length=q->q<=gf.aa.length->(∀ x'∈al',0<=x'/\x'< (step:Int))->fJ gf.aa M'->pre'++(ek (⟨d,i,ss,ts,mm⟩:Jb) gf step q M' al').1<+:xs->qQ (ι:= { q':List (List Int)×κ×Value×BM // q'.1=pre'++(ek (⟨d,i,ss,ts,mm⟩:Jb) gf step q M' al').1/\q'.2.2.2=(ek (⟨d,i,ss,ts,mm⟩:Jb) gf step q M' al').2 } ⊕ { q':σ×Value×List Int×BM // q<=q'.2.2.1.length }) prog J S w0 102 [.at bb 0,.at bf of,.at bj oj,.at bs os,.at ba 0,.at bY 0,.at bt 0] (OB.var bb [.lit (.map (some mb))]::OB.map aB cC mb (M')::OB.pt bf of (aY gf)::OB.pt bj oj [.ptr (jC d i ss ts M)]::OB.pt bs os [lI (step:Int)]::OB.var ba [.lit (oe)]::OB.row oe 3 1 ((al').map bT)::OB.var bY [.lit (.func (.yield l) #[] #[])]::OB.var bt [.lit (eV bb bf of bj oj bs os ba bY bt)]::I (pre') k') (λi'=>.bool i'.isLeft) (pn (λz'=>OB.var bb [.lit (.map (some mb))]::OB.map aB cC mb (z'.1.2.2.2)::OB.pt bf of (aY gf)::OB.pt bj oj [.ptr (jC d i ss ts M)]::OB.pt bs os [lI (step:Int)]::OB.var ba [.lit (z'.1.2.2.1)]::OB.row z'.1.2.2.1 3 1 ((al').map bT)::OB.var bY [.lit (.func (.yield l) #[] #[])]::OB.var bt [.lit (eV bb bf of bj oj bs os ba bY bt)]::I z'.1.1 z'.1.2.1) λs'=>OB.var bb [.lit (.map (some mb))]::OB.map aB cC mb (s'.1.2.2.2)::OB.pt bf of (aY gf)::OB.pt bj oj [.ptr (jC d i ss ts M)]::OB.pt bs os [lI (step:Int)]::OB.var ba [.lit (s'.1.2.1)]::OB.row s'.1.2.1 3 1 ((s'.1.2.2.1).map bT)::OB.var bY [.lit (.func (.yield l) #[] #[])]::OB.var bt [.lit (eV bb bf of bj oj bs os ba bY bt)]::O4 s'.1.1) pv O3:=by
 intro n
 induction n with
 | zero=>
  intro q pre k va Mb al hn hq wy kT hM hp
  exact G2 V hS hJ0 bb mb bf of bj oj bs os ba bY bt d i ss ts M mm gf step va xs q Mb al hH hY pre k hT hq wy kT hM hp λpre' k' oe M' al' _ h2=>absurd h2 oz
 | succ n ih=>
  intro q pre k va Mb al hn hq wy kT hM hp
  exact G2 V hS hJ0 bb mb bf of bj oj bs os ba bY bt d i ss ts M mm gf step va xs q Mb al hH hY pre k hT hq wy kT hM hp λpre' k' oe M' al' h1 h2 h3 h4 h5=>ih (q+1) pre' k' oe M' al' oz h1 h2 h3 h4 h5
theorem Sr (d:Db) (i:Nat) (ss:List Stp) (ts:List (List BA)) (M:Nat) (mm:List (BA×Int)) (gf:Fr) (step:Nat) (hT:lH (⟨d,i,ss,ts,mm⟩:Jb) gf step):mh prog J 101 [OB.mI M mm] [.ptr (aY gf),.ptr [.ptr (jC d i ss ts M)],.ptr [lI (step:Int)]] (λx9=>[.rd (bS x9)]) (oA (⟨d,i,ss,ts,mm⟩:Jb) gf step) (none):=by
 refine vV (N:=12) func101 Y Y (lb Y) λS w0 R l κ μ σ I pv O3 O4 k0 hS hJ0 hH hY=>?_
 refine gQ (B:=So J S w0 12 (I ([]) k0++R) [(0,.rd (.lit (.func (.yield l) #[] #[]))),(1,.ptr (aY gf)),(2,.ptr [.ptr (jC d i ss ts M)]),(3,.ptr [lI (step:Int)])]) ?_ λa w h=>h
 refine aL (UT (c:=.lit (.func (.yield l) #[] #[])) V Y Y Y (lb Y) (λa w h=>(h.get 0 Y)) λb1=>?_)
 refine aA [0,2,3,4] U4 Y (nx (aL ?_))
 refine qD aB cC V Y Y Y (lb Y) λm2=>?_
 refine cz Wc V Y Y Y (lb Y) λb3=>?_
 refine gz (b:=b3) (off:=0) (es:=[_]) V hJ0 UI Y Y Y (lb Y) Y (λa w h=>⟨(h.get 0 Y),(h.get 1 Y)⟩) ?_
 refine aA [0,2,3,4,5] U5 Y (nx (tw (iK 3 1 V) ?_))
 refine aL (cz Wf V Y Y Y (lb Y) λb4=>?_)
 refine aA (r6 []) U6 Y (nx (aL ?_))
 refine cz Wg V Y Y Y (lb Y) λb5=>?_
 refine aA (r7 []) U7 Y (nx (xM (m:=6) Y λbs os=>?_))
 refine xM (m:=6) Y λbj oj=>?_
 refine xM (m:=6) Y λbf of=>?_
 refine aL (sy (.lit (.func (.func 102) #[] #[.pointer (some ⟨b3,0,none⟩),.pointer (some ⟨bf,of,none⟩),.pointer (some ⟨bj,oj,none⟩),.pointer (some ⟨bs,os,none⟩),.pointer (some ⟨b4,0,none⟩),.pointer (some ⟨b1,0,none⟩),.pointer (some ⟨b5,0,none⟩)])) (λh=>HD (caps:=[(.tmp 5),(.tmp 1),(.tmp 2),(.tmp 3),(.tmp 6),(.tmp 4),(.tmp 7)]) Y (map_cons (h.get 5 Y).lit (map_cons (h.get 0 Y).lit (map_cons (h.get 1 Y).lit (map_cons (h.get 2 Y).lit (map_cons (h.get 4 Y).lit (map_cons (h.get 6 Y).lit (map_cons (h.get 3 Y).lit map_nil))))))) h.x) ?_)
 refine kw gN (gz (b:=b5) (off:=0) (es:=[_]) V hJ0 UL Y Y Y (lb Y) Y (λa w h=>⟨(h.get 4 Y),(h.get 0 Y)⟩) ?_)
 refine aA [4] [_] Y (nx (cG (sq (.lit (.func (.func 102) #[] #[.pointer (some ⟨b3,0,none⟩),.pointer (some ⟨bf,of,none⟩),.pointer (some ⟨bj,oj,none⟩),.pointer (some ⟨bs,os,none⟩),.pointer (some ⟨b4,0,none⟩),.pointer (some ⟨b1,0,none⟩),.pointer (some ⟨b5,0,none⟩)])) Y Y (lb Y) (λ_ _ h=>cg Gs Y (aH h.x (mo 0 Y)) (h.get 0 Y) Y h.x) ?_)))
 refine kw cp (kw gx ?_)
 refine kw gx (kw gx ?_)
 refine kw gx (kw gx ?_)
 refine kw cp (kw cp ?_)
 refine Il (O:=(OB.var b3 [.lit (.map (some m2))]::OB.map aB cC m2 ([]:List (BA×List BA))::OB.pt bf of (aY gf)::OB.pt bj oj [.ptr (jC d i ss ts M)]::OB.pt bs os [lI (step:Int)]::OB.var b4 [.lit (.slice none 0 0)]::OB.row (.slice none 0 0) 3 1 (([]:List Int).map bT)::OB.var b1 [.lit (.func (.yield l) #[] #[])]::OB.var b5 [.lit (.func (.func 102) #[] #[.pointer (some ⟨b3,0,none⟩),.pointer (some ⟨bf,of,none⟩),.pointer (some ⟨bj,oj,none⟩),.pointer (some ⟨bs,os,none⟩),.pointer (some ⟨b4,0,none⟩),.pointer (some ⟨b1,0,none⟩),.pointer (some ⟨b5,0,none⟩)])]::I ([]) k0)) (R:=R) [] [.pointer (some ⟨b3,0,none⟩),.pointer (some ⟨bf,of,none⟩),.pointer (some ⟨bj,oj,none⟩),.pointer (some ⟨bs,os,none⟩),.pointer (some ⟨b4,0,none⟩),.pointer (some ⟨b1,0,none⟩),.pointer (some ⟨b5,0,none⟩)] [.at b3 0,.at bf of,.at bj oj,.at bs os,.at b4 0,.at b1 0,.at b5 0] (S0 V hS hJ0 b3 m2 bf of bj oj bs os b4 b1 b5 d i ss ts M mm gf step (oA (⟨d,i,ss,ts,mm⟩:Jb) gf step) hH hY hT gf.aa.length 0 [] k0 (.slice none 0 0) [] [] oz Y aI yz JY (List.prefix_refl _)) (cO func102) Y Y Y (lb Y) (λa w h=>(h.get 0 Y).lit) (λa w h=>aP) (λw=>(aq (Rel.aG _) (aq (Rel.aG _) (aq (Rel.aG _) (aq (Rel.aG _) (aq (Rel.aG _) (aq (Rel.aG _) (aq (Rel.aG _) aP)))))))) (λq=>wG q) (λs6=>?_) (λz7=>?_)
 ·
  dsimp only[List.map,pn]
  refine aA [] [] Y (kw cR ?_)
  refine kw cR (kw cR ?_)
  refine kw cR (kw cR ?_)
  refine kw cR (kw cR ?_)
  refine kw cR (kw cR ?_)
  exact λa w h=>wH s6.1.1 Y h
 dsimp only[List.map,pn]
 have ez:=z7.2
 refine aA [] [] Y (kw cR ?_)
 refine kw cR (kw cR ?_)
 refine kw cR (kw cR ?_)
 refine kw cR (kw cR ?_)
 refine kw cR (kw cR ?_)
 exact λa w h=>wF (Y) (ez.1) z7.1.2.1 Y h
theorem Sq (d:Db) (i:Nat) (ss:List Stp) (ts:List (List BA)) (M:Nat) (gf:Fr) (step:Nat)  :Fn prog J 76 [.ptr (jC d i ss ts M),.agg (aY gf),.int (step:Nat)] (.fn 101 [.ptr (aY gf),.ptr [.ptr (jC d i ss ts M)],.ptr [lI (step:Int)]]):=by
 refine fE func76 λS w0 hS hJ0=>?_
 clear hJ0
 refine aJ tb V [1000,1001,1002] [.ptr [.ptr (jC d i ss ts M)],.ptr (aY gf),.ptr [lI (step:Int)],_] [0,1,2] U3 Y ⟨λ_ _ hk Z hl _=>xd Y (hl.env 0 0 _ Y Y) (hS _ hk.size) (js V Z),ej hS V,λ_ _ hk Z hl _=>k4 Y (hl.env 2 2 _ Y Y) (hS _ hk.size) (js V Z),U⟩ ?_
 refine aJ tb V [1001] [.fn 101 [.ptr (aY gf),.ptr [.ptr (jC d i ss ts M)],.ptr [lI (step:Int)]],_] [0] [_] Y ⟨λ_ _ _ Z hl _=>k5 (caps:=[(.tmp 4),(.tmp 3),(.tmp 5)]) Y (aq (hl.env 1 4 _ Y Y) (aq (hl.env 0 3 _ Y Y) (aq (hl.env 2 5 _ Y Y) aP))) Z,U⟩ ?_
 exact aU 0 (hE:=Y)
end
end
section
section
variable {j:Jb} {g:Fr} {step:Nat}
theorem II (hm:∀ s z,aw j.M s=some z->0<=z):∀(hs:List Hy) (M:BM) (al:List Int),(jp j g step hs M al).1.length<=step^hs.length
 | [],M,al=>by
  rw[jp];split
  · split<;>simp
  · simp
 | y::hs,M,al=>by
  rw[jp]
  split
  · have key:∀(l:List Nat) (q:List (List Int)×BM),(l.foldl (jY (jp j g step hs) j y al) q).1.length<=q.1.length+l.length*step^hs.length:=by
     intro l
     induction l with
     | nil=>intro q;simp
     | cons t l ih=>
      intro q
      rw[foldl_cons]
      refine Nat.le_trans (ih _) ?_
      have:(jY (jp j g step hs) j y al q t).1.length<=q.1.length+step^hs.length:=by
       unfold jY
       split
       · simp only[length_append]
         exact Nat.add_le_add_left (II hm hs _ _) _
       · exact Nat.le_add_right _ _
      rw[length_cons,Nat.add_mul]
      omega
    refine Nat.le_trans (key _ _) ?_
    have h1:=Ik (j:=j) (hs:=g.aa) (step:=step) (h:=y) (M:=M) hm
    simp only[List.length_nil,Nat.zero_add,List.length_range',length_cons,Nat.pow_succ]
    rw[Nat.mul_comm (step^hs.length)]
    exact Nat.mul_le_mul_right _ oz
  · simp
theorem Di (hm:∀ s z,aw j.M s=some z->0<=z):(oA j g step).length<=step^g.aa.length:=by
 have:=II (g:=g) (step:=step) hm g.aa [] []
 simpa [oA,ek]using this
theorem G6 {n m:Nat} (hn:n<=16) (hm:m<=4):n^m<=65536:=by
 have h1:n^m<=16^m:=Nat.pow_le_pow_left hn _
 have h2:16^m<=16^4:=Nat.pow_le_pow_right dz hm
 have:(16:Nat)^4=65536:=by decide
 omega
theorem NI (hm:∀ s z,aw j.M s=some z->0<=z) (hs:step<=16):(nD j step g).length<=65536:=by
 unfold nD
 split
 · simp
 · rw[length_map]
   exact Nat.le_trans (Di hm) (G6 hs oz)
theorem Ey (hm:∀ s z,aw j.M s=some z->0<=z) (hs:step<=16):∀(fs:List Fr),(fs.flatMap (nD j step)).length<=fs.length*65536
 | []=>by simp
 | f::fs=>by
  rw[List.flatMap_cons,length_append,length_cons,Nat.add_mul,Nat.one_mul,Nat.add_comm]
  exact Nat.add_le_add (Ey hm hs fs) (NI hm hs)
theorem UD:(n8 j step).length<=1:=by unfold n8;split<;>simp
def kO (j:Jb) (step q:Nat):List cd:=(n8 j step++(j.d.ab.take q).flatMap (nD j step)).filterMap (fT j.ss)
theorem Dl:kO j step 0=(n8 j step).filterMap (fT j.ss):=by simp[kO]
theorem K1 {q:Nat} (h:q<j.d.ab.length):kO j step (q+1)=kO j step q++(nD j step (G j.d.ab q)).filterMap (fT j.ss):=by
 unfold kO
 rw[List.take_add_one,List.getElem?_eq_getElem h,<-cV h]
 simp[List.filterMap_append,List.flatMap_append]
theorem K0 (hm:∀ s z,aw j.M s=some z->0<=z) (hs:step<=16) {q:Nat} (hq:q<=16):(kO j step q).length<=2000000:=by
 refine Nat.le_trans (List.length_filterMap_le _ _) ?_
 rw[length_append]
 have h1:=UD (j:=j) (step:=step)
 have h2:=Ey hm hs (j.d.ab.take q)
 have h3:(j.d.ab.take q).length<=16:=by rw[length_take];omega
 have h4:(j.d.ab.take q).length*65536<=16*65536:=Nat.mul_le_mul_right _ h3
 omega
theorem Nt {α β:Type} {f:α->Option β} {l:List α} {x:α}:(l++[x]).filterMap f=l.filterMap f++(f x).toList:=by
 rw[List.filterMap_append]
 congr 1
end
theorem NQ {i j:Nat} {α:Type} [Inhabited α] {l:List α} (h:j<i):G (l.take i) j=G l j:=by
 simp only[G,List.getD_eq_getElem?_getD,List.getElem?_take]
 rw[if_pos h]
structure lG (j:Jb):Prop where
 ok:et j.ss
 PX:j.ss.length<=16
 len:j.ts.length=j.ss.length
 ts:∀ t∈j.ts,(1<=t.length/\t.length<=2000)/\∀ s∈t,s.size<=60
 m1:∀ s z,aw j.M s=some z->0<=z/\z< (j.ts.length:Int)
 m2:∀ i,i<j.ts.length->(aw j.M (cn (G j.ts i))).isSome=true
 f16:j.d.ab.length<=16
 hi:j.i<j.d.ab.length
 wd:(G j.d.ab j.i).wide.length*32<=140737488351232
 fl:∀ g∈j.d.ab,∀ h∈g.aa,h.be=true->h.ac.length=2
 tx:∀ g∈j.d.ab,∀ h∈g.aa,1<=h.ac.length/\∀ s∈h.ac,s.size<=60
 gh:∀ g∈j.d.ab,g.aa.length<=2000
section
variable {j:Jb} {g:Fr} {step:Nat}
theorem lG.try (h:lG j) (hg:g∈j.d.ab) (hs:step<j.ss.length):lH j g step:=
 ⟨h.fl g hg,h.tx g hg,h.ts,by rw[h.len];exact hs,h.m1,h.m2,h.gh g hg,h.hi,h.wd⟩
theorem lG.m0 (h:lG j):∀ s z,aw j.M s=some z->0<=z:=λs z e=>(h.m1 s z e).1
theorem lG.fst (h:lG j) (hs:step<j.ss.length):0<=(aw j.M (cn (G j.ts step))).getD default/\(aw j.M (cn (G j.ts step))).getD default< (j.ss.length:Int)/\(aw j.M (cn (G j.ts step))).getD 0=(aw j.M (cn (G j.ts step))).getD default:=by
 obtain⟨z,hz⟩:=Option.isSome_iff_exists.1 (h.m2 step (by rw[h.len];exact hs))
 rw[hz]
 have:=h.m1 _ _ hz
 rw[h.len]at this
 exact⟨this.1,this.2,rfl⟩
end
end
section
open Go.RowKit
def OB.iy (Ds:List Nat):OB where
 blk:=λk=>k∈Ds
 inv:=λlo _ w=>Ds.Nodup/\∀ D∈Ds,lo<=D/\D<w.heap.size/\w.heap[D]?=some (.deferred (some []))
 mv:=λ⟨h0,h⟩ hk hb _=>⟨h0,λD hD=>⟨(h D hD).1,by have:=hk.size;have:=(h D hD).2.1;omega,(hk.block _ (h D hD).2.1 (hb _ hD)).trans (h D hD).2.2⟩⟩
 lt:=λ⟨_,h⟩ k hk=>⟨(h k hk).1,(h k hk).2.1⟩
section
variable {N:Nat} {J:WP} {S:Nat->Prop} {O:List OB} {w0:World} {env:List (Nat×AV)} {a:Act} {w:World} {D:Nat} {Ds:List Nat}
theorem xw {k:Nat}:SO S (OB.iy (D::Ds)::O) k↔SO S (OB.iy Ds::OB.fD D::O) k:=by
 constructor
 · refine λh=>⟨h.1,λp hp=>?_⟩
   have h1:¬ k∈D::Ds:=h.2 (OB.iy (D::Ds)) yz
   rcases mem_cons.1 hp with rfl | hp
   · exact λe=>h1 (mem_cons_of_mem _ e)
   · rcases mem_cons.1 hp with rfl | hp
     · exact λ(e:k=D)=>h1 (by simp[e])
     · exact h.2 p (mem_cons_of_mem _ hp)
 · refine λh=>⟨h.1,λp hp=>?_⟩
   rcases mem_cons.1 hp with rfl | hp
   · intro(e:k∈D::Ds)
     rcases mem_cons.1 e with rfl | e
     · exact h.2 (OB.fD k) yz rfl
     · exact h.2 (OB.iy Ds) yz e
   · exact h.2 p (mem_cons_of_mem _ (mem_cons_of_mem _ hp))
theorem Va (h:So J S w0 N (OB.iy Ds::OB.fD D::O) env a w):So J S w0 N (OB.iy (D::Ds)::O) env a w:=by
 have hp:=List.pairwise_cons.1 h.x.2.2
 have hp2:=List.pairwise_cons.1 hp.2
 obtain⟨g0,g⟩:=h.x.2.1 (OB.iy Ds) yz
 obtain⟨g1,g2,g3⟩:=h.x.2.1 (OB.fD D) yz
 refine⟨h.defs,h.size,h.keep,⟨h.x.1,λp hq=>?_,.cons (λp hq k hk=>?_) hp2.2⟩,λp hq=>⟨(h.env p hq).1,(h.env p hq).2.sub λ_ _ hk=>xw.2 hk⟩⟩
 · rcases mem_cons.1 hq with rfl | hq
   · refine⟨List.nodup_cons.2 ⟨λhm=>hp.1 (OB.fD D) yz D hm rfl,g0⟩,λD' hD=>?_⟩
     rcases mem_cons.1 hD with rfl | hD
     · exact⟨g1,g2,g3⟩
     · exact g D' hD
   · exact OB.sub (h.x.2.1 p (mem_cons_of_mem _ (mem_cons_of_mem _ hq))) λ_ _ hk=>xw.2 hk
 · rcases mem_cons.1 hk with rfl | hk
   · exact hp2.1 p hq k rfl
   · exact hp.1 p (mem_cons_of_mem _ hq) k hk
theorem Vb (h:So J S w0 N (OB.iy (D::Ds)::O) env a w):So J S w0 N (OB.fD D::OB.iy Ds::O) env a w:=by
 have hp:=List.pairwise_cons.1 h.x.2.2
 obtain⟨g0,g⟩:=h.x.2.1 (OB.iy (D::Ds)) yz
 have g1:=List.nodup_cons.1 g0
 refine oc (.swap _ _ _) ⟨h.defs,h.size,h.keep,⟨h.x.1,λp hq=>?_,.cons (λp hq k hk=>?_) (.cons (λp hq k hk=>hp.1 p hq k (by rw[show k=D from hk];exact List.mem_cons_self)) hp.2)⟩,λp hq=>⟨(h.env p hq).1,(h.env p hq).2.sub λ_ _ hk=>xw.1 hk⟩⟩
 · rcases mem_cons.1 hq with rfl | hq
   · exact⟨g1.2,λD' hD=>g D' (mem_cons_of_mem _ hD)⟩
   · rcases mem_cons.1 hq with rfl | hq
     · exact g D yz
     · exact OB.sub (h.x.2.1 p (mem_cons_of_mem _ hq)) λ_ _ hk=>xw.1 hk
 · rcases mem_cons.1 hq with rfl | hq
   · exact λe=>g1.1 (by rw[<-show k=D from e];exact hk)
   · exact hp.1 p hq k (mem_cons_of_mem _ hk)
theorem U1 (h:So J S w0 N O env a w):So J S w0 N (OB.iy []::O) env a w:=by
 have hs:∀ k,SO S O k->SO S (OB.iy []::O) k:=λk hk=>⟨hk.1,λq hq=>by
  rcases mem_cons.1 hq with rfl | hq
  · exact λe=>(by cases e)
  · exact hk.2 q hq⟩
 refine⟨h.defs,h.size,h.keep,⟨h.x.1,λq hq=>?_,.cons (λ_ _ _ e=>by cases e) h.x.2.2⟩,λq hq=>⟨(h.env q hq).1,(h.env q hq).2.sub λk _=>hs k⟩⟩
 rcases mem_cons.1 hq with rfl | hq
 · exact⟨.nil,λD hD=>by cases hD⟩
 · exact OB.sub (h.x.2.1 q hq) λk _=>hs k
end
section
variable {P:Program} {fid:FuncId} {Q:Exit->Act->WP} {a:Act} {w:World} {A:Act->WP}
theorem JH {ι:Type} {c:Code} (I:ι->Act->WP) (μ:ι->Nat) (h:∀ i a w,I i a w->Code.f7 fid P c (Exit.then (λa' w'=>∃ j,I j a' w'/\μ j<μ i) Q) a w) (i0:ι) (h0:I i0 a w):Code.f7 fid P (.loop c) Q a w:=by
 intro b k cs hro hb
 have key:∀ m a w i,μ i=m->I i a w->
  ∃ e a' w',Q e a' w'/\ArrivesIn (Machine.fenced P Fence.wide) P (lone (b.atR a (.code c:: .inLoop c::k)) cs w) b k cs e a' w':=by
  intro m
  induction m using Nat.strongRecOn with
  | _ m ih=>
   intro a w i hn hI
   obtain⟨e,a₁,w₁,hq,harr⟩:=h i a w hI b (.inLoop c::k) cs hro hb
   cases e with
   | normal=>
    obtain⟨j,hj,hlt⟩:=hq
    obtain⟨e₂,a₂,w₂,hq₂,harr₂⟩:=ih (μ j) (hn▸hlt) a₁ w₁ j rfl hj
    exact⟨e₂,a₂,w₂,hq₂,.of_steps (StepsIn.trans harr (.one (fenced_calm (n:=0) trivial (lD _) rfl) stepR_inLoop)) harr₂⟩
   | exit id=>exact⟨_,a₁,w₁,hq,.pass (x:=.inLoop c) rfl (λ_ _=>.inl yz) harr⟩
   | goto l=>exact⟨_,a₁,w₁,hq,.pass (x:=.inLoop c) rfl (λ_ _=>.inl yz) harr⟩
   | ret=>exact⟨_,a₁,w₁,hq,.pass (x:=.inLoop c) rfl (λ_ _=>.inl yz) harr⟩
   | panic ch=>exact⟨_,a₁,w₁,hq,.pass (x:=.inLoop c) rfl (λ_ _=>.inl yz) harr⟩
   | outgrown=>exact⟨_,a₁,w₁,hq,.pass (x:=.inLoop c) rfl (λ_ _=>.inl yz) harr⟩
 obtain⟨e,a',w',hq,harr⟩:=key _ a w i0 rfl h0
 exact⟨e,a',w',hq,.of_steps (.one (fenced_calm (n:=0) trivial (lD _) rfl) stepR_loop) harr⟩
def ni (fid:FuncId) (ds:List Deferred) (P:Program) (A:Act->WP) (c:Code) (Q:Exit->Act->WP):Prop:=∀ a w,A a w->Code.f7 fid P c Q (phi ds a) w
variable {ds:List Deferred}
theorem sS {m:Nat} {x y:Code} (h:jK (⟨m,none⟩:Rn) ds P A x (Exit.then (λa w=>Code.f7 fid P y Q a w) Q)):ni fid ds P A (.seq x y) Q:=λa w ha=>u6 (yr (h a w ha))
theorem Jy {x y:Code} (h:ni fid ds P A x (Exit.then (λa w=>Code.f7 fid P y Q a w) Q)):ni fid ds P A (.seq x y) Q:=λa w ha=>u6 (h a w ha)
theorem Cz {id:Nat} {c:Code} (h:ni fid ds P A c (Exit.inBlock id Q)):ni fid ds P A (.block id c) Q:=λa w ha=>CF (h a w ha)
theorem t1 {y:Code} (h:ni fid ds P A y Q):∀ a w,A a w->Code.f7 fid P y Q (phi ds a) w:=h
theorem alw {B:Act->WP} {c:Code} (lQ:∀ {a:Act} {w:World},A a w->B a w) (h:ni fid ds P B c Q):ni fid ds P A c Q:=λa w ha=>h a w (lQ ha)
end
section
variable {N:Nat} {P:Program} {J:WP} {S:Nat->Prop} {O:List OB} {w0:World} {env:List (Nat×AV)} {fn:Func} {R:Ending->WP} {a:Act} {w:World} {D:Nat} {fid:FuncId} {Q:Exit->Act->WP} {c:Code}
theorem Qi {ι:Type} (F:ι->Prop) (O':ι->List OB) (E:ι->List (Nat×AV)) (μ:ι->Nat) (ks:List Nat) (eK:List (Nat×AV)) (i0:ι) (h0:F i0)
 (h:∀ i,F i->∀ Ds,ni fid (kz Ds) P (So J S w0 N (OB.iy Ds::O' i) (eK++E i)) c (Exit.then (λa' w=>∃ j,(∃ Ds' a1,a'=phi (kz Ds') a1/\F j/\So J S w0 N (OB.iy Ds'::O' j) (eK++E j) a1 w)/\μ j<μ i) Q)) (hO:O=O' i0:=by exact rfl) (he:ks.map (env[·]?)=(eK++E i0).map some:=by exact rfl):j3 fid P (So J S w0 N O env) (.loop c) Q:=λa w ha=>by
 refine JH (λi a' w=>∃ Ds' a1,a'=phi (kz Ds') a1/\F i/\So J S w0 N (OB.iy Ds'::O' i) (eK++E i) a1 w) μ (λi a w ⟨Ds,a1,e,hF,hs⟩=>e▸h i hF Ds a1 w hs) i0 ⟨[],a,?_,h0,U1 (lz ks he (hO▸ha))⟩
 show a= { a with defers:=a.defers++[] }
 rw[List.append_nil]
theorem FP {ι:Type} {F:ι->Prop} {O':ι->List OB} {E:ι->List (Nat×AV)} {μ:ι->Nat} {m':Nat} {eK:List (Nat×AV)} {Ds:List Nat} (j:ι) (ks:List Nat) (hF:F j) (hm:μ j<m':=by(try dsimp only);first | omega | (simp;omega)) (hO:O=OB.iy Ds::O' j:=by exact rfl) (he:ks.map (env[·]?)=(eK++E j).map some:=by exact rfl):∀ a w,So J S w0 N O env a w->∃ j,(∃ Ds' a1,phi (kz Ds) a=phi (kz Ds') a1/\F j/\So J S w0 N (OB.iy Ds'::O' j) (eK++E j) a1 w)/\μ j<m':=
 λa _ ha=>⟨j,⟨Ds,a,rfl,hF,lz ks he (hO▸ha)⟩,hm⟩
theorem PN {n:Rn} {y:Code} {ι:Type} (F:ι->Prop) (O':ι->List OB) (E:ι->List (Nat×AV)) (h1:Tr n P (So J S w0 N O env) c (Exit.then (λa w=>∃ j,F j/\So J S w0 N (O' j) (E j) a w) Q)) (h2:∀ i,F i->∀ a w,So J S w0 N (O' i) (E i) a w->Exit.then (λa w=>Code.f7 fid P y Q a w) Q .normal a w):Tr n P (So J S w0 N O env) c (Exit.then (λa w=>Code.f7 fid P y Q a w) Q):=
 λa w ha=>wpIn_mono (h1 a w ha) λe a' w' he=>by
  cases e with
  | normal=>obtain⟨j,hF,hs⟩:=he;exact h2 j hF a' w' hs
  | _=>exact he
theorem RC (V:aS J) (hJ0:J w0) (h:∀ a w,So J S w0 N O env a w->bodyPost P fn R .ret a w) (Ds:List Nat):∀ a w,So J S w0 N (OB.iy Ds::O) env a w->bodyPostM Fence.wide 5 P fn R .ret (phi (kz Ds) a) w:=by
 intro a w ha
 show LeavesInM Fence.wide 5 P fn a.tmps R (a.defers++kz Ds) .returning w
 rw[ha.defs]
 show LeavesInM Fence.wide 5 P fn a.tmps R (kz Ds) .returning w
 induction Ds generalizing w with
 | nil=>
  have:=Gy (h a w (cR ha))
  show LeavesInM Fence.wide 5 P fn a.tmps R [] .returning w
  have e:bodyPostM Fence.wide 5 P fn R .ret a w=LeavesInM Fence.wide 5 P fn a.tmps R a.defers .returning w:=rfl
  rw[e,ha.defs]at this
  exact this
 | cons D Ds ih=>
  obtain⟨h1,h2⟩:=Is V hJ0 (Vb ha)
  exact⟨by simp,.inl ⟨D,_,rfl,run_takeDeferred h1,ih _ h2⟩⟩
end
theorem Nu {P:Program} {J:WP} {f:FuncId} {Hs:List OB} {args:List AV} {res:AV} (h:eX (ι:=Unit) P J f Hs args [] (λ_=>res) (λ_=>[])):cM P J f Hs args res:=by
 intro S w vs hS V hH ha
 refine Calls.mono (h S w [] w vs hS V hH (Keeps.refl _ _) (yb V) (ha.sub λk _ hk=>⟨hk,λq hq=>(by cases hq)⟩)) ?_
 rintro e' w' ⟨i,v,he,hv,hk,Z⟩
 exact⟨_,he,hv.sub λk _ hs=>hs.1,hk,Z.1⟩
theorem P9 {J:WP} {S:Nat->Prop} {N:Nat} {P:Program} {w0:World} {O:List OB} {env:List (Nat×AV)} {a:Act} {w:World} {b b2:Nat} {cs cs2:List CD} {t t2:TypeId} {fn:Func} {d m q u:Nat} {k k2:Nat} {cs' Dw:List CD} (hr:fn.results= #[.cell d t,.cell u t2]) (h1:fR P t k) (h2:fR P t2 k2) (h:So J S w0 N (OB.var b cs::OB.var b2 cs2::O) env a w) (he:env[m]?=some (d,.at b 0)) (kU:env[q]?=some (u,.at b2 0)) (hl:cs.length=k) (hl2:cs2.length=k2) (hE:cs=cs') (nF:cs2=Dw):
 bodyPost P fn (λe w'=>∃ v,e= .returned v/\Rel S w' (.bJ [.agg cs',.agg Dw]) v/\Keeps All w0 w'/\J w') .ret a w:=by
 subst hE
 subst nF
 obtain⟨h0,us,e,hb,hrd⟩:=h.x.2.1 (OB.var b cs) yz
 obtain⟨g0,vs,e',gb,grd⟩:=h.x.2.1 (OB.var b2 cs2) yz
 have hd:a.tmps.getD d undef= .pointer (some ⟨b,0,none⟩):=(h.get m he).lit
 have hu:a.tmps.getD u undef= .pointer (some ⟨b2,0,none⟩):=(h.get q kU).lit
 have hrun:=md (P:=P) b 0 w us 0 #[] λj u hj=>by rw[Nat.zero_add];simp[World.cell?,hb,hj]
 rw[show us.length=k by rw[hrd.length,hl]]at hrun
 have Ff:=md (P:=P) b2 0 w vs 0 #[] λj u hj=>by rw[Nat.zero_add];simp[World.cell?,gb,hj]
 rw[show vs.length=k2 by rw[grd.length,hl2]]at Ff
 have hd':a.tmps[d]?.getD undef= .pointer (some ⟨b,0,none⟩):=by rw[<-Array.getD_eq_getD_getElem?];exact hd
 have hu':a.tmps[u]?.getD undef= .pointer (some ⟨b2,0,none⟩):=by rw[<-Array.getD_eq_getD_getElem?];exact hu
 refine⟨h.defs,.tuple #[.agg us.toArray,.agg vs.toArray],by simp[results,hr,hd',hu',asAddr,Sem.run_bind,loadVar,loadCells,h1.1 w,h1.2 w,h2.1 w,h2.2 w,hrun,Ff],_,rfl,?_,h.keep,h.x.1⟩
 simp only[Rel,bd]
 exact⟨_,rfl,_,_,rfl,⟨us,rfl,hrd.sub λ_ _ hk=>hk.1⟩,_,_,rfl,⟨vs,rfl,grd.sub λ_ _ hk=>hk.1⟩,rfl⟩
section
variable {n:Rn} {P:Program} {S:Nat->Prop} {X:WP}
theorem TV (g:Nat->Value):(Array.range 6).map g= #[g 0,g 1,g 2,g 3,g 4,g 5]:=by apply Array.toList_inj.1;simp[List.range_succ]
theorem Un {t e:TypeId} {z:Value} (ht:dx P t e 6) (hz:∀ w,(zeroValue e).run P w= .ok z w) (us:List Value) (hu:us.length=6) (w:World):
 (Instr.buildSlice t 1 #[(0,.agg us.toArray)]).run P w= .ok (.slice (some ⟨w.heap.size,0,none⟩) 1 1) (w.alloc (.cells us.toArray e)):=by
 unfold Instr.buildSlice
 match us,hu with
 | [a,b,c,d,f,g],_=>
  have hc:(Value.agg [a,b,c,d,f,g].toArray).cells= #[a,b,c,d,f,g]:=rfl
  simp[Sem.run_bind,run_underlying ht.1,ht.2 w,hz w,Instr.fill,hc,newRow,newObj,Sem.run,TV]
theorem Tp {cs:List CD} {o:Oper} {a:Act} {w:World} {x:Operand} {t e:TypeId} (ht:dx P t e 6) (hz:j4 P e) (hc:cs.length=6) (hop:o.op= .buildSlice t 1 #[(0,x)]) (h:Rel S w (.agg cs) (a.eval x)) (hS:S w.heap.size) (Z:∀ w',Keeps All w w'->X w'):Does n P o a w (bE S X (.rd (.sl [cs])) w):=by
 obtain⟨z,fV⟩:=hz
 simp only[Rel]at h
 obtain⟨us,hv,hr⟩:=h
 have hk':Keeps All w (w.alloc (.cells us.toArray e)):=(Keeps.refl _ _).alloc _
 refine eh (v:=.slice (some ⟨w.heap.size,0,none⟩) 1 1) (w':=w.alloc (.cells us.toArray e)) ?_ ⟨?_,hk',Z _ hk'⟩
 · have:=Un ht fV us (by rw[hr.length,hc]) w
   rw[execOp,hop]
   simp only[List.map_toArray,List.map_cons,List.map_nil,Sem.run_bind,hv,this]
   rfl
 · simp only[Rel]
   refine Rd.of_cells (n:=6) (us:=us) aV dz yz hS (λr hr=>by simp at hr;subst hr;exact hc) (by simp only[List.flatten_cons,List.flatten_nil,List.append_nil];exact hr.keep hk' λ_ _ _=>trivial) λj u hj=>nq j u hj
end
end
section
open Go.RowKit
theorem Wo:nj prog 37 6:=⟨(#[.int .i64 0,.int .i64 0,.string ⟨#[]⟩,.slice none 0 0,.int .i64 0,.int .i64 0]),Y,by kernel_rfl⟩
theorem Gt:eq prog 42:=nO
theorem sX:dx prog 42 37 6:=eO
theorem WR:j4 prog 37:=⟨.agg #[.int .i64 0,.int .i64 0,.string ⟨#[]⟩,.slice none 0 0,.int .i64 0,.int .i64 0],λw=>by kernel_rfl⟩
theorem JB:jq prog 42 37 6 72:=ov (.agg #[.int .i64 0,.int .i64 0,.string ⟨#[]⟩,.slice none 0 0,.int .i64 0,.int .i64 0]) yq yq Y dz (λw=>by kernel_rfl)
theorem UM:dS prog 42 1:=zO
theorem Wi:f8 prog 42 [.lit (.slice none 0 0)]:=⟨(.slice none 0 0),λw=>by kernel_rfl,λS w=>(show bD S w [.lit (.slice none 0 0)] [.slice none 0 0]from⟨.lit _ True.intro,U⟩)⟩
theorem Wb:f8 prog 134 [.lit .nilFunc]:=⟨(.nilFunc),λw=>by kernel_rfl,λS w=>(show bD S w [.lit .nilFunc] [.nilFunc]from⟨.lit _ True.intro,U⟩)⟩
theorem UH:dS prog 134 1:=zO
theorem Gq:eq prog 134:=nO
theorem CY:ol prog 37 [.int .i64 0,.int .i64 0,.string ⟨#[]⟩,.slice none 0 0,.int .i64 0,.int .i64 0]:=⟨λi=>(#[(0,1),(1,1),(2,1),(3,1),(4,1),(5,1)]:Array (Nat×Nat))[i]?,λj hj=>by rcases j with _ | _ | _ | _ | _ | _ | j<;>first | rfl | (simp at hj;omega) | simp at hj,λparts=>by kernel_rfl⟩
section
variable {J:WP} (V:aS J)
include V
theorem GL (bj oj bo:Nat) (d:Db) (i:Nat) (ss:List Stp) (ts:List (List BA)) (M:Nat) (c:cd) (vo:Value) (xs:List cd) (bv:et ss) (gJ:0<=c.step) (fU:c.step< (ss.length:Int)) (jQ:∀ a∈c.args,0<=a/\a<c.step) (cY:c.args.length<=40) (hc1:c.dQ=2∨1<=c.args.length) (nS:xs.length<=3000000):eX (ι:=Value) prog J 75 [] [.agg (cw c),.at bj oj,.at bo 0] [OB.pt bj oj [.ptr (jC d i ss ts M)],OB.var bo [.lit vo],OB.row vo 37 6 (xs.map cw)] (λ_=>.bJ []) (λi'=>[OB.pt bj oj [.ptr (jC d i ss ts M)],OB.var bo [.lit (i')],OB.row i' 37 6 ((xs++(fT ss c).toList).map cw)]):=by
 refine i7 func75 λS w0 R hS hJ0 hH=>?_
 refine gQ (B:=So J S w0 17 (OB.pt bj oj [.ptr (jC d i ss ts M)]::OB.var bo [.lit vo]::OB.row vo 37 6 (xs.map cw)::R) [(0,.agg (cw c)),(1,.at bj oj),(2,.at bo 0)]) ?_ λa w h=>h
 refine tw (uA (i:=0) (m:=1) Y Y) (au tb V [0,2,1000] [.ptr (cw c)] [0] U3 Y ⟨cW hS V,U⟩ ?_)
 refine aL (ao 2 tb Y (sy (.bJ [.agg (cw (gX ss c)),.bool (decide ((((cu ss c).length:Nat):Int)< ((dr ss:Nat):Int)))]) (λh=>cQ (Be V d i ss ts M c (by exact bv) (by exact gJ) (by exact fU) (by exact jQ) (by exact cY) (by exact hc1)) (cO func69) Y (aK hS _ h.keep h.x) (h.x.1) (aq (h.get 1 Y) (aq (h.get 0 Y) aP)) (jo V h.x)) ?_))
 refine ao 3 tb Y (iJ (cs:=cw (gX ss c)) Wo Y Y Y (lb Y) Y Y Y dz (m:=1) Y Y (λa w h=>aK hS _ h.keep h.x _ aV) (λa w h w' hk'=>fi V _ _ hk' h.x) ?_)
 refine ao 1 tb Y (aA [0,1,9] U3 Y ?_)
 refine nx (ak tb V [1,2,1000] [_] U3 ?_)
 refine cj 2 ?_ ?_<;>intro hb1<;>try simp at hb1
 ·
  refine cG (sq (.lit vo) Y Y (lb Y) (λ_ _ h=>cg Gt Y (aH h.x (mo 1 Y)) (h.get 1 Y) Y h.x) ?_)
  refine ao 1 tb Y (sy (.rd (nv ([(gX ss c)]))) (λh=>Tp sX WR Y Y (h.get 0 Y) (aK hS _ h.keep h.x _ aV) (jo V h.x)) ?_)
  refine kw dq (fP (f:=cw) (m:=2) (s:=13) xs ([(gX ss c)]) (λ_=>Y) JB V hJ0 Y Y Y (lb Y) Y Y (λa w h=>(h.get 0 Y)) (by simp;omega) (by simp;omega) λv1=>?_)
  refine kw dq (gz (b:=bo) (off:=0) (es:=[_]) V hJ0 UM Y Y Y (lb Y) Y (λa w h=>⟨(h.get 5 Y),(h.get 0 Y)⟩) ?_)
  refine aA [1] [_] Y (kw bQ ?_)
  refine kw bQ (kw dq ?_)
  exact kw (A0 (congrArg (λz'=>OB.row v1 37 6 ((z').map cw)) (show(xs++([(gX ss c)]))=(xs++(fT ss c).toList)from by first | (rw[fT,if_pos hb1];rfl) | (rw[fT,if_neg oz];simp)))) (λa w h=>Az  v1 Y h Y)
 ·
  exact aj (kw (A0 (congrArg (λz'=>OB.row vo 37 6 ((z').map cw)) (show xs=(xs++(fT ss c).toList)from by first | (rw[fT,if_pos hb1];rfl) | (rw[fT,if_neg oz];simp)))) (λa w h=>Az  vo Y h Y))
theorem Ss (d:Db) (i:Nat) (ss:List Stp) (ts:List (List BA)) (M:Nat) (mm:List (BA×Int)) (step:Nat) (hW:lG (⟨d,i,ss,ts,mm⟩:Jb)) (hs:step<ss.length):eX (ι:=Unit) prog J 41 [OB.mI M mm] [.ptr (jC d i ss ts M),.int (step:Nat)] [] (λ_=>.rd (nv (li (⟨d,i,ss,ts,mm⟩:Jb) step))) (λ_=>[]):=by
 refine Em (N:=67) func41 Y Y (lb Y) λS w0 R hS hJ0 hH=>?_
 refine ox (B:=So J S w0 67 (R) [(0,.ptr (jC d i ss ts M)),(1,.int (step:Nat))]) (λh=>h) ?_
 have jR:ts.length=ss.length:=hW.len
 have tC:=hW.fst hs
 have bv:et ss:=hW.ok
 have h16:ss.length<=16:=hW.PX
 have rA:d.ab.length<=16:=hW.f16
 have rC:i<d.ab.length:=hW.hi
 refine hU (m:=5) ?_
 refine aT tb V [1000,1001] [.ptr [.ptr (jC d i ss ts M)],.ptr [lI (step:Int)],_] [0,1] U2 Y ⟨λ_ _ hk Z hl _=>xd Y (hl.env 0 0 _ Y Y) (aK hS _ hk Z _ aV) (jo V Z),λ_ _ hk Z hl _=>k4 Y (hl.env 1 1 _ Y Y) (aK hS _ hk Z _ aV) (jo V Z),U⟩ ?_
 refine ip ?_
 refine hU (m:=5) ?_
 refine tw (iK 37 6 V) (cG (cz Wi V Y Y Y (lb Y) λb1=>?_))
 refine aA [0,1,2] U3 Y (ip ?_)
 refine hU (m:=5) ?_
 refine xM (m:=1) Y λbj oj=>?_
 refine cG (sq (.lit (.func (.func 75) #[] #[.pointer (some ⟨bj,oj,none⟩),.pointer (some ⟨b1,0,none⟩)])) Y Y (lb Y) (λ_ _ h=>HD (caps:=[(.tmp 2),(.tmp 5)]) Y (map_cons (h.get 0 Y).lit (map_cons (h.get 1 Y).lit map_nil)) h.x) ?_)
 refine cz Wb V Y Y Y (lb Y) λb2=>?_
 refine gz (b:=b2) (off:=0) (es:=[_]) V hJ0 UH Y Y Y (lb Y) Y (λa w h=>⟨(h.get 0 Y),(h.get 1 Y)⟩) ?_
 refine aA [0,2,3,4] U4 Y (kw (uA (i:=1) (m:=1) Y Y) ?_)
 refine ip ?_
 refine hU (m:=5) ?_
 refine au tb V [0,1,2,3,1007,1010,1013] (V9 [.ptr [ai (G ts step)],_,.str (cn (G ts step)),.int ((aw mm (cn (G ts step))).getD default),_]) [9,11,12] U7 Y ⟨bn eC,bN hS V (w8 V (G ts step) (by exact(hW.ts _ (aC (show step<ts.length by omega))).1.2) (by exact(hW.ts _ (aC (show step<ts.length by omega))).2)) (cO func64),λ_ _ hk Z hl _=>Bl (Kd:=aB) (f:=(λz':Int=>AV.int z')) (L:=mm) wQ Cb (cn (G ts step)) Y (dD hH hk Z (mo 0 Y)) (hl.D 3 15 Y Y) (hl.D 11 23 Y Y) Z,U⟩ ?_
 refine ln 4 λ_=>?_
 refine ln 5 λ_=>?_
 refine ak tb V [0,1,2,3,6,1002] U3 U6 ?_
 refine PN (ι:=Value×(List cd)) (λ(_,xj)=>(xj=kO (⟨d,i,ss,ts,mm⟩:Jb) step 0)) (λ(wj,xj)=>(OB.var b2 [.lit (.func (.func 75) #[] #[.pointer (some ⟨bj,oj,none⟩),.pointer (some ⟨b1,0,none⟩)])]::OB.pt bj oj [.ptr (jC d i ss ts M)]::OB.var b1 [.lit wj]::OB.row wj 37 6 (xj.map cw)::R)) (λ(_,_)=>[(2,.ptr [.ptr (jC d i ss ts M)]),(6,.at b2 0),(5,.at b1 0),(3,.ptr [lI (step:Int)])]) ?_ ?_
 refine cj 5 ?_ ?_<;>intro hb1<;>try simp at hb1
 refine cG (sq (.lit (.func (.func 75) #[] #[.pointer (some ⟨bj,oj,none⟩),.pointer (some ⟨b1,0,none⟩)])) Y Y (lb Y) (λ_ _ h=>cg Gq Y (aH h.x (mo 0 Y)) (h.get 1 Y) Y h.x) ?_)
 refine ao 2 tb (env':=[(30,_),(29,_),(28,_),(2,_),(6,_),(5,_),(3,_),(7,_),(27,_)]) Y (sy (.rd (bS ([((aw mm (cn (G ts step))).getD default)]))) (λh=>ft dc pi Y (h.get 0 Y) (aK hS _ h.keep h.x _ aV) (jo V h.x)) ?_)
 refine sq (.agg (cw (⟨(1:Int),(step:Int),⟨#[]⟩,[((aw mm (cn (G ts step))).getD default)],0,0⟩:cd))) Y Y (lb Y) (λa _ h=>gg (ps:=[(0,a.eval (.const (.int .i64 1))),(1,a.eval (.tmp 29)),(3,a.eval (.tmp 31))]) (us:=[a.eval (.const (.int .i64 1)),a.eval (.tmp 29),.string ⟨#[]⟩,a.eval (.tmp 31),.int .i64 0,.int .i64 0]) CY Y yz (kq (lb Y) Y (kq (lb Y) (Rel.l7 (h.get 2 Y)) (kq (lb Y) (Rel.l7 (h.get 0 Y)) f9))) Y (bX (Rel.aG (.int .i64 1)) (bX (h.get 2 Y) (dP (.lit _ aI) (bX (h.get 0 Y) (dP (.lit _ True.intro) (dP (.lit _ True.intro) cE)))))) h.x) ?_
 refine kw gN (kw gN ?_)
 refine kw gN (Im (O:=[OB.pt bj oj [.ptr (jC d i ss ts M)],OB.var b1 [.lit (.slice none 0 0)],OB.row (.slice none 0 0) 37 6 (([]:List cd).map cw)]) (R:=(OB.var b2 [.lit (.func (.func 75) #[] #[.pointer (some ⟨bj,oj,none⟩),.pointer (some ⟨b1,0,none⟩)])]::R)) [.agg (cw (⟨(1:Int),(step:Int),⟨#[]⟩,[((aw mm (cn (G ts step))).getD default)],0,0⟩:cd))] [.pointer (some ⟨bj,oj,none⟩),.pointer (some ⟨b1,0,none⟩)] [.at bj oj,.at b1 0] (GL V bj oj b1 d i ss ts M (⟨(1:Int),(step:Int),⟨#[]⟩,[((aw mm (cn (G ts step))).getD default)],0,0⟩:cd) (.slice none 0 0) ([]:List cd) (by exact bv) (by dsimp only;omega) (by dsimp only;omega) (by first | exact df.2.2 | (intro a ha;rw[mem_singleton.1 ha];exact⟨tC.1,oz⟩)) (by first | (rw[df.2.1];omega) | simp) yz (by first | omega | simp)) (cO func75) Y Y Y (lb Y) hS hJ0 b9 (λa w h=>(h.get 4 Y).lit) (λa w h=>(aq (h.get 0 Y) aP)) (λw=>(aq (Rel.aG (.pointer (some ⟨bj,oj,none⟩))) (aq (Rel.aG (.pointer (some ⟨b1,0,none⟩))) aP))) λz3=>?_)
 refine aA [2,6,7,8,9] U5 Y (kw dq ?_)
 refine kw dq (kw dq ?_)
 exact kw gN (qb (z3,(([]:List cd)++(fT ss (⟨(1:Int),(step:Int),⟨#[]⟩,[((aw mm (cn (G ts step))).getD default)],0,0⟩:cd)).toList)) [1,2,3,4] (show(([]:List cd)++(fT ss (⟨(1:Int),(step:Int),⟨#[]⟩,[((aw mm (cn (G ts step))).getD default)],0,0⟩:cd)).toList)=kO (⟨d,i,ss,ts,mm⟩:Jb) step 0 from by rw[Dl,n8,if_pos (by show(aw mm (cn (G ts step))).getD 0<_;rw[tC.2.2];exact hb1),tC.2.2];simp only[List.filterMap_cons,List.filterMap_nil];cases fT ss _<;>rfl))
 exact aj (qb ((.slice none 0 0),([]:List cd)) [0,1,2,3] (show([]:List cd)=kO (⟨d,i,ss,ts,mm⟩:Jb) step 0 from by rw[Dl,n8,if_neg (by show ¬ (aw mm (cn (G ts step))).getD 0<_;rw[tC.2.2];exact Int.not_lt.2 hb1)];rfl))
 rintro⟨wj,xj⟩ hF
 have NJ:xj=kO (⟨d,i,ss,ts,mm⟩:Jb) step 0:=hF
 refine ip ?_
 refine uT ?_
 refine hU (m:=5) ?_
 refine aT tb V [0,1,2,3,1004,1009,1010,1011] (V9 [.rd (dU (d.ab.take i)),.int ((d.ab.take i).length:Nat),_]) [9,10] U8 Y ⟨λ_ _ _ Z hl _=>iH (ys:=d.ab.take i) (lo:=0) (hi:=i) List.drop_zero fK (λ_=>Y) Y (hl.D 4 38 Y Y) Y (hl.D 8 42 Y Y) az az Z,aD m8,U⟩ ?_
 refine ip ?_
 refine l4 4 λ_=>?_
 refine l4 5 λ_=>?_
 refine uS ?_
 refine Qi (ι:=Nat×(List cd)×Value) (λ(q,out,_)=>(q<=i)/\(out=kO (⟨d,i,ss,ts,mm⟩:Jb) step q)) (λ(_,out,wo)=>(OB.var b2 [.lit (.func (.func 75) #[] #[.pointer (some ⟨bj,oj,none⟩),.pointer (some ⟨b1,0,none⟩)])]::OB.pt bj oj [.ptr (jC d i ss ts M)]::OB.var b1 [.lit wo]::OB.row wo 37 6 (out.map cw)::R)) (λ(q,_,_)=>[(45,.int (q:Nat))]) (λ(q,_,_)=>i-q) [0,1,2,3,5,6,7] U6 (0,xj,wj) ⟨aI,NJ⟩ ?_
 rintro⟨q,out,wo⟩ ⟨aQ,ah⟩
 intro Ck
 refine sS (m:=5) ?_
 refine my ?_
 refine ao 1 tb (env':=[(46,_),(2,_),(6,_),(5,_),(3,_),(43,_),(44,_),(45,_)]) Y (aA (r8 []) U8 Y ?_)
 refine t1 ?_
 refine sS (m:=5) ?_
 refine Dz 0 ?_ ?_<;>intro hb2<;>try simp at hb2
 have ef:G (d.ab.take i) q=G d.ab q:=NQ oz
 have cY:=K0 (j:=(⟨d,i,ss,ts,mm⟩:Jb)) (step:=step) hW.m0 (show step<=16 by omega) (show q<=16 by omega)
 rw[<-ah]at cY
 have ex:kO (⟨d,i,ss,ts,mm⟩:Jb) step (q+1)=kO (⟨d,i,ss,ts,mm⟩:Jb) step q++(nD (⟨d,i,ss,ts,mm⟩:Jb) step (G (d.ab.take i) q)).filterMap (fT ss):=by rw[ef];exact K1 (show q<d.ab.length by omega)
 refine DG ?_
 refine t1 ?_
 refine Jy ?_
 refine Cz ?_
 refine sS (m:=5) ?_
 refine my ?_
 refine sy (.ptr (aY (G (d.ab.take i) q))) (λh=>cb (i:=(q:Int)) fK Y (h.get 5 Y) (h.get 7 Y) bM (cq (xs:=d.ab.take i) (k:=q) az) Y h.x) ?_
 refine ao 1 tb (env':=[(48,_),(47,_),(46,_),(2,_),(6,_),(5,_),(3,_),(43,_),(44,_),(45,_)]) Y (iJ (cs:=aY (G (d.ab.take i) q)) xY Y Y Y (lb Y) Y Y Y dz (m:=0) Y Y (λa w h=>aK hS _ h.keep h.x _ aV) (λa w h w' hk'=>fi V _ _ hk' h.x) ?_)
 refine aA [0,4,5,6,7,8,9,10] U8 Y (t1 ?_)
 refine sS (m:=5) ?_
 refine sR ?_
 refine my ?_
 refine ao 2 tb (env':=[(50,_),(49,_),(9,_),(2,_),(6,_),(5,_),(3,_),(43,_),(44,_),(45,_)]) Y (sy (.int (((G (d.ab.take i) q).aa).length:Nat)) (λh=>kh cT Y (h.get 0 Y) h.x) ?_)
 refine ao 1 tb (env':=[(52,_),(51,_),(50,_),(49,_),(9,_),(2,_),(6,_),(5,_),(3,_),(43,_),(44,_),(45,_)]) Y (aA [0,2,4,5,6,7,8,9,10,11] fw Y ?_)
 refine tZ ?_
 refine Qd 1 λ_=>?_
 refine Dz 0 ?_ ?_<;>intro aE<;>try simp at aE
 have eF:nD (⟨d,i,ss,ts,mm⟩:Jb) step (G (d.ab.take i) q)=[]:=if_pos oz
 refine DB ?_
 refine rS (m:=5) ?_
 refine my ?_
 refine sy (.int (q+1:Nat)) (λh=>qq (i:=(q:Int)) (j:=(1:Int)) Y (h.get 9 Y) (Rel.aG (.int .i64 1)) az az h.x) ?_
 refine ao 1 tb (env':=[(45,_),(65,_),(52,_),(50,_),(9,_),(2,_),(6,_),(5,_),(3,_),(43,_),(44,_)]) Y (aA [0,5,6,7,8,9,10] U7 Y ?_)
 exact FP (q+1,out,wo) [1,2,3,4,5,6,0] ⟨oz,by rw[ex,eF,<-ah];first | (simp;done) | exact ic⟩
 have eF:nD (⟨d,i,ss,ts,mm⟩:Jb) step (G (d.ab.take i) q)=(oA (⟨d,i,ss,ts,mm⟩:Jb) (G (d.ab.take i) q) step).map λal=>(⟨2,step,(G (d.ab.take i) q).ae,al,0,0⟩:cd):=if_neg oz
 refine DG ?_
 refine t1 ?_
 refine sS (m:=5) ?_
 refine my ?_
 refine ao 3 tb (env':=[(55,_),(54,_),(53,_),(52,_),(50,_),(9,_),(2,_),(6,_),(5,_),(3,_),(43,_),(44,_),(45,_)]) Y (sy (.fn 101 [.ptr (aY (G (d.ab.take i) q)),.ptr [.ptr (jC d i ss ts M)],.ptr [lI (step:Int)]]) (λh=>cQ (Sq V d i ss ts M (G (d.ab.take i) q) step) (cO func76) Y (aK hS _ h.keep h.x) (h.x.1) (aq (h.get 2 Y) (aq (h.get 1 Y) (aq (h.get 0 Y) aP))) (jo V h.x)) ?_)
 refine aA [0,6,7,8,9,10,11,12,13] U9 Y (t1 ?_)
 refine Cz ?_
 refine alw (λh=>oa (p:=(out=out++(([]:List (List Int)).map λal=>(⟨2,step,(G (d.ab.take i) q).ae,al,0,0⟩:cd)).filterMap (fT ss))) yz h) ?_
 refine TP (m:=5) (κ:=Value×(List cd)) (μ:=Empty) (σ:=Empty) (Sr V d i ss ts M mm (G (d.ab.take i) q) step (by rw[ef];exact hW.try (aC (show q<d.ab.length by omega)) hs)) (cO func101) V hS hJ0 hH (λpre (wv,ys)=>[OB.mA (ys=out++(pre.map λal=>(⟨2,step,(G (d.ab.take i) q).ae,al,0,0⟩:cd)).filterMap (fT ss)),OB.iy Ck,OB.var b2 [.lit (.func (.func 75) #[] #[.pointer (some ⟨bj,oj,none⟩),.pointer (some ⟨b1,0,none⟩)])],OB.pt bj oj [.ptr (jC d i ss ts M)],OB.var b1 [.lit wv],OB.row wv 37 6 (ys.map cw)]) (λq':Empty=>undef) (λq'=>[]) (λs'=>[]) (wo,out) (λx9=>[(10,.rd (bS x9)),(57,.rd (bS x9)),(9,.ptr (aY (G (d.ab.take i) q))),(2,.ptr [.ptr (jC d i ss ts M)]),(6,.at b2 0),(5,.at b1 0),(3,.ptr [lI (step:Int)]),(43,.rd (dU (d.ab.take i))),(44,.int ((d.ab.take i).length:Nat)),(45,.int (q:Nat))]) (lb Y) func41 ?_ ?_ ?_ ?_ ?_ ?_ ?_
 · exact λa w h=>xl (h.get 0 Y)
 rintro m9 l9 R' pre x9 ⟨wv,ys⟩ K9 pU
 refine cG (ao 1 tb (env':=[(10,_),(57,_),(56,_),(9,_),(2,_),(6,_),(5,_),(3,_),(43,_),(44,_),(45,_)]) Y (aA [0,1,3,4,5,6,7,8,9,10] fw Y ?_))
 exact pU
 rintro m9 l9 R' pre x9 ⟨wv,ys⟩ hpre
 refine xL λhF=>?_
 have ic:ys=out++(pre.map λal=>(⟨2,step,(G (d.ab.take i) q).ae,al,0,0⟩:cd)).filterMap (fT ss):=hF
 have df:=KV (j:=(⟨d,i,ss,ts,mm⟩:Jb)) (g:=G (d.ab.take i) q) (step:=step) hW.m0 (x:=x9) (hpre.subset (mem_append_right _ (mem_singleton.2 Y)))
 have Po:ys.length<=2100000:=by have h1:=List.length_filterMap_le (fT ss) (pre.map λal=>(⟨2,step,(G (d.ab.take i) q).ae,al,0,0⟩:cd));have h2:=hpre.length_le;have h3:=Di (j:=(⟨d,i,ss,ts,mm⟩:Jb)) (g:=G (d.ab.take i) q) (step:=step) hW.m0;have h4:=G6 (n:=step) (m:=(G (d.ab.take i) q).aa.length) oz oz;rw[ic,length_append];rw[length_map]at h1;simp only[length_append,length_cons]at h2;omega
 refine ln 0 λ_=>?_
 refine ax (cG (sq (.lit (.func (.func 75) #[] #[.pointer (some ⟨bj,oj,none⟩),.pointer (some ⟨b1,0,none⟩)])) Y Y (lb Y) (λ_ _ h=>cg Gq Y (aH h.x (mo 1 Y)) (h.get 4 Y) Y h.x) ?_))
 refine ao 4 tb (env':=[(62,_),(61,_),(60,_),(59,_),(58,_),(10,_),(57,_),(9,_),(2,_),(6,_),(5,_),(3,_),(43,_),(44,_),(45,_)]) Y (sq (.agg (cw (⟨(2:Int),(step:Int),(G (d.ab.take i) q).ae,x9,0,0⟩:cd))) Y Y (lb Y) (λa _ h=>gg (ps:=[(0,a.eval (.const (.int .i64 2))),(1,a.eval (.tmp 59)),(2,a.eval (.tmp 61)),(3,a.eval (.tmp 62))]) (us:=[a.eval (.const (.int .i64 2)),a.eval (.tmp 59),a.eval (.tmp 61),a.eval (.tmp 62),.int .i64 0,.int .i64 0]) CY Y yz (kq (lb Y) Y (kq (lb Y) (Rel.l7 (h.get 3 Y)) (kq (lb Y) (Rel.l7 (h.get 1 Y)) (kq (lb Y) (Rel.l7 (h.get 0 Y)) f9)))) Y (bX (Rel.aG (.int .i64 2)) (bX (h.get 3 Y) (bX (h.get 1 Y) (bX (h.get 0 Y) (dP (.lit _ True.intro) (dP (.lit _ True.intro) cE)))))) h.x) ?_)
 refine kw bQ (kw bQ ?_)
 refine kw d8 (kw d8 ?_)
 refine kw d8 (Im (O:=[OB.pt bj oj [.ptr (jC d i ss ts M)],OB.var b1 [.lit wv],OB.row wv 37 6 (ys.map cw)]) (R:=(OB.iy Ck::OB.var b2 [.lit (.func (.func 75) #[] #[.pointer (some ⟨bj,oj,none⟩),.pointer (some ⟨b1,0,none⟩)])]::R')) [.agg (cw (⟨(2:Int),(step:Int),(G (d.ab.take i) q).ae,x9,0,0⟩:cd))] [.pointer (some ⟨bj,oj,none⟩),.pointer (some ⟨b1,0,none⟩)] [.at bj oj,.at b1 0] (GL V bj oj b1 d i ss ts M (⟨(2:Int),(step:Int),(G (d.ab.take i) q).ae,x9,0,0⟩:cd) wv ys (by exact bv) (by dsimp only;omega) (by dsimp only;omega) (by first | exact df.2.2 | (intro a ha;rw[mem_singleton.1 ha];exact⟨tC.1,oz⟩)) (by first | (rw[df.2.1];omega) | simp) yz (by first | omega | simp)) (cO func75) Y Y Y (lb Y) hS hJ0 b9 (λa w h=>(h.get 5 Y).lit) (λa w h=>(aq (h.get 0 Y) aP)) (λw=>(aq (Rel.aG (.pointer (some ⟨bj,oj,none⟩))) (aq (Rel.aG (.pointer (some ⟨b1,0,none⟩))) aP))) λz4=>?_)
 refine aA [9,10,11,12,13,14,15,16] U8 Y (kw dq ?_)
 refine kw dq (kw dq ?_)
 refine kw d8 (kw d8 ?_)
 exact kw (λh=>oa (p:=((ys++(fT ss (⟨(2:Int),(step:Int),(G (d.ab.take i) q).ae,x9,0,0⟩:cd)).toList)=out++((pre++[x9]).map λal=>(⟨2,step,(G (d.ab.take i) q).ae,al,0,0⟩:cd)).filterMap (fT ss))) (by simp only[List.map_append,List.map_cons,List.map_nil];rw[Nt,<-List.append_assoc,<-ic]) h) (λa w h=>⟨(z4,(ys++(fT ss (⟨(2:Int),(step:Int),(G (d.ab.take i) q).ae,x9,0,0⟩:cd)).toList)),h.keep,h.x⟩)
 rintro fa ⟨wv,ys⟩ D
 refine kw bQ (xG λhF=>?_)
 have ic:ys=out++((oA (⟨d,i,ss,ts,mm⟩:Jb) (G (d.ab.take i) q) step).map λal=>(⟨2,step,(G (d.ab.take i) q).ae,al,0,0⟩:cd)).filterMap (fT ss):=hF
 refine kw bQ (kw Va ?_)
 refine rS (m:=5) ?_
 refine my ?_
 refine sy (.int (q+1:Nat)) (λh=>qq (i:=(q:Int)) (j:=(1:Int)) Y (h.get 8 Y) (Rel.aG (.int .i64 1)) az az h.x) ?_
 refine ao 1 tb (env':=[(45,_),(65,_),(56,_),(9,_),(2,_),(6,_),(5,_),(3,_),(43,_),(44,_)]) Y (aA [0,4,5,6,7,8,9] U7 Y ?_)
 exact FP (q+1,ys,wv) [1,2,3,4,5,6,0] ⟨oz,by rw[ex,eF,<-ah];first | (simp;done) | exact ic⟩
 · exact λs=>s.elim
 · exact λv h=>by cases h
 · exact λq=>q.elim
 refine DB ?_
 refine rS (m:=5) ?_
 refine sR ?_
 refine my ?_
 refine sy (.lit wo) (λh=>cg Gt Y (aH h.x (mo 3 Y)) (h.get 3 Y) Y h.x) ?_
 refine ao 1 tb (env':=[(4,_),(66,_),(46,_),(2,_),(6,_),(5,_),(3,_),(43,_),(44,_),(45,_)]) Y (aA [0] [_] Y ?_)
 refine tZ ?_
 refine vE ?_
 refine RC V hJ0 ?_ _
 refine kw gN (kw (λh=>dV hS h (m:=0) (s:=4) Y) ?_)
 refine kw cR (kw cR ?_)
 exact kw cR (λa w h=>dt  (m:=0) () Y h Y (congrArg (λz=>AV.rd (nv z)) (show out=(li (⟨d,i,ss,ts,mm⟩:Jb) step)from by rw[ah,show q=i by omega];rfl)))
theorem Su (d:Db) (i:Nat) (ss:List Stp) (ts:List (List BA)) (M:Nat) (mm:List (BA×Int)) (step:Nat) (hW:lG (⟨d,i,ss,ts,mm⟩:Jb)) (hs:step<ss.length):cM prog J 41 [OB.mI M mm] [.ptr (jC d i ss ts M),.int (step:Nat)] (.rd (nv (li (⟨d,i,ss,ts,mm⟩:Jb) step))):=Nu (Ss V d i ss ts M mm step hW hs)
end
end
section
section
variable {d:Db} {z:Int} {ss:List Stp}
theorem IM (h:dF d z ss=0):(aX d z ss).1.length=ss.length/\∀ t∈(aX d z ss).1,(1<=t.length/\t.length<=2000)/\∀ s∈t,s.size<=60:=by
 obtain⟨h1,h2⟩:=n2 h
 obtain⟨ha,hf⟩:=ns h1
 obtain⟨dW,lq,fV⟩:=ou ha
 have hi:z.toNat<d.ab.length:=by omega
 have hj:=(mQ h).1
 refine⟨hj.len,λt ht=>⟨?_,λs hs=>Iy (yK dW) s (hj.sy t ht s hs)⟩⟩
 have h3:aX d z ss=kH d z.toNat ss:=if_pos h1
 have h4:∀ q,q<ss.length->ik d z.toNat ss q=0:=by
  rw[h3]at h2
  unfold kH at h2
  split at h2
  · rename_i k hk
    have h5:=List.find?_some hk
    exact absurd h2 (of_decide_eq_true h5)
  · rename_i hk
    intro q hq
    have h5:=List.find?_eq_none.1 hk q (List.mem_range.2 hq)
    simpa using h5
 have h5:(aX d z ss).1=dH d z.toNat ss ss.length:=by rw[h3,ph h4]
 rw[h5]at ht
 exact rl dW hi ss.length (λq hq=>h4 q hq) t ht
theorem FC (h:dF d z ss=0) (h16:ss.length<=16) (hf:d.ab.length<=16) (hw:∀ f∈d.ab,f.wide.length*32<=140737488351232):lG (fF d z ss):=by
 obtain⟨h1,h2⟩:=n2 h
 obtain⟨ha,_⟩:=ns h1
 obtain⟨dW,lq,fV⟩:=ou ha
 have hi:z.toNat<d.ab.length:=by omega
 obtain⟨hl,ht⟩:=IM h
 have hg:=pF dW
 exact⟨(mQ h).2,h16,hl,ht,λs q e=>(D0 e).imp_right (·.1),λi hi'=>by obtain⟨q,hq,_⟩:=ML hi';exact Option.isSome_iff_exists.2 ⟨q,hq⟩,hf,hi,hw _ (aC hi),
  λg hg'=>(hg g hg').1.2,λg hg' y hy=>⟨((hg g hg').2.2 y (mem_append_left _ hy)).1,λs hs=>Iy (yK dW) s ((yJ dW g hg').1 y (mem_append_left _ hy) s hs)⟩,λg hg'=>(hg g hg').1.1⟩
theorem MM {ts:List (List BA)} {pre:List (Nat×List BA)} {x:Nat×List BA} (h:(pre++[x])<+:ig ts):pre.length<ts.length/\gr ts (pre++[x]).length=cl (gr ts pre.length) (cn x.2) ((x.1:Nat):Int)/\x.2∈ts:=by
 obtain⟨h1,h2,h3⟩:=C0 h
 refine⟨?_,?_,?_⟩
 · omega
 · rw[length_append,List.length_singleton,gr,h3,h2]
 · rw[h3];exact aC oz
end
end
section
open Go.RowKit
theorem CW:Ci prog 92:=λ_ _ _ _ _ _ _ _ _ _=>by kernel_rfl
theorem xW:f8 prog 77 [.lit (.pointer none)]:=⟨(.pointer none),λw=>by kernel_rfl,λS w=>(show bD S w [.lit (.pointer none)] [.pointer none]from⟨.lit _ True.intro,U⟩)⟩
theorem UP:dS prog 77 1:=zO
section
variable {J:WP} (V:aS J)
include V
theorem SW (d:Db) (z:Int) (ss:List Stp) (hw:∀ f∈d.ab,f.wide.length*32<=140737488351232) (hG:iv J) (hr:¬ dF d z ss=0):Fn prog J 32 [.agg (bZ d),.int z,.agg (bw ss)] (.bJ [.rd (.lit (.pointer none)),.int (dF d z ss)]):=by
 refine zw (N:=60) func32 Y Y (lb Y) λS w0 hS hJ0=>?_
 refine ox cc ?_
 refine hU (m:=5) ?_
 refine aT tb V [1,1000,1001] [.ptr (bZ d),.ptr (bw ss),_,_] [0,1] U3 Y ⟨cW hS V,cW hS V,U⟩ ?_
 refine ip ?_
 refine hU (m:=5) ?_
 refine au tb V [0,1,2,1004] (V3 [.int (dA d z ss),_]) [3] U4 Y ⟨bN hS V (A7 V d z ss (by exact hw) (by exact hG)) (cO func56),U⟩ ?_
 refine ak tb V [0,1,2,3,1001] U2 U5 ?_
 refine cj 4 ?_ ?_<;>intro hb1<;>try simp at hb1
 refine ak tb V [1001,1002] U3 U2 ?_
 refine aZ (A6 ?_)
 exact λa w h=>dX (m:=0) (k:=1) Y (d9 h) Y Y Y (eI (by first | exact absurd hb1 hb2 | (simp[dF, *];done)))
 refine aj (ip ?_)
 refine hU (m:=5) ?_
 refine cG (ao 3 tb Y (sy (.bJ [.rd (ct ((aX d z ss).1)),.agg (kL ((aX d z ss).2)),.int (dA d z ss)]) (λh=>cQ (GK V d z ss (by exact hw) (by exact hG)) (cO func27) Y (aK hS _ h.keep h.x) (h.x.1) (aq (h.get 2 Y) (aq (h.get 1 Y) (aq (h.get 0 Y) aP))) (jo V h.x)) ?_))
 refine ao 4 tb Y (cz sr V Y Y Y (lb Y) λb1=>?_)
 refine ao 1 tb Y (ck (b:=b1) (off:=0) (es:=U2) (news:=U2) V hJ0 lC Y Y Y (lb Y) Y (λa w h=>⟨(h.get 1 Y),(h.get 3 Y)⟩) ?_)
 refine ao 1 tb Y (kw (λh=>fg hS h (m:=2) (s:=10) Y) ?_)
 refine aA [0,1,2,5,11,12,13] U7 Y (ip ?_)
 refine l4 2 λ_=>?_
 refine hU (m:=5) ?_
 refine ax (ak tb V [0,1,2,4,5,6,1002] U3 U7 ?_)
 refine cj 6 ?_ ?_<;>intro hb2<;>try simp at hb2
 refine ak tb V [1001,1002] U3 U2 ?_
 refine aZ (A6 ?_)
 exact λa w h=>dX (m:=0) (k:=1) Y (d9 h) Y Y Y (eI (by first | exact absurd hb1 hb2 | (simp[dF, *];done)))
 refine ak tb V [2,3,4,5,1003] U4 U5 ?_
 refine cj 4 ?_ ?_<;>intro aE<;>try simp at aE
 refine ak tb V [1000,1001] U2 U2 ?_
 refine aZ (A6 ?_)
 exact λa w h=>dX (m:=0) (k:=1) Y (d9 h) Y Y Y (eI (by first | exact absurd hb1 hb2 | (simp[dF, *];done)))
 exact False.elim (hr (by simp[dF, *]))
theorem GZ (d:Db) (z:Int) (ss:List Stp) (hw:∀ f∈d.ab,f.wide.length*32<=140737488351232) (hG:iv J) (hr:dF d z ss=0):eX (ι:=Nat) prog J 32 [] [.agg (bZ d),.int z,.agg (bw ss)] [] (λi'=>.bJ [.ptr [ai d.bH,ai d.vars,dU d.ab,lI (z.toNat:Int),br ss,ct ((aX d z ss).1),lI (((dr ss):Nat):Int),.lit (.map (some (i')))],.int 0]) (λi'=>[OB.mI (i') (gr (aX d z ss).1 (aX d z ss).1.length)]):=by
 refine Em (N:=60) func32 Y Y (lb Y) λS w0 R hS hJ0 hH=>?_
 refine ox (B:=So J S w0 60 (R) [(0,.agg (bZ d)),(1,.int z),(2,.agg (bw ss))]) (λh=>h) ?_
 have jT:=IM hr
 have bv:=(mQ hr).2
 have jR:=bv.1
 have cx:=bv.2.1
 have lq:=(ou (ns (n2 hr).1).1).2.1
 refine hU (m:=5) ?_
 refine aT tb V [1,1000,1001] [.ptr (bZ d),.ptr (bw ss),_,_] [0,1] U3 Y ⟨cW hS V,cW hS V,U⟩ ?_
 refine ip ?_
 refine hU (m:=5) ?_
 refine au tb V [0,1,2,1004] (V3 [.int (dA d z ss),_]) [3] U4 Y ⟨bN hS V (A7 V d z ss (by exact hw) (by exact hG)) (cO func56),U⟩ ?_
 refine ak tb V [0,1,2,3,1001] U2 U5 ?_
 refine cj 4 ?_ ?_<;>intro hb1<;>try simp at hb1
 ·
  exact False.elim (hb1 (n2 hr).1)
 ·
  refine aj (ip ?_)
  refine hU (m:=5) ?_
  refine cG (ao 3 tb Y (sy (.bJ [.rd (ct ((aX d z ss).1)),.agg (kL ((aX d z ss).2)),.int (dA d z ss)]) (λh=>cQ (GK V d z ss (by exact hw) (by exact hG)) (cO func27) Y (aK hS _ h.keep h.x) (h.x.1) (aq (h.get 2 Y) (aq (h.get 1 Y) (aq (h.get 0 Y) aP))) (jo V h.x)) ?_))
  refine ao 4 tb Y (cz sr V Y Y Y (lb Y) λb1=>?_)
  refine ao 1 tb Y (ck (b:=b1) (off:=0) (es:=U2) (news:=U2) V hJ0 lC Y Y Y (lb Y) Y (λa w h=>⟨(h.get 1 Y),(h.get 3 Y)⟩) ?_)
  refine ao 1 tb Y (kw (λh=>fg hS h (m:=2) (s:=10) Y) ?_)
  refine aA [0,1,2,5,11,12,13] U7 Y (kw (sa 4 Y (congrArg AV.int (show z=(z.toNat:Int)from by omega))) ?_)
  refine ip ?_
  refine l4 2 λcx=>?_
  refine hU (m:=5) ?_
  refine ax (ak tb V [0,1,2,4,5,6,1002] U3 U7 ?_)
  refine cj 6 ?_ ?_<;>intro hb2<;>try simp at hb2
  ·
   exact False.elim (hb2 (n2 hr).1)
  ·
   refine ak tb V [2,3,4,5,1003] U4 U5 ?_
   refine cj 4 ?_ ?_<;>intro aE<;>try simp at aE
   ·
    exact False.elim (aE (n2 hr).2)
   ·
    refine aj (ip ?_)
    refine hU (m:=5) ?_
    refine λa w h=>k6 (R) (γ:=Nat×Value×Nat×Nat) (λix'=>([.agg (bZ d),.int (z.toNat:Nat),.agg (bw ss),.rd (ct ((aX d z ss).1)),.agg (bw ss),.rd (mu (fN ss)),.int (gE (fN ss):Nat),.any,.any,.any,.any,.any]:List AV).getD ix' .any) (λ_=>true) [(9,λ_=>.rd (ct ((aX d z ss).1))),(12,λg=>.at g.2.2.2 0)] (λ(b:List Bool) (g:Nat×Value×Nat×Nat)=>(bif b.getD 4 false then [OB.var g.2.2.2 [.lit (.pointer (some ⟨g.2.2.1,0,none⟩))]]else(bif b.getD 3 false then [OB.var g.2.2.2 [.lit (.pointer none)]]else []))++((bif b.getD 2 false then [OB.var g.2.2.1 [ai d.bH,ai d.vars,dU d.ab,lI (z.toNat:Int),br ss,ct ((aX d z ss).1),lI ((gE (fN ss):Nat):Int),.lit (.map (some g.1))]]else(bif b.getD 1 false then [qL [ai d.bH,ai d.vars,dU d.ab,lI (z.toNat:Int),br ss,ct ((aX d z ss).1),lI ((gE (fN ss):Nat):Int),.lit (.map (some g.1))] g.2.1]else []))++((bif b.getD 0 false then [OB.mI g.1 ([]:List (BA×Int))]else [])++(R)))) (λk' g=>match k' with | 0=>(.map (some g.1)) | 1=>g.2.1 | 2=>(.pointer (some ⟨g.2.2.1,0,none⟩)) | 3=>(.pointer (some ⟨g.2.2.2,0,none⟩)) | _=>undef) [7,8,9,10,11] (0,undef,0,0) (λ_=>Y) h V cP Y Y Y Y (λb g p hp=>(mem_append_right _ (mem_append_right _ (mem_append_right _ hp)))) ⟨oX Y λZ hl=>jB uU Y (hl.env 2 3 _ Y Y) aV Z,oX Y λZ hl=>b8 Y (hl.env 1 1 _ Y Y) Z,oX Y λZ hl=>jB eY Y (hl.env 3 5 _ Y Y) aV Z,oX Y λZ hl=>b8 Y (hl.env 0 9 _ Y Y) Z,oX Y λZ hl=>jB eY Y (hl.env 3 5 _ Y Y) aV Z,?_,oY Y λhk Z hl=>cQ (Sz V (fN ss)) (cO func61) Y (aK hS _ hk Z) (Z.1) (aq (hl.D 5 43 Y Y) aP) (jo V Z),bB Y,bB Y,bB Y,bB Y,bB Y,U⟩ ⟨?pN,?sW,?Mn,?Mo,?Mp,U⟩ ⟨.old 0 9 _,.dZ 3 10 12 (λ(g:Nat×Value×Nat×Nat)=>(.pointer (some ⟨g.2.2.2,0,none⟩))) Y Y (λ_=>Y) (λ_=>True.intro),U⟩ ?AU
    exact oY Y λhk Z hl=>cQ (GV V ss (by exact bv)) (cO func62) Y (aK hS _ hk Z) (Z.1) (aq (hl.D 4 42 Y Y) aP) (jo V Z)
    case pN=>exact ew [[false,false,false,false,false],[false,false,false,true,false]] yq Y Y Y Y ⟨λg _ w hk Z _ _=>bC (DD aB (λz':Int=>AV.int z') V Y hk Z) λv w' ⟨b',hv,hp⟩=>⟨(b',g.2.1,g.2.2.1,g.2.2.2),dY,λ_=>hv,True.intro,hp⟩,λg _ w hk Z _ _=>bC (DD aB (λz':Int=>AV.int z') V rfl hk Z) λv w' ⟨b',hv,hp⟩=>⟨(b',g.2.1,g.2.2.1,g.2.2.2),dY,λ_=>hv,True.intro,kF (.refl _) (eE (A:=[OB.var g.2.2.2 [.lit (.pointer none)]])).symm hp⟩,U⟩
    case sW=>exact ew [[true,false,false,false,false],[true,false,false,true,false]] yq Y Y Y Y ⟨λg _ w hk Z hl hs=>bC (Dy (cs:=[ai d.bH,ai d.vars,dU d.ab,lI (z.toNat:Int),br ss,ct ((aX d z ss).1),lI ((gE (fN ss):Nat):Int),.lit (.map (some g.1))]) hk (Hm CW Y (hl.D 0 38 Y Y) (hl.D 1 39 Y Y) (hl.D 2 40 Y Y) (hl.D 3 41 Y Y) (hl.D 6 44 Y Y) (hs 0 7 _ 45 Y Y Y Y) Z)) λv w' hp=>⟨(g.1,v,g.2.2.1,g.2.2.2),dY,λ_=>rfl,True.intro,hp⟩,λg _ w hk Z hl hs=>bC (Dy (cs:=[ai d.bH,ai d.vars,dU d.ab,lI (z.toNat:Int),br ss,ct ((aX d z ss).1),lI ((gE (fN ss):Nat):Int),.lit (.map (some g.1))]) hk (Hm CW Y (hl.D 0 38 Y Y) (hl.D 1 39 Y Y) (hl.D 2 40 Y Y) (hl.D 3 41 Y Y) (hl.D 6 44 Y Y) (hs 0 7 _ 45 Y Y Y Y) Z)) λv w' hp=>⟨(g.1,v,g.2.2.1,g.2.2.2),dY,λ_=>rfl,True.intro,kF (.refl _) (eE (A:=[OB.var g.2.2.2 [.lit (.pointer none)]])).symm hp⟩,U⟩
    case Mn=>exact ew [[true,true,false,false,false],[true,true,false,true,false]] yq Y Y Y Y ⟨λg _ w hk Z _ hs=>bC (Dx (cs:=[ai d.bH,ai d.vars,dU d.ab,lI (z.toNat:Int),br ss,ct ((aX d z ss).1),lI ((gE (fN ss):Nat):Int),.lit (.map (some g.1))]) V Y (hs 1 8 _ 46 Y Y Y Y) hk Z) λv w' ⟨b',hv,hp⟩=>⟨(g.1,g.2.1,b',g.2.2.2),dY,λ_=>hv,True.intro,hp⟩,λg _ w hk Z _ hs=>bC (Dx (cs:=[ai d.bH,ai d.vars,dU d.ab,lI (z.toNat:Int),br ss,ct ((aX d z ss).1),lI ((gE (fN ss):Nat):Int),.lit (.map (some g.1))]) V Y (hs 1 8 _ 46 Y Y Y Y) hk (fI (eE (A:=[OB.var g.2.2.2 [.lit (.pointer none)]])) Z)) λv w' ⟨b',hv,hp⟩=>⟨(g.1,g.2.1,b',g.2.2.2),dY,λ_=>hv,True.intro,kF (eE (A:=[OB.var g.2.2.2 [.lit (.pointer none)]])).symm (eE (A:=[OB.var g.2.2.2 [.lit (.pointer none)]])).symm hp⟩,U⟩
    case Mo=>exact ew [[false,false,false,false,false],[true,false,false,false,false],[true,true,false,false,false],[true,true,true,false,false]] yq Y Y Y Y ⟨λg _ w hk Z _ _=>bC (gq xW V Y hk Z) λv w' ⟨b',hv,hp⟩=>⟨(g.1,g.2.1,g.2.2.1,b'),dY,λ_=>hv,True.intro,hp⟩,λg _ w hk Z _ _=>bC (gq xW V rfl hk Z) λv w' ⟨b',hv,hp⟩=>⟨(g.1,g.2.1,g.2.2.1,b'),dY,λ_=>hv,True.intro,hp⟩,λg _ w hk Z _ _=>bC (gq xW V rfl hk Z) λv w' ⟨b',hv,hp⟩=>⟨(g.1,g.2.1,g.2.2.1,b'),dY,λ_=>hv,True.intro,hp⟩,λg _ w hk Z _ _=>bC (gq xW V rfl hk Z) λv w' ⟨b',hv,hp⟩=>⟨(g.1,g.2.1,g.2.2.1,b'),dY,λ_=>hv,True.intro,hp⟩,U⟩
    case Mp=>exact ew [[true,true,true,true,false]] yq Y Y Y Y ⟨λg _ w hk Z _ hs=>bC (vF (S':=S) (off:=0) (es:=[_]) (c:=.lit (.pointer (some ⟨g.2.2.1,0,none⟩))) V hJ0 UP Y hk Z (kj (hs 3 10 _ 12 Y Y Y Y)) (by rw[(hs 2 9 _ 47 Y Y Y Y)];exact Rel.aG _) (lb Y) Y) λv w' hp=>⟨g,λ_ _=>rfl,λe=>(by cases e),True.intro,hp⟩,U⟩
    clear a w h
    rintro⟨m2,x3,b4,b5⟩
    dsimp only[List.map]
    refine ip ?_
    refine l4 0 λ_=>?_
    refine uT ?_
    refine hU (m:=5) ?_
    refine aT tb V [1,1001] [_,.fn 90 [.ptr [ct ((aX d z ss).1)]]] [1] U2 Y ⟨bN hS V (RL V ((aX d z ss).1)) (cO func63),U⟩ ?_
    refine ip ?_
    refine uS ?_
    refine ox (λh=>oa (p:=(([])=gr (aX d z ss).1 ([]:List (Nat×List BA)).length)) (Y) h) ?_
    refine HI (m:=5) (κ:=(List (BA×Int))) (μ:=Empty) (σ:=Empty) (RM V (aX d z ss).1 oz) (cO func90) V hS hJ0 b9 (λpre (L:(List (BA×Int)))=>[OB.mA (L=gr (aX d z ss).1 pre.length),OB.var b5 [.lit (.pointer (some ⟨b4,0,none⟩))],OB.var b4 [ai d.bH,ai d.vars,dU d.ab,lI (z.toNat:Int),br ss,ct ((aX d z ss).1),lI ((gE (fN ss):Nat):Int),.lit (.map (some m2))],OB.mI m2 L]) (λq':Empty=>undef) (λq'=>[]) (λs'=>[]) ([]) (λx9=>[(12,.at b5 0),(13,.int (x9.1:Nat)),(14,.rd (ai x9.2))]) (lb Y) (lb Y) func32 ?_ ?_ ?_ ?_ ?_ ?_ ?_
    · exact λa w h=>xl (h.get 1 Y)
    ·
     rintro m9 l9 R' pre x9 L K9 pU
     refine ak tb V [0,2,1000] [_] U3 ?_
     refine ln 0 λ_=>?_
     refine Hl tb V [1,2,1000] [_] U3 ?_
     exact pU
    ·
     rintro m9 l9 R' pre x9 L hpre
     refine xL λhF=>?_
     have ic:L=gr (aX d z ss).1 pre.length:=hF
     have mL:=MM hpre
     refine ln 2 λ_=>?_
     refine ax (tw dq (λa w h=>iq (γ:=Unit) (λix'=>([.at b4 0,.at b4 0,.at b4 7,.lit (.map (some m2)),.rd (ai x9.2),.str (cn x9.2),.int (x9.1:Nat),.any]:List AV).getD ix' .any) (λ_=>true) [(12,λ_=>.at b5 0)] (λj' _=>match j' with | 0=>(OB.mI m2 L::OB.var b5 [.lit (.pointer (some ⟨b4,0,none⟩))]::OB.var b4 [ai d.bH,ai d.vars,dU d.ab,lI (z.toNat:Int),br ss,ct ((aX d z ss).1),lI ((gE (fN ss):Nat):Int),.lit (.map (some m2))]::R') | _=>(OB.mI m2 (cl L (cn x9.2) (x9.1:Int))::OB.var b5 [.lit (.pointer (some ⟨b4,0,none⟩))]::OB.var b4 [ai d.bH,ai d.vars,dU d.ab,lI (z.toNat:Int),br ss,ct ((aX d z ss).1),lI ((gE (fN ss):Nat):Int),.lit (.map (some m2))]::R')) (λ_ _=>undef) [7] 0 () (λ_=>Y) h V cP Y Y Y Y Y Y hsb ⟨λ_ O' cf=>⟨Y,λ_ _ _ Z hl _=>cg w4 Y (aH Z (cf _ (mo 1 Y))) (hl.env 0 12 _ Y Y) Y Z⟩,oX Y λZ hl=>jl Y (hl.D 0 52 Y Y) Z,oX Y λZ hl=>cv Nr Y (hl.D 1 53 Y Y) Z,λ_ O' cf=>⟨Y,λ_ _ _ Z hl _=>cg Rf Y (aH Z (cf _ (mo 2 Y))) (hl.D 2 54 Y Y) Y Z⟩,oX Y λZ hl=>b8 Y (hl.env 2 14 _ Y Y) Z,?_,oX Y λZ hl=>b8 Y (hl.env 1 13 _ Y Y) Z,bB Y,U⟩ ⟨?LL,U⟩ ⟨.old 0 12 _,U⟩ ?Xi))
     exact oY Y λhk Z hl=>cQ (w8 V x9.2 (by exact(jT.2 _ mL.2.2).1.2) (by exact(jT.2 _ mL.2.2).2)) (cO func64) Y (aK hS _ hk Z) (Z.1) (aq (hl.D 4 56 Y Y) aP) (jo V Z)
     case LL=>exact⟨_,Y,Y,Y,Y,λg _ w hk Z hl _=>bC (pJ (f:=(λz':Int=>AV.int z')) wQ V hJ0 (cn x9.2) (x9.1:Int) (.inl Y) hk Z (hl.D 3 55 Y Y) (hl.D 5 57 Y Y) (hl.D 6 58 Y Y)) λv w' ⟨_,hp⟩=>⟨g,Y,λ_ _=>rfl,λe=>(by cases e),hp⟩⟩
     clear a w h
     intro _
     dsimp only[List.map]
     refine kw dq (kw dq ?_)
     exact kw (λh=>oa (p:=((cl L (cn x9.2) (x9.1:Int))=gr (aX d z ss).1 (pre++[x9]).length)) (by rw[mL.2.1,<-ic]) h) (λa w h=>⟨(cl L (cn x9.2) (x9.1:Int)),h.keep,h.x⟩)
    ·
     rintro fa L D
     refine kw bQ (xG λhF=>?_)
     have ic:L=gr (aX d z ss).1 (ig (aX d z ss).1).length:=hF
     refine rS (m:=5) ?_
     refine sR ?_
     refine my ?_
     refine sy (.at b4 0) (λh=>cg w4 Y (aH h.x (mo 1 Y)) (h.get 0 Y) Y h.x) ?_
     refine ao 2 tb Y (aA [0,1] U2 Y ?_)
     refine tZ ?_
     refine vE ?_
     refine w5 V hJ0 ?_
     refine kw bQ (kw (λh=>fg hS h (m:=1) (s:=6) Y) ?_)
     refine kw cR (kw (ji (congrArg (λz'=>OB.mI m2 (z')) (show L=(gr (aX d z ss).1 (aX d z ss).1.length)from by rw[ic,sI]))) ?_)
     exact λa w h=>Qa  (m:=0) (k:=1) m2 Y h Y Y (VH (show(.ptr [ai d.bH,ai d.vars,dU d.ab,lI (z.toNat:Int),br ss,ct ((aX d z ss).1),lI ((gE (fN ss):Nat):Int),.lit (.map (some m2))]:AV)= .ptr [ai d.bH,ai d.vars,dU d.ab,lI (z.toNat:Int),br ss,ct ((aX d z ss).1),lI (((dr ss):Nat):Int),.lit (.map (some m2))]from by rfl) (eI (by rfl)))
    · exact λs=>s.elim
    · exact λv h=>by cases h
    · exact λq=>q.elim
theorem RN (d:Db) (z:Int) (ss:List Stp) (step:Nat) (hw:∀ f∈d.ab,f.wide.length*32<=140737488351232) (hG:iv J) (hr:dF d z ss=0) (h16:ss.length<=16) (rA:d.ab.length<=16) (hs:step<ss.length):Fn prog J 15 [.agg (bZ d),.int z,.agg (bw ss),.int (step:Nat)] (.bJ [.rd (nv (li (fF d z ss) step)),.int 0]):=by
 refine fE func15 λS w0 hS hJ0=>?_
 refine tw cc (au tb V [1,3,1000,1001] [.ptr (bZ d),.ptr (bw ss),_,_] [0,1] U4 Y ⟨cW hS V,cW hS V,U⟩ ?_)
 refine aL (ao 3 tb (env':=[(15,_),(14,_),(13,_),(1,_),(3,_),(4,_),(6,_)]) Y (iI (O:=[]) (R:=[]) (GZ V d z ss (by exact hw) (by exact hG) (by exact hr)) (cO func32) Y Y Y (lb Y) hS hJ0 b9 (λa w h=>(aq (h.get 2 Y) (aq (h.get 1 Y) (aq (h.get 0 Y) aP)))) λz1=>?_))
 refine ao 5 tb (env':=[(11,_),(10,_),(18,_),(17,_),(12,_),(16,_),(15,_),(14,_),(13,_),(1,_),(3,_),(4,_),(6,_)]) Y (aA [0,1,10,12] U4 Y ?_)
 refine nx (af (ak tb V [0,1,2,3,1001] U2 U5 ?_))
 refine cj 4 ?_ ?_<;>intro hb1
 ·
  exact False.elim (by simp at hb1)
 ·
  refine aj (nx (af (au tb V [1,2,1008] (V6 [.int (ss.length:Nat),_,_]) [6] U3 Y ⟨aD ep,U⟩ ?_)))
  refine cj 2 ?_ ?_<;>intro hb2
  ·
   exact False.elim (by simp at hb2;omega)
  ·
   refine aj (nx (au tb V [1002,1003,1004] [_,_,.rd (nv (li (⟨d,z.toNat,ss,((aX d z ss).1),(gr (aX d z ss).1 (aX d z ss).1.length)⟩:Jb) step)),_,_] [2] U3 Y ⟨λ_ _ hk Z hl _=>dE (Su V d z.toNat ss ((aX d z ss).1) z1 (gr (aX d z ss).1 (aX d z ss).1.length) step (by exact FC hr h16 rA hw) (by exact hs)) (cO func41) Y (aK hS _ hk Z) (Z.1) (dC (aH Z (mo 0 Y)) b9) (aq (hl.D 0 31 Y Y) (aq (hl.D 1 32 Y Y) aP)) (jo V Z),U⟩ ?_))
   refine ln 0 λ_=>?_
   exact aZ (λa w h=>dX (m:=1) (k:=2) Y (d9 h) Y Y (congrArg (λz=>AV.rd (nv z)) (show(li (⟨d,z.toNat,ss,((aX d z ss).1),(gr (aX d z ss).1 (aX d z ss).1.length)⟩:Jb) step)=(li (fF d z ss) step)from by rfl)) (eI (by rfl)))
end
end
section
open Go.RowKit
theorem VV:prog.underlying 42=some (.slice 37):=by kernel_rfl
theorem mw:ol prog 28 [.slice none 0 0]:=⟨λi=>(#[(0,1)]:Array (Nat×Nat))[i]?,λj hj=>by rcases j with _ | j<;>first | rfl | (simp at hj;omega) | simp at hj,λparts=>by kernel_rfl⟩
end
section
def vM (f:Fr):Bool:=decide ((12:Int)< ((f.aa.length:Nat):Int))||decide ((40:Int)< ((f.ac.length:Nat):Int))||decide ((60:Int)< ((f.proof.length:Nat):Int))
def ta (d:Db) (ss:List Stp):Bool:=decide (((ss.length:Nat):Int)<=16)&&decide (((d.ab.length:Nat):Int)<=16)&& !d.ab.any vM
theorem MH {d:Db} {ss:List Stp} (h:ta d ss=true):ss.length<=16/\d.ab.length<=16:=by
 simp only[ta,Bool.and_eq_true,decide_eq_true_eq]at h
 omega
end
section
open Go.RowKit
section
variable {J:WP} (V:aS J)
include V
theorem Wu (f:Fr)  :Fn prog J 29 [.agg (aY f)] (.bool (vM f)):=by
 refine fE func29 λS w0 hS hJ0=>?_
 clear hJ0
 refine aJ tb V [1000] [.ptr (aY f),_] [0] [_] Y ⟨ej hS V,U⟩ ?_
 refine aJ tb V [1001,1016] [_,_,.int (f.aa.length:Nat),_,_,_,_,.int (f.ac.length:Nat),_,_,_,_,_,.int (f.proof.length:Nat),_,_,_] [2,7,13] U2 Y ⟨aD cT,aD b6,aD b6,U⟩ ?_
 refine ln 0 λ_=>?_
 exact aU 1 (hE:=eB (Y))
theorem Wt (d:Db) (ss:List Stp)  :Fn prog J 8 [.agg (bZ d),.agg (bw ss)] (.bool (ta d ss)):=by
 refine fE func8 λS w0 hS hJ0=>?_
 clear hJ0
 refine aJ tb V [1000,1001] [.ptr (bZ d),.ptr (bw ss),_] [0,1] U2 Y ⟨ej hS V,ej hS V,U⟩ ?_
 refine aJ tb V [1001,1016] [_,_,.int (ss.length:Nat),_,_,_,_,.int (d.ab.length:Nat),_,_,_,_,_,.bool (d.ab.any vM),_,_,_] [2,7,13] U2 Y ⟨aD ep,aD m8,λ_ _ hk Z hl hc=>dE (RU V d.ab 29 [] [] vM (λq'=>(Wu V q').rr) ((cO func29))) (cO func28) Y (nm hS hk) (Z) b9 (aq (hl.D 12 17 Y hc) (aq (pc 29) aP)) (js V Z),U⟩ ?_
 refine ln 0 λ_=>?_
 exact aU 1 (hE:=eB (Y))
theorem I9 (l:List Int)  :Fn prog J 39 [.rd (bS l),.rd (bS l)] (.bool false):=by
 refine fE func39 λS w0 hS hJ0=>?_
 clear hJ0
 refine ln 0 λ_=>?_
 refine qs tb V [0,1] [_] U2 ?_
 refine af (qs tb V [0,1,1000] [_] U3 ?_)
 refine ax (lp (ι:=Nat) (λk=>(k<=l.length)) (λk=>[(5,.int (k:Nat))]) (λk=>l.length-k) [0,1,2] U2 0 (show(0<=l.length)from Nat.zero_le _) ?_)
 rintro k hF
 have aQ:k<=l.length:=hF
 refine af (aJ tb V [0,1,2,1009] [_,_,.int (l.length:Nat),_,_,_,_,.int (l.length:Nat),_,_] [2,7] U4 Y ⟨aD eW,aD eW,U⟩ ?_)
 refine cj 3 ?_ ?_<;>intro hb1<;>try simp at hb1
 ·
  refine aj (nx (af (ax (aJ tb V [0,1,2,1008] [_,_,.ptr [lI (G l k)],_,_,_,.ptr [lI (G l k)],_,_] [2,6] U4 Y ⟨bn dc,bn dc,U⟩ ?_))))
  refine cj 3 ?_ ?_<;>intro hb2
  ·
   exact False.elim (by simp at hb2)
  ·
   refine aj (nx (dI tb V [0,1,1002] [_,.int (k+1:Nat),_] [1] U3 Y ⟨aM,U⟩ ?_))
   exact dO (k+1) [0,1,2] (show((k+1)<=l.length)from by omega)
 ·
  refine aW (nx (aJ tb V [1005] [_,.int (l.length:Nat),_,.int (l.length:Nat),_,_] [1,3] [_] Y ⟨aD eW,aD eW,U⟩ ?_))
  exact aU 0 (hE:=eB yz)
theorem Wq (ss:List Stp)  :Fn prog J 13 [.agg (bw ss),.agg (bw ss)] (.bool true):=by
 refine fE func13 λS w0 hS hJ0=>?_
 refine tw cc (au tb V [1000,1001] [.ptr (bw ss),.ptr (bw ss),_] [0,1] U2 Y ⟨cW hS V,cW hS V,U⟩ ?_)
 refine af (au tb V [0,1,1001,1004,1006] [_,_,.int (ss.length:Nat),_,_,.int (ss.length:Nat),_] [2,5] U5 Y ⟨aD ep,aD ep,U⟩ ?_)
 refine ln 2 λ_=>?_
 refine cj 4 ?_ ?_<;>intro hb1
 ·
  exact False.elim (by simp at hb1)
 ·
  refine aj (nx (af (ak tb V [0,1,1000] [_] U3 ?_)))
  refine ax (lpo (ι:=Nat) (λk=>(k<=ss.length)) (λ_=>[]) (λk=>[(5,.int (k:Nat))]) (λk=>ss.length-k) [0,1,2] U2 0 (show(0<=ss.length)from Nat.zero_le _) ?_)
  rintro k hF
  have aQ:k<=ss.length:=hF
  refine af (au tb V [0,1,2,1004] (V3 [.int (ss.length:Nat),_]) [3] U4 Y ⟨aD ep,U⟩ ?_)
  refine cj 3 ?_ ?_<;>intro hb2<;>try simp at hb2
  ·
   refine aj (nx (af (ax (af (λa w h=>k6 [] (γ:=Nat×Nat) (λix'=>([.ptr (bw ss),.rd (br ss),.int (k:Nat),.ptr (bF (G ss k)),.agg (bF (G ss k)),.ptr (bw ss),.rd (br ss),.int (k:Nat),.ptr (bF (G ss k)),.agg (bF (G ss k)),.any,.any,.any,.any]:List AV).getD ix' .any) (λ_=>true) [(2,λ_=>.ptr (bw ss)),(3,λ_=>.ptr (bw ss)),(5,λ_=>.int (k:Nat)),(6,λg=>.at g.1 0),(7,λg=>.at g.2 0)] (λ(b:List Bool) (g:Nat×Nat)=>(bif b.getD 3 false then [OB.var g.2 (bF (G ss k))]else(bif b.getD 1 false then [OB.var g.2 [lS (⟨#[]⟩:BA),bS ([]:List Int)]]else []))++((bif b.getD 2 false then [OB.var g.1 (bF (G ss k))]else(bif b.getD 0 false then [OB.var g.1 [lS (⟨#[]⟩:BA),bS ([]:List Int)]]else []))++([]))) (λk' g=>match k' with | 0=>(.pointer (some ⟨g.1,0,none⟩)) | 1=>(.pointer (some ⟨g.2,0,none⟩)) | _=>undef) [10,11,12,13] (0,0) (λ_=>Y) h V cP Y Y Y Y (λb g p hp=>(mem_append_right _ (mem_append_right _ hp))) ⟨oX Y λZ hl=>ca il Y (hl.env 0 2 _ Y Y) Z,oX Y λZ hl=>bU iF Y (hl.D 0 22 Y Y) Z,oX Y λZ hl=>b8 Y (hl.env 2 5 _ Y Y) Z,?_,oX Y λZ hl=>jB qX Y (hl.D 3 25 Y Y) aV Z,oX Y λZ hl=>ca il Y (hl.env 1 3 _ Y Y) Z,oX Y λZ hl=>bU iF Y (hl.D 5 27 Y Y) Z,oX Y λZ hl=>b8 Y (hl.env 2 5 _ Y Y) Z,?_,oX Y λZ hl=>jB qX Y (hl.D 8 30 Y Y) aV Z,bB Y,bB Y,bB Y,bB Y,U⟩ ⟨?Mg,?Mh,?Mi,?Mj,U⟩ ⟨.old 0 2 _,.old 1 3 _,.old 2 5 _,.dZ 0 10 6 (λ(g:Nat×Nat)=>(.pointer (some ⟨g.1,0,none⟩))) Y Y (λ_=>Y) (λ_=>True.intro),.dZ 1 11 7 (λ(g:Nat×Nat)=>(.pointer (some ⟨g.2,0,none⟩))) Y Y (λ_=>Y) (λ_=>True.intro),U⟩ ?QN)))))
   exact oX Y λZ hl=>cb (i:=(k:Int)) ey Y (hl.D 1 23 Y Y) (hl.D 2 24 Y Y) bM (cq (xs:=ss) (k:=k) az) Y Z
   exact oX Y λZ hl=>cb (i:=(k:Int)) ey Y (hl.D 6 28 Y Y) (hl.D 7 29 Y Y) bM (cq (xs:=ss) (k:=k) az) Y Z
   case Mg=>exact ew [[false,false,false,false],[false,true,false,false]] yq Y Y Y Y ⟨λg _ w hk Z _ _=>bC (gq og V Y hk Z) λv w' ⟨b',hv,hp⟩=>⟨(b',g.2),dY,λ_=>hv,True.intro,hp⟩,λg _ w hk Z _ _=>bC (gq og V rfl hk Z) λv w' ⟨b',hv,hp⟩=>⟨(b',g.2),dY,λ_=>hv,True.intro,kF (.refl _) (eE (A:=[OB.var g.2 [lS (⟨#[]⟩:BA),bS ([]:List Int)]])).symm hp⟩,U⟩
   case Mh=>exact ew [[false,false,false,false],[true,false,false,false]] yq Y Y Y Y ⟨λg _ w hk Z _ _=>bC (gq og V Y hk Z) λv w' ⟨b',hv,hp⟩=>⟨(g.1,b'),dY,λ_=>hv,True.intro,hp⟩,λg _ w hk Z _ _=>bC (gq og V rfl hk Z) λv w' ⟨b',hv,hp⟩=>⟨(g.1,b'),dY,λ_=>hv,True.intro,hp⟩,U⟩
   case Mi=>exact ew [[true,true,false,false]] yq Y Y Y Y ⟨λg _ w hk Z hl hs=>(by obtain⟨eJ,hv2,ed⟩:=jm ((hl.D 4 26 Y Y).sub λ_ _ hs=>hs.perm (eE (A:=[OB.var g.2 [lS (⟨#[]⟩:BA),bS ([]:List Int)]])));exact bC (ii (S':=S) (off:=0) (news:=U2) (es:=U2) (us:=eJ) V hJ0 n9 Y hk (fI (eE (A:=[OB.var g.2 [lS (⟨#[]⟩:BA),bS ([]:List Int)]])) Z) (kj (hs 0 10 _ 6 Y Y Y Y)) (by rw[hv2];rfl) ed (lb Y) Y) λv w' hp=>⟨g,λ_ _=>rfl,λe=>(by cases e),True.intro,kF (eE (A:=[OB.var g.2 [lS (⟨#[]⟩:BA),bS ([]:List Int)]])).symm (eE (A:=[OB.var g.2 [lS (⟨#[]⟩:BA),bS ([]:List Int)]])).symm hp⟩),U⟩
   case Mj=>exact ew [[true,true,true,false]] yq Y Y Y Y ⟨λg _ w hk Z hl hs=>(by obtain⟨eJ,hv2,ed⟩:=jm (hl.D 9 31 Y Y);exact bC (ii (S':=S) (off:=0) (news:=U2) (es:=U2) (us:=eJ) V hJ0 n9 Y hk Z (kj (hs 1 11 _ 7 Y Y Y Y)) (by rw[hv2];rfl) ed (lb Y) Y) λv w' hp=>⟨g,λ_ _=>rfl,λe=>(by cases e),True.intro,hp⟩),U⟩
   clear a w h
   rintro⟨b1,b2⟩
   dsimp only[List.map]
   refine kw bQ (kw (λh=>fg hS h (m:=3) (s:=6) Y) ?_)
   refine kw (λh=>fg hS h (m:=4) (s:=7) Y) (nx (au tb V [2,3,4,1018] (qU [.bool false,_,_,_,_,_,_,.bool false,_]) [10,17] U4 Y ⟨bN hS V (I9 V ((G ss k).args)) (cO func39),bN hS V (I9 V ((G ss k).args)) (cO func39),U⟩ ?_))
   refine cj 3 ?_ ?_<;>intro aE
   ·
    exact False.elim (by simp at aE)
   ·
    refine aj (nx (aT tb V [0,1,1002] [_,.int (k+1:Nat),_] [1] U3 Y ⟨aM,U⟩ ?_))
    exact bq (k+1) [0,1,2] (show((k+1)<=ss.length)from by omega)
  ·
   refine aW (nx (ak tb V [1000] [_] [_] ?_))
   exact bL 0 (hE:=Y)
end
theorem B7:f8 prog 72 [lS ⟨#[]⟩,lB false,.sl [],.sl [],.sl [],.sl [],.sl [],.sl []]:=⟨(.agg #[.string ⟨#[]⟩,.bool false,.slice none 0 0,.slice none 0 0,.slice none 0 0,.slice none 0 0,.slice none 0 0,.slice none 0 0]),λw=>by kernel_rfl,λS w=>(show bD S w [lS ⟨#[]⟩,lB false,.sl [],.sl [],.sl [],.sl [],.sl [],.sl []] [.string ⟨#[]⟩,.bool false,.slice none 0 0,.slice none 0 0,.slice none 0 0,.slice none 0 0,.slice none 0 0,.slice none 0 0]from⟨.lit _ aI,.lit _ True.intro,.nil _ _ aI,.nil _ _ aI,.nil _ _ aI,.nil _ _ aI,.nil _ _ aI,.nil _ _ aI,U⟩)⟩
theorem Cc:mi prog 9 1:=⟨(.string ⟨#[]⟩),λw=>by kernel_rfl,Y,by simp[Value.cells,Value.oneCell']⟩
theorem Ke:ol prog 72 [.string ⟨#[]⟩,.bool false,.slice none 0 0,.slice none 0 0,.slice none 0 0,.slice none 0 0,.slice none 0 0,.slice none 0 0]:=⟨λi=>(#[(0,1),(1,1),(2,1),(3,1),(4,1),(5,1),(6,1),(7,1)]:Array (Nat×Nat))[i]?,λj hj=>by rcases j with _ | _ | _ | _ | _ | _ | _ | _ | j<;>first | rfl | (simp at hj;omega) | simp at hj,λparts=>by kernel_rfl⟩
theorem BH:dS prog 72 8:=zO
theorem WO:j4 prog 119:=⟨.agg #[.string ⟨#[]⟩,.bool false,.slice none 0 0],λw=>by kernel_rfl⟩
theorem B6:f8 prog 25 [.sl [],.sl [],.sl []]:=⟨(.agg #[.slice none 0 0,.slice none 0 0,.slice none 0 0]),λw=>by kernel_rfl,λS w=>(show bD S w [.sl [],.sl [],.sl []] [.slice none 0 0,.slice none 0 0,.slice none 0 0]from⟨.nil _ _ aI,.nil _ _ aI,.nil _ _ aI,U⟩)⟩
theorem Kb:Ch prog 25:=λad qW k c k' c'=>by kernel_rfl
theorem BF:dS prog 25 3:=zO
abbrev xA:BA:=⟨#[97]⟩
abbrev xB:BA:=⟨#[98]⟩
abbrev xC:BA:=⟨#[99]⟩
abbrev xD:BA:=⟨#[100]⟩
abbrev xP:BA:=⟨#[112]⟩
abbrev xQ:BA:=⟨#[113]⟩
abbrev xR:BA:=⟨#[114]⟩
abbrev xT:BA:=⟨#[116]⟩
abbrev xI:BA:=⟨#[124,45]⟩
def dT (l to:BA) (fr:List BA):Fr:=⟨l,false,fr.map λs=>⟨l++s,false,[⟨#[124,45]⟩,s]⟩,[],[⟨#[124,45]⟩,to],[],[],[]⟩
abbrev jy:Fr:= { dT ⟨#[116]⟩ ⟨#[113]⟩ []with thm:=true }
theorem uI {J:WP} (V:aS J) (l to:BA) (fr:List BA) (hf:fr.length<=10) (hl:l.size<=10) (hs:∀ s∈fr,s.size<=10):Fn prog J 60 [.str l,.str to,.rd (ai fr)] (.agg (aY (dT l to fr))):=by
 refine fE func60 λS w0 hS hJ0=>?_
 refine tw cc (ln 2 λcx=>?_)
 refine aL (cz B7 V Y Y Y (lb Y) λb1=>?_)
 refine aA [0,1,2,3] U4 Y (nx (tw (iK 119 3 V) ?_))
 refine aL (ao 2 tb Y (sq (.rd (ai ([xI,to]:List BA))) Y Y (lb Y) (λa _ h=>qr (k:=2) (us:=[a.eval (.const (.string { data:= #[124,45] })),a.eval (.tmp 11)]) bx Cc Y yz (bX (Rel.aG (.string { data:= #[124,45] }) (lb Y)) (bX (h.get 0 Y) cE)) Y dz dz (aK hS _ h.keep h.x _ aV) (jo V h.x)) ?_))
 refine sq (.agg [lS l,lB false,.lit (.slice none 0 0),bI ([]:List Pr),ai ([xI,to]:List BA),bW ([]:List Hy),bI ([]:List Pr),ai ([]:List BA)]) Y Y (lb Y) (λa _ h=>gg (ps:=[(0,a.eval (.tmp 10)),(4,a.eval (.tmp 12))]) (us:=[a.eval (.tmp 10),.bool false,.slice none 0 0,.slice none 0 0,a.eval (.tmp 12),.slice none 0 0,.slice none 0 0,.slice none 0 0]) Ke Y yz (kq (lb Y) (Rel.l7 (h.get 2 Y)) (kq (lb Y) (Rel.l7 (h.get 0 Y)) f9)) Y (bX (h.get 2 Y) (dP (.lit _ True.intro) (dP (.lit _ True.intro) (dP (.nil _ _ aI) (bX (h.get 0 Y) (dP (.nil _ _ aI) (dP (.nil _ _ aI) (dP (.nil _ _ aI) cE)))))))) h.x) ?_
 refine cz B7 V Y Y Y (lb Y) λb2=>?_
 refine ck (b:=b2) (off:=0) (es:=U8) (news:=U8) V hJ0 BH Y Y Y (lb Y) Y (λa w h=>⟨(h.get 0 Y),(h.get 1 Y)⟩) ?_
 refine aA [0,2,5,6,8] U5 Y (nx (ln 1 λhl2=>?_))
 refine af (au tb V [0,2,3,1000,1001,1002] [_,.int (fr.length:Nat),_] [1] U6 Y ⟨aD b6,U⟩ ?_)
 refine ax (lpo (ι:=Nat×(List Hy)×Value) (λ(q,hy,_)=>(q<=fr.length)/\(hy=(fr.take q).map λs=>(⟨l++s,false,[⟨#[124,45]⟩,s]⟩:Hy))) (λ(_,hy,wh)=>[OB.var b2 [lS l,lB false,.lit wh,bI ([]:List Pr),ai ([xI,to]),bW ([]:List Hy),bI ([]:List Pr),ai ([]:List BA)],OB.row wh 119 3 (hy.map aN),OB.var b1 [lS (⟨#[]⟩:BA),lB false,bW ([]:List Hy),bI ([]:List Pr),ai ([]:List BA),bW ([]:List Hy),bI ([]:List Pr),ai ([]:List BA)]]) (λ(q,_,_)=>[(16,.int (q:Nat))]) (λ(q,_,_)=>fr.length-q) (r6 []) U5 (0,[],(.slice none 0 0)) ⟨aI,Y⟩ ?_)
 rintro⟨q,hy,wh⟩ ⟨aQ,ah⟩
 refine ak tb V (r6 [1000]) [_] U7 ?_
 refine cI 6 ?_ ?_<;>intro hb1<;>try simp at hb1
 ·
  have Xc:=hs (G fr q) (aC oz)
  have Po:hy.length=q:=by rw[ah,length_map,length_take];omega
  refine aj (nx (af (ax (au tb V (r6 [1002]) [.ptr [lS (G fr q)],_,_] [0] U7 Y ⟨bn bx,U⟩ ?_))))
  refine cG (sq (.at b2 2) Y Y (lb Y) (λ_ _ h=>cv ti Y (h.get 0 Y) h.x) ?_)
  refine sy (.lit wh) (λh=>cg rW Y (aH h.x (mo 0 Y)) (h.get 0 Y) Y h.x) ?_
  refine ao 2 tb Y (sy (.str (l++(G fr q))) (λh=>Tm Y (h.get 1 Y) (h.get 0 Y) az h.x) ?_)
  refine ao 1 tb Y (sq (.rd (ai ([xI,(G fr q)]:List BA))) Y Y (lb Y) (λa _ h=>qr (k:=2) (us:=[a.eval (.const (.string { data:= #[124,45] })),a.eval (.tmp 25)]) bx Cc Y yz (bX (Rel.aG (.string { data:= #[124,45] }) (lb Y)) (bX (h.get 0 Y) cE)) Y dz dz (aK hS _ h.keep h.x _ aV) (jo V h.x)) ?_)
  refine sq (.agg (aN (⟨(l++(G fr q)),false,([xI,(G fr q)]:List BA)⟩:Hy))) Y Y (lb Y) (λa _ h=>gg (ps:=[(0,a.eval (.tmp 24)),(2,a.eval (.tmp 26))]) (us:=[a.eval (.tmp 24),.bool false,a.eval (.tmp 26)]) yv Y yz (kq (lb Y) (Rel.l7 (h.get 2 Y)) (kq (lb Y) (Rel.l7 (h.get 0 Y)) f9)) Y (bX (h.get 2 Y) (dP (.lit _ True.intro) (bX (h.get 0 Y) cE))) h.x) ?_
  refine sy (.rd (bW ([(⟨(l++(G fr q)),false,([xI,(G fr q)]:List BA)⟩:Hy)]))) (λh=>mY cD WO dz Y Y (h.get 0 Y) (aK hS _ h.keep h.x _ aV) (jo V h.x)) ?_
  refine kw bQ (fP (f:=aN) (m:=7) (s:=21) hy ([(⟨(l++(G fr q)),false,([xI,(G fr q)]:List BA)⟩:Hy)]) (λ_=>Y) nl V hJ0 Y Y Y (lb Y) Y Y (λa w h=>(h.get 0 Y)) az az λv3=>?_)
  refine sy (.at b2 2) (λh=>cv ti Y (h.get 10 Y) h.x) ?_
  refine kw bQ (gz (b:=b2) (off:=2) (es:=U8) V hJ0 Ig Y Y Y (lb Y) Y (λa w h=>⟨(h.get 0 Y),(h.get 1 Y)⟩) ?_)
  refine aA [2,4,11,12,13,14,15,16] U8 Y (nx (ln 0 λhl3=>?_))
  refine ln 1 λ_=>?_
  refine aT tb V [2,3,4,5,6,1001] [.int (q+1:Nat),_] [0] U6 Y ⟨aM,U⟩ ?_
  exact bq (q+1,hy++([(⟨(l++(G fr q)),false,([xI,(G fr q)]:List BA)⟩:Hy)]),v3) (r6 []) ⟨oz,by rw[List.take_add_one,List.getElem?_eq_getElem oz,<-cV oz,List.map_append,<-ah];rfl⟩
 ·
  refine aW (nx (tw bQ (tw (λh=>mf (j:=2) (cs':=[lS l,lB false,bW hy,bI ([]:List Pr),ai ([xI,to]),bW ([]:List Hy),bI ([]:List Pr),ai ([]:List BA)]) hS Y Y h) ?_)))
  refine aL (sy (.agg [lS l,lB false,bW hy,bI ([]:List Pr),ai ([xI,to]),bW ([]:List Hy),bI ([]:List Pr),ai ([]:List BA)]) (λh=>iX (ds:=[lS l,lB false,bW hy,bI ([]:List Pr),ai ([xI,to]),bW ([]:List Hy),bI ([]:List Pr),ai ([]:List BA)]) pu Y (aH h.x (mo 0 Y)) (h.get 0 Y) Y Y h.x) ?_)
  refine kw bQ (ck (b:=b1) (off:=0) (es:=U8) (news:=U8) V hJ0 BH Y Y Y (lb Y) Y (λa w h=>⟨(h.get 2 Y),(h.get 0 Y)⟩) ?_)
  exact aA [2] [_] Y (nx (aZ (λa w h=>jU (m:=0) Y pu h Y Y (show(_:List CD)=[lS ((dT l to fr).ae),lB ((dT l to fr).thm),bW ((dT l to fr).aa),bI ((dT l to fr).apart),ai ((dT l to fr).ac),bW ((dT l to fr).bA),bI ((dT l to fr).wide),ai ((dT l to fr).proof)]from by(rw[ah,show q=fr.length by omega,take_length];rfl)<;>rfl))))
theorem Ws {J:WP} (V:aS J)   :Fn prog J 30 [] (.bJ [.agg (bZ jx),.agg (bw i6)]):=by
 refine fE func30 λS w0 hS hJ0=>?_
 refine tw cc (aL ?_)
 refine cz B6 V Y Y Y (lb Y) λb1=>?_
 refine cz jI V Y Y Y (lb Y) λb2=>?_
 refine aA [0,1] U2 Y (nx (ak tb V [0,1,1000] [_] U3 ?_))
 refine aL (ao 1 tb Y (sy (.agg (aY (dT xT xQ ([]:List BA)))) (λh=>iW ((uI V xT xQ ([]:List BA) dz dz dz).rr) (cO func60) Y (h.get 0 Y) (aK hS _ h.keep h.x) (h.x.1) b9 (aq (Rel.aG (.string { data:= #[116] }) (lb Y)) (aq (Rel.aG (.string { data:= #[113] }) (lb Y)) (aq (wW (Rel.aG (.slice none 0 0))) aP))) (jo V h.x)) ?_))
 refine cz B7 V Y Y Y (lb Y) λb3=>?_
 refine ck (b:=b3) (off:=0) (es:=U8) (news:=U8) V hJ0 BH Y Y Y (lb Y) Y (λa w h=>⟨(h.get 0 Y),(h.get 1 Y)⟩) ?_
 refine aA [0,3,4,5] U4 Y (nx (aL ?_))
 refine sy (.at b3 1) (λh=>cv Nk Y (h.get 0 Y) h.x) ?_
 refine gz (b:=b3) (off:=1) (es:=U8) V hJ0 qB Y Y Y (lb Y) Y (λa w h=>⟨(h.get 0 Y),(Rel.aG (.bool true))⟩) ?_
 refine aA [1,2,3,4] U4 Y (nx (tw (ji (show OB.var b3 [lS ((dT xT xQ ([]:List BA)).ae),lB true,bW ((dT xT xQ ([]:List BA)).aa),bI ((dT xT xQ ([]:List BA)).apart),ai ((dT xT xQ ([]:List BA)).ac),bW ((dT xT xQ ([]:List BA)).bA),bI ((dT xT xQ ([]:List BA)).wide),ai ((dT xT xQ ([]:List BA)).proof)]=OB.var b3 (aY jy)from Y)) ?_))
 refine af (λa w h=>k6 [OB.var b3 (aY jy),OB.var b2 [br ([]:List Stp)],OB.var b1 [ai ([]:List BA),ai ([]:List BA),dU ([]:List Fr)]] (γ:=Nat) (λix'=>([.rd (ai ([xI,xP,xQ,xR]:List BA)),.fn 60 [],.agg (aY (dT xA xP ([]:List BA))),.fn 60 [],.rd (ai ([xP])),.agg (aY (dT xB xQ ([xP]))),.fn 60 [],.rd (ai ([xQ])),.agg (aY (dT xC xR ([xQ]))),.fn 60 [],.rd (ai ([xR])),.agg (aY (dT xD xQ ([xR]))),.agg (aY jy),.rd (dU ([(dT xA xP ([]:List BA)),(dT xB xQ ([xP])),(dT xC xR ([xQ])),(dT xD xQ ([xR])),jy])),.agg (bZ (⟨([xI,xP,xQ,xR]:List BA),[],[(dT xA xP ([]:List BA)),(dT xB xQ ([xP])),(dT xC xR ([xQ])),(dT xD xQ ([xR])),jy]⟩:Db)),.any,.any]:List AV).getD ix' .any) (λ_=>true) [(1,λ_=>.at b2 0),(0,λ_=>.at b1 0),(4,λg=>.at g 0)] (λ(b:List Bool) (g:Nat)=>(bif b.getD 1 false then [OB.var g (bZ (⟨([xI,xP,xQ,xR]:List BA),[],[(dT xA xP ([]:List BA)),(dT xB xQ ([xP])),(dT xC xR ([xQ])),(dT xD xQ ([xR])),jy]⟩:Db))]else(bif b.getD 0 false then [OB.var g [ai ([]:List BA),ai ([]:List BA),dU ([]:List Fr)]]else []))++([OB.var b3 (aY jy),OB.var b2 [br ([]:List Stp)],OB.var b1 [ai ([]:List BA),ai ([]:List BA),dU ([]:List Fr)]])) (λk' g=>match k' with | 0=>(.pointer (some ⟨g,0,none⟩)) | _=>undef) [15,16] 0 (λ_=>Y) h V cP Y Y Y Y (λb g p hp=>(mem_append_right _ hp)) ⟨?_,oX Y λZ hl=>b8 Y (hl.env 3 2 _ Y Y) Z,?_,oX Y λZ hl=>b8 Y (hl.env 3 2 _ Y Y) Z,λ_ O' _=>⟨Y,λ_ _ hk Z _ _=>ft bx j0 Y (Rel.aG (.string { data:= #[112] }) (lb Y)) (aK hS _ hk Z _ aV) (jo V Z)⟩,?_,oX Y λZ hl=>b8 Y (hl.env 3 2 _ Y Y) Z,λ_ O' _=>⟨Y,λ_ _ hk Z _ _=>ft bx j0 Y (Rel.aG (.string { data:= #[113] }) (lb Y)) (aK hS _ hk Z _ aV) (jo V Z)⟩,?_,oX Y λZ hl=>b8 Y (hl.env 3 2 _ Y Y) Z,λ_ O' _=>⟨Y,λ_ _ hk Z _ _=>ft bx j0 Y (Rel.aG (.string { data:= #[114] }) (lb Y)) (aK hS _ hk Z _ aV) (jo V Z)⟩,?_,λ_ O' cf=>⟨Y,λ_ _ _ Z hl _=>iX (ds:=[lS (jy.ae),lB (jy.thm),bW (jy.aa),bI (jy.apart),ai (jy.ac),bW (jy.bA),bI (jy.wide),ai (jy.proof)]) pu Y (aH Z (cf _ (mo 0 Y))) (hl.env 0 3 _ Y Y) Y Y Z⟩,?_,oX Y λZ hl=>Tq (xs:=([xI,xP,xQ,xR]:List BA)) (fs:=([(dT xA xP ([]:List BA)),(dT xB xQ ([xP])),(dT xC xR ([xQ])),(dT xD xQ ([xR])),jy])) Kb Y (hl.D 0 8 Y Y) (hl.D 13 21 Y Y) Z,bB Y,bB Y,U⟩ ⟨?y6,?y7,U⟩ ⟨.old 1 1 _,.old 2 0 _,.dZ 0 15 4 (λ(g:Nat)=>(.pointer (some ⟨g,0,none⟩))) Y Y (λ_=>Y) (λ_=>True.intro),U⟩ ?QM)
 exact λ_ O' _=>⟨Y,λa _ hk Z _ _=>qr (k:=4) (us:=[a.eval (.const (.string { data:= #[124,45] })),a.eval (.const (.string { data:= #[112] })),a.eval (.const (.string { data:= #[113] })),a.eval (.const (.string { data:= #[114] }))]) bx Cc Y yz (bX (Rel.aG (.string { data:= #[124,45] }) (lb Y)) (bX (Rel.aG (.string { data:= #[112] }) (lb Y)) (bX (Rel.aG (.string { data:= #[113] }) (lb Y)) (bX (Rel.aG (.string { data:= #[114] }) (lb Y)) cE)))) Y dz dz (aK hS _ hk Z _ aV) (jo V Z)⟩
 exact oY Y λhk Z hl=>iW ((uI V xA xP ([]:List BA) dz dz dz).rr) (cO func60) Y (hl.D 1 9 Y Y) (aK hS _ hk Z) (Z.1) b9 (aq (Rel.aG (.string { data:= #[97] }) (lb Y)) (aq (Rel.aG (.string { data:= #[112] }) (lb Y)) (aq (wW (Rel.aG (.slice none 0 0))) aP))) (jo V Z)
 exact oY Y λhk Z hl=>iW ((uI V xB xQ ([xP]) dz dz dz).rr) (cO func60) Y (hl.D 3 11 Y Y) (aK hS _ hk Z) (Z.1) b9 (aq (Rel.aG (.string { data:= #[98] }) (lb Y)) (aq (Rel.aG (.string { data:= #[113] }) (lb Y)) (aq (hl.D 4 12 Y Y) aP))) (jo V Z)
 exact oY Y λhk Z hl=>iW ((uI V xC xR ([xQ]) dz dz dz).rr) (cO func60) Y (hl.D 6 14 Y Y) (aK hS _ hk Z) (Z.1) b9 (aq (Rel.aG (.string { data:= #[99] }) (lb Y)) (aq (Rel.aG (.string { data:= #[114] }) (lb Y)) (aq (hl.D 7 15 Y Y) aP))) (jo V Z)
 exact oY Y λhk Z hl=>iW ((uI V xD xQ ([xR]) dz dz dz).rr) (cO func60) Y (hl.D 9 17 Y Y) (aK hS _ hk Z) (Z.1) b9 (aq (Rel.aG (.string { data:= #[100] }) (lb Y)) (aq (Rel.aG (.string { data:= #[113] }) (lb Y)) (aq (hl.D 10 18 Y Y) aP))) (jo V Z)
 exact λ_ O' _=>⟨Y,λa w hk Z hl _=>HH (z:= #[.string ⟨#[]⟩,.bool false,.slice none 0 0,.slice none 0 0,.slice none 0 0,.slice none 0 0,.slice none 0 0,.slice none 0 0]) (cs:=[aY (dT xA xP ([]:List BA)),aY (dT xB xQ ([xP])),aY (dT xC xR ([xQ])),aY (dT xD xQ ([xR])),aY jy]) (vs:=[a.eval (.tmp 10),a.eval (.tmp 13),a.eval (.tmp 16),a.eval (.tmp 19),a.eval (.tmp 20)]) fK (λw=>by kernel_rfl) Y yz (aq (hl.D 2 10 Y Y) (aq (hl.D 5 13 Y Y) (aq (hl.D 8 16 Y Y) (aq (hl.D 11 19 Y Y) (aq (hl.D 12 20 Y Y) aP))))) (of_decide_eq_true Y) Y dz dz dz (aK hS _ hk Z _ aV) (jo V Z)⟩
 case y6=>exact ew [[false,false]] yq Y Y Y Y ⟨λ_ _ w hk Z _ _=>bC (gq B6 V Y hk Z) λv w' ⟨b',hv,hp⟩=>⟨b',dY,λ_=>hv,True.intro,hp⟩,U⟩
 case y7=>exact ew [[true,false]] yq Y Y Y Y ⟨λg _ w hk Z hl hs=>(by obtain⟨eJ,hv2,ed⟩:=jm (hl.D 14 22 Y Y);exact bC (ii (S':=S) (off:=0) (news:=U3) (es:=U3) (us:=eJ) V hJ0 BF Y hk Z (kj (hs 0 15 _ 4 Y Y Y Y)) (by rw[hv2];rfl) ed (lb Y) Y) λv w' hp=>⟨g,λ_ _=>rfl,λe=>(by cases e),True.intro,hp⟩),U⟩
 clear a w h
 intro b4
 dsimp only[List.map]
 refine kw (λh=>fg hS h (m:=2) (s:=4) Y) (nx (aL ?_))
 refine ao 1 tb Y (sq (.agg (bF (⟨xA,[]⟩:Stp))) Y Y (lb Y) (λa _ h=>gg (ps:=[(0,a.eval (.const (.string { data:= #[97] })))]) (us:=[a.eval (.const (.string { data:= #[97] })),.slice none 0 0]) yw Y yz (kq (lb Y) Y f9) Y (bX (Rel.aG (.string { data:= #[97] }) (lb Y)) (dP (.nil _ _ aI) cE)) h.x) ?_)
 refine sy (.rd (bS ([(0:Int)]))) (λh=>ft dc pi Y (Rel.aG (.int .i64 0)) (aK hS _ h.keep h.x _ aV) (jo V h.x)) ?_
 refine sq (.agg (bF (⟨xB,[(0:Int)]⟩:Stp))) Y Y (lb Y) (λa _ h=>gd (us:=[a.eval (.const (.string { data:= #[98] })),a.eval (.tmp 25)]) q9 Y yz (bX (Rel.aG (.string { data:= #[98] }) (lb Y)) (bX (h.get 0 Y) cE)) Y h.x) ?_
 refine sy (.rd (bS ([(1:Int)]))) (λh=>ft dc pi Y (Rel.aG (.int .i64 1)) (aK hS _ h.keep h.x _ aV) (jo V h.x)) ?_
 refine sq (.agg (bF (⟨xC,[(1:Int)]⟩:Stp))) Y Y (lb Y) (λa _ h=>gd (us:=[a.eval (.const (.string { data:= #[99] })),a.eval (.tmp 27)]) q9 Y yz (bX (Rel.aG (.string { data:= #[99] }) (lb Y)) (bX (h.get 0 Y) cE)) Y h.x) ?_
 refine sy (.rd (bS ([(2:Int)]))) (λh=>ft dc pi Y (Rel.aG (.int .i64 2)) (aK hS _ h.keep h.x _ aV) (jo V h.x)) ?_
 refine sq (.agg (bF (⟨xD,[(2:Int)]⟩:Stp))) Y Y (lb Y) (λa _ h=>gd (us:=[a.eval (.const (.string { data:= #[100] })),a.eval (.tmp 29)]) q9 Y yz (bX (Rel.aG (.string { data:= #[100] }) (lb Y)) (bX (h.get 0 Y) cE)) Y h.x) ?_
 refine sq (.rd (br ([(⟨xA,[]⟩:Stp),(⟨xB,[(0:Int)]⟩:Stp),(⟨xC,[(1:Int)]⟩:Stp),(⟨xD,[(2:Int)]⟩:Stp)]))) Y Y (lb Y) (λa _ h=>HH (z:= #[.string ⟨#[]⟩,.slice none 0 0]) (cs:=[bF (⟨xA,[]⟩:Stp),bF (⟨xB,[(0:Int)]⟩:Stp),bF (⟨xC,[(1:Int)]⟩:Stp),bF (⟨xD,[(2:Int)]⟩:Stp)]) (vs:=[a.eval (.tmp 24),a.eval (.tmp 26),a.eval (.tmp 28),a.eval (.tmp 30)]) ey (λw=>by kernel_rfl) Y yz (aq (h.get 6 Y) (aq (h.get 4 Y) (aq (h.get 2 Y) (aq (h.get 0 Y) aP)))) (of_decide_eq_true Y) Y dz dz dz (aK hS _ h.keep h.x _ aV) (jo V h.x)) ?_
 refine sq (.agg (bw ([(⟨xA,[]⟩:Stp),(⟨xB,[(0:Int)]⟩:Stp),(⟨xC,[(1:Int)]⟩:Stp),(⟨xD,[(2:Int)]⟩:Stp)]))) Y Y (lb Y) (λa _ h=>gd (us:=[a.eval (.tmp 31)]) vi Y yz (bX (h.get 0 Y) cE) Y h.x) ?_
 refine kw dq (ck (b:=b1) (off:=0) (es:=U3) (news:=U3) V hJ0 BF Y Y Y (lb Y) Y (λa w h=>⟨(h.get 12 Y),(h.get 9 Y)⟩) ?_)
 refine kw dq (ck (b:=b2) (off:=0) (es:=[_]) (news:=[_]) V hJ0 fZ Y Y Y (lb Y) Y (λa w h=>⟨(h.get 11 Y),(h.get 0 Y)⟩) ?_)
 refine aA [1,3,5,7,11,12] U6 Y (nx (ln 0 λcx=>?_))
 refine ln 1 λ_=>?_
 refine ln 2 λ_=>?_
 refine ln 3 λ_=>?_
 exact tw bQ (aZ (λa w h=>P9 (m:=5) (q:=4) Y uU eY h Y Y Y Y (show(_:List CD)=[ai jx.bH,ai jx.vars,dU jx.ab]from Y) (show(_:List CD)=[br i6]from Y)))
theorem I7:nj prog 28 1:=⟨(#[.slice none 0 0]),Y,by kernel_rfl⟩
theorem I8 {J:WP} (V:aS J)  (hG:iv J):Fn prog J 9 [] (.bool true):=by
 refine fE func9 λS w0 hS hJ0=>?_
 refine tw cc ?_
 obtain⟨lc,lY⟩:=MC
 obtain⟨xs,Fm⟩:∃ xs,li (fF jx 4 i6) 3=xs:=⟨_,Y⟩
 rw[Fm]at lY
 have nS:0<xs.length:=by rw[lY];simp
 refine ak tb V [] [_] [] ?_
 refine aL (sy (.bJ [.agg (bZ jx),.agg (bw i6)]) (λh=>cQ (Ws V  ) (cO func30) Y (aK hS _ h.keep h.x) (h.x.1) aP (jo V h.x)) ?_)
 refine ao 3 tb Y (cz B6 V Y Y Y (lb Y) λb1=>?_)
 refine cz jI V Y Y Y (lb Y) λb2=>?_
 refine kw bQ (ck (b:=b1) (off:=0) (es:=U3) (news:=U3) V hJ0 BF Y Y Y (lb Y) Y (λa w h=>⟨(h.get 1 Y),(h.get 3 Y)⟩) ?_)
 refine kw bQ (ck (b:=b2) (off:=0) (es:=[_]) (news:=[_]) V hJ0 fZ Y Y Y (lb Y) Y (λa w h=>⟨(h.get 0 Y),(h.get 2 Y)⟩) ?_)
 refine kw bQ (kw (λh=>fg hS h (m:=1) (s:=1) Y) ?_)
 refine kw (λh=>fg hS h (m:=1) (s:=2) Y) (aA [0,1] U2 Y ?_)
 refine nx (af (aT tb V [1004,1006,1007] [_,_,.bJ [.rd (nv (li (fF jx (4:Int) i6) 3)),.int 0],_,_,_,_,_] [2] U3 Y ⟨bN hS V (RN V jx (4:Int) i6 3 dz (by exact hG) (by exact MD) dz dz dz) (cO func15),U⟩ ?_))
 refine kw (sa 1 Y (congrArg (λz'=>AV.rd (nv z')) (show(li (fF jx (4:Int) i6) 3)=xs from Fm))) (nx (ln 0 λcx=>?_))
 refine ln 1 λ_=>?_
 refine au tb V [1036] (V4 [.int (xs.length:Nat),_,_,_,_,.ptr (cw (G xs 0)),_,_,_,_,_,_,.ptr (cw (G xs 0)),_,_,.rd (bS ([(1:Int)])),.bool (decide (((G xs 0).args)=([(1:Int)]))),_,_,_,.ptr (cw (G xs 0)),_,_,_,_,_,_,.ptr (cw (G xs 0)),_,_,_,_,_]) [4,9,16,19,20,24,31] [_] Y ⟨aD VV,cN (k:=0) sX (hk:=λ_=>by first | omega | (simp;omega) | grind[aC]),cN (k:=0) sX (hk:=λ_=>by first | omega | (simp;omega) | grind[aC]),λ_ _ hk Z _ _=>ft dc pi Y (Rel.aG (.int .i64 1)) (aK hS _ hk Z _ aV) (jo V Z),bN hS V (R1 V ((G xs 0).args) ([(1:Int)])) (cO func31),cN (k:=0) sX (hk:=λ_=>by first | omega | (simp;omega) | grind[aC]),cN (k:=0) sX (hk:=λ_=>by first | omega | (simp;omega) | grind[aC]),U⟩ ?_
 exact bL 0 (hE:=eB (by rw[lY];simp[G]))
end
section
open Go.RowKit
theorem KF {J:WP} (V:aS J) (d:Db) (i:Nat) (s:Stp) (gw:Value) (fs:List (List BA)) (hi:i<d.ab.length) (dW:dy d=0) (mL:∀ t∈fs,1<=t.length/\t.length<=2000) (oG:∀ j,j<s.args.length->0<=G s.args j/\G s.args j< (fs.length:Int)) (hap:∀ f∈d.ab,f.apart.length<=100000):cM prog J 99 [OB.row gw 22 1 (fs.map kG)] [.agg (bZ d),.int (i:Nat),.agg (bF s),.lit gw] (.bJ [.rd (ai ((cr d i s fs).1)),.int ((cr d i s fs).2)]):=by
 refine fk func99 λS w0 hS hJ0 hH=>?_
 refine tw cc (au tb V [1,3,1000,1001] [.ptr (bZ d),.ptr (bF s),_,_] [0,1] U4 Y ⟨cW hS V,cW hS V,U⟩ ?_)
 refine af (ak tb V [0,1,2,3,1002] U3 U5 ?_)
 refine cj 4 ?_ ?_<;>intro hb1
 ·
  have eU:=Ia (d:=d) (i:=i) (s:=s) (a:=fs) (by simpa using hb1)
  refine ak tb V [1000,1001] U2 U2 ?_
  exact tw (λh=>gj h (m:=0) (s:=8) Y) (aZ (λa w h=>dX (m:=0) (k:=1) Y (d9 h) Y Y (congrArg (λz=>AV.rd (ai z)) (show([]:List BA)=((cr d i s fs).1)from by rw[eU])) (eI (by rw[eU]))))
 ·
  have h0:¬ s.ae=⟨#[63]⟩:=by simpa using hb1
  refine aj (nx (af (af (λa w h=>iq (γ:=Nat) (λix'=>([.ptr [dU d.ab],.rd (dU d.ab),.int (i:Nat),.ptr (aY (G d.ab i)),.agg (aY (G d.ab i)),.ptr (bF s),.str s.ae,.bJ [.agg (aN ((cy (G d.ab i) s.ae).getD default)),.bool ((cy (G d.ab i) s.ae).isSome)],.bJ [.agg (aN ((cy (G d.ab i) s.ae).getD default)),.bool ((cy (G d.ab i) s.ae).isSome)],.agg (aN ((cy (G d.ab i) s.ae).getD default)),.bool ((cy (G d.ab i) s.ae).isSome),.any,.any,.bool ((cy (G d.ab i) s.ae).isSome)]:List AV).getD ix' .any) (λ_=>true) [(1,λ_=>.int (i:Nat)),(3,λ_=>.lit gw),(4,λ_=>.ptr (bZ d)),(6,λ_=>.ptr (bF s)),(10,λg=>.at g 0),(11,λ_=>.bool ((cy (G d.ab i) s.ae).isSome))] (λj' g=>match j' with | 0=>[] | 1=>[OB.var g [lS (⟨#[]⟩:BA),lB false,ai ([]:List BA)]] | _=>[OB.var g (aN ((cy (G d.ab i) s.ae).getD default))]) (λk' g=>match k' with | 0=>(.pointer (some ⟨g,0,none⟩)) | _=>undef) [11,12] 2 0 (λ_=>Y) h V cP Y Y Y Y Y Y hsb ⟨oX Y λZ hl=>ca pR Y (hl.env 2 4 _ Y Y) Z,oX Y λZ hl=>bU qk Y (hl.D 0 19 Y Y) Z,oX Y λZ hl=>b8 Y (hl.env 0 1 _ Y Y) Z,?_,oX Y λZ hl=>jB pu Y (hl.D 3 22 Y Y) aV Z,oX Y λZ hl=>ca Eh Y (hl.env 3 6 _ Y Y) Z,oX Y λZ hl=>bU fd Y (hl.D 5 24 Y Y) Z,oY Y λhk Z hl=>cQ (Kq V (G d.ab i) s.ae) (cO func129) Y (aK hS _ hk Z) (Z.1) (aq (hl.D 4 23 Y Y) (aq (hl.D 6 25 Y Y) aP)) (jo V Z),oX Y λZ hl=>b8 Y (hl.D 7 26 Y Y) Z,oX Y λZ hl=>gi Y (hl.D 8 18 Y Y) Y Z,oX Y λZ hl=>gi Y (hl.D 8 18 Y Y) Y Z,bB Y,bB Y,oX Y λZ hl=>gO Y (hl.D 10 28 Y Y) Z,U⟩ ⟨?nA,?pM,U⟩ ⟨.old 0 1 _,.old 1 3 _,.old 2 4 _,.old 3 6 _,.dZ 0 11 10 (λg=>(.pointer (some ⟨g,0,none⟩))) Y Y (λ_=>Y) (λ_=>True.intro),.new 13 11 _,U⟩ ?nU))))
  exact oX Y λZ hl=>cb (i:=(i:Int)) fK Y (hl.D 1 20 Y Y) (hl.D 2 21 Y Y) bM (cq (xs:=d.ab) (k:=i) az) Y Z
  case nA=>exact⟨_,Y,Y,Y,Y,λg _ w hk Z _ _=>bC (gq kK V Y hk Z) λv w' ⟨g',hv,hp⟩=>⟨g',Y,λk' hk'=>absurd hk' (Nat.not_lt_zero _),λ_=>hv,hp⟩⟩
  case pM=>exact⟨_,Y,Y,Y,Y,λg _ w hk Z hl hs=>(by obtain⟨eJ,hv2,ed⟩:=jm (hl.D 9 27 Y Y);exact bC (ii (S':=S) (off:=0) (news:=U3) (es:=U3) (us:=eJ) V hJ0 jn Y hk Z (kj (hs 0 11 _ 10 oz Y Y Y)) (by rw[hv2];rfl) ed (lb Y) Y) λv w' hp=>⟨g,Y,λ_ _=>rfl,λe=>(by cases e),hp⟩)⟩
  clear a w h
  intro b1
  dsimp only[List.map]
  refine kw (λh=>fg hS h (m:=4) (s:=10) Y) (nx (ak tb V (r5 [1000]) [_] U6 ?_))
  refine cj 5 ?_ ?_<;>intro hb2
  ·
   refine af (au tb V [0,1001,1003] [_,_,.int (s.args.length:Nat),_] [2] U3 Y ⟨aD eW,U⟩ ?_)
   refine ln 1 λ_=>?_
   refine cj 2 ?_ ?_<;>intro aE<;>try simp at aE
   ·
    have eU:=Ib (a:=fs) h0 hb2 oz
    refine ak tb V [1000,1001] U2 U2 ?_
    exact tw (λh=>gj h (m:=0) (s:=8) Y) (aZ (λa w h=>dX (m:=0) (k:=1) Y (d9 h) Y Y (congrArg (λz=>AV.rd (ai z)) (show([]:List BA)=((cr d i s fs).1)from by rw[eU])) (eI (by rw[eU]))))
   ·
    have eU:=Ic (a:=fs) h0 hb2 (by simpa using aE)
    refine aj (nx (ak tb V [1001,1002,1003] U4 U3 ?_))
    refine ln 0 λ_=>?_
    exact aZ (λa w h=>dX (m:=1) (k:=2) Y (d9 h) Y Y (congrArg (λz=>AV.rd (ai z)) (show(((cy (G d.ab i) s.ae).getD default).ac)=((cr d i s fs).1)from by rw[eU])) (eI (by rw[eU])))
  ·
   have e2:(cy (G d.ab i) s.ae)=none:=by cases h9:(cy (G d.ab i) s.ae)with | none=>rfl | some y=>rw[h9]at hb2;cases hb2
   refine aj (nx (au tb V [1,2,3,4,1005] (V4 [.int (dM d i s.ae),_]) [4] U5 Y ⟨bN hS V (Kj V d i s.ae oz) (cO func130),U⟩ ?_))
   refine af (ak tb V (r5 [1001]) U2 U6 ?_)
   refine cj 5 ?_ ?_<;>intro bh<;>try simp at bh
   ·
    have eU:=H8 (a:=fs) h0 e2 (show(dM d i s.ae)<0 by omega)
    refine ak tb V [1000,1001] U2 U2 ?_
    exact tw (λh=>gj h (m:=0) (s:=8) Y) (aZ (λa w h=>dX (m:=0) (k:=1) Y (d9 h) Y Y (congrArg (λz=>AV.rd (ai z)) (show([]:List BA)=((cr d i s fs).1)from by rw[eU])) (eI (by rw[eU]))))
   ·
    have e5:=uX (d:=d) (i:=i) (s:=s.ae) oz
    have e6:=pF dW _ (aC e5.2.2)
    have e9:(G d.ab (dM d i s.ae).toNat).aa.length<=2000:=e6.1.1
    refine tw (sa 4 Y (show(.int (dM d i s.ae):AV)= .int ((dM d i s.ae).toNat:Nat)from congrArg AV.int oz)) (aj (nx (af (au tb V (r5 [1001,1004,1008,1010]) [_,_,.int (s.args.length:Nat),_,_,_,.ptr (aY (G d.ab ((dM d i s.ae).toNat))),_,_,.int (((G d.ab ((dM d i s.ae).toNat)).aa).length:Nat),_] [2,6,9] U9 Y ⟨aD eW,bn fK,aD cT,U⟩ ?_))))
    refine ln 5 λ_=>?_
    refine ln 6 λ_=>?_
    refine ln 7 λ_=>?_
    refine cj 8 ?_ ?_<;>intro bV<;>try simp at bV
    ·
     have eU:=H9 (a:=fs) h0 e2 oz oz
     refine ak tb V [1000,1001] U2 U2 ?_
     exact tw (λh=>gj h (m:=0) (s:=8) Y) (aZ (λa w h=>dX (m:=0) (k:=1) Y (d9 h) Y Y (congrArg (λz=>AV.rd (ai z)) (show([]:List BA)=((cr d i s fs).1)from by rw[eU])) (eI (by rw[eU]))))
    ·
     have eg:s.args.length=(G d.ab (dM d i s.ae).toNat).aa.length:=by omega
     have eU:=BE (a:=fs) h0 e2 oz eg
     refine aj (nx (aL (ko eC V Y Y Y (lb Y) λv2=>?_)))
     refine ao 1 tb (env':=[(13,_),(54,_),(1,_),(3,_),(4,_),(6,_),(12,_),(44,_),(47,_),(51,_),(53,_)]) Y (aA [0,2,3,4,5,6] U6 Y ?_)
     refine nx (af (ak tb V (r6 [1000]) [_] U7 ?_))
     refine ax (lpo (ι:=Nat×Value×(List (List BA))) (λ(q,_,es)=>(q<=s.args.length)/\(es=a8 fs (s.args.take q))) (λ(_,ev,es)=>[OB.row ev 22 1 (es.map kG)]) (λ(q,ev,_)=>[(14,.int (q:Nat)),(13,.lit ev)]) (λ(q,_,_)=>s.args.length-q) [1,2,3,4,5,6,0] U5 (0,v2,([]:List (List BA))) ⟨aI,Y⟩ ?_)
     rintro⟨q,ev,es⟩ ⟨aQ,ah⟩
     refine af (au tb V (r7 [1004]) (V3 [.int (s.args.length:Nat),_]) [3] U8 Y ⟨aD eW,U⟩ ?_)
     refine cj 7 ?_ ?_<;>intro eM<;>try simp at eM
     ·
      have e1:=oG q oz
      have e8:es.length=q:=by rw[ah,re,length_take];omega
      refine aj (nx (af (ax (cG (ao 5 tb (env':=[(66,_),(65,_),(64,_),(63,_),(62,_),(1,_),(3,_),(4,_),(6,_),(12,_),(14,_),(13,_),(59,_)]) Y (sy (.ptr [lI (G s.args q)]) (λh=>cb (i:=(q:Int)) dc Y (h.get 1 Y) (h.get 0 Y) bM (cq (xs:=s.args) (k:=q) az) Y h.x) ?_))))))
      refine ao 1 tb (env':=[(68,_),(67,_),(66,_),(65,_),(64,_),(63,_),(62,_),(1,_),(3,_),(4,_),(6,_),(12,_),(14,_),(13,_),(59,_)]) Y (sy (.lit (cA gw (((G s.args q).toNat)*1))) (λh=>eQ (i:=(G s.args q)) eC Y (dD hH h.keep h.x (mo 0 Y)) (h.get 5 Y) (h.get 0 Y) az (by rw[length_map];exact az) h.x) ?_)
      refine sy (.rd (ai (G fs ((G s.args q).toNat)))) (λh=>mZ (i:=(G s.args q).toNat) ia Y (dD hH h.keep h.x (mo 0 Y)) (h.get 0 Y) (ir (xs:=fs) (k:=(G s.args q).toNat) az) h.x) ?_
      refine sy (.rd (ct ([(G fs ((G s.args q).toNat))]))) (λh=>ft eC qO Y (h.get 0 Y) (aK hS _ h.keep h.x _ aV) (jo V h.x)) ?_
      refine fP (f:=kG) (m:=9) (s:=62) es ([(G fs ((G s.args q).toNat))]) (λ_=>Y) sD V hJ0 Y Y Y (lb Y) Y Y (λa w h=>(h.get 0 Y)) (by simp;omega) (by simp;omega) λv3=>?_
      refine ao 1 tb (env':=[(13,_),(72,_),(71,_),(70,_),(69,_),(68,_),(67,_),(66,_),(65,_),(64,_),(63,_),(62,_),(1,_),(3,_),(4,_),(6,_),(12,_),(14,_),(59,_)]) Y (aA [0,2,3,12,13,14,15,16,17] U9 Y ?_)
      refine nx (ln 1 λzX=>?_)
      refine ln 2 λ_=>?_
      refine aT tb V [0,3,4,5,6,7,1002] [_,.int (q+1:Nat),_] [1] U7 Y ⟨aM,U⟩ ?_
      exact bq (q+1,v3,es++([(G fs ((G s.args q).toNat))])) [1,2,3,4,5,6,0] ⟨oz,by rw[Mt oz,<-ah]⟩
     ·
      refine aW (nx (tw (λh=>dV hS h (m:=6) (s:=13) Y) (tw (sa 0 Y (congrArg (λz'=>AV.rd (ct z')) (show es=(a8 fs s.args)from by rw[ah,show q=s.args.length by omega,take_length]))) ?_)))
      refine au tb V [1003,1005,1007,1008] (V4 [.bJ [.rd (ai ((dd d.vars (G d.ab i).wide (G d.ab ((dM d i s.ae).toNat)) (a8 fs s.args)).1)),.int ((dd d.vars (G d.ab i).wide (G d.ab ((dM d i s.ae).toNat)) (a8 fs s.args)).2)],_,_,_,_]) [4] U4 Y ⟨bN hS V (Ky V d i ((dM d i s.ae).toNat) (a8 fs s.args) (by exact hi) (by exact e5.2.2) (by rw[re];exact eg) (by exact zd mL oG) (by exact e6.1.2) (by exact hap _ (aC e5.2.2)) (by exact e6.1.1)) (cO func131),U⟩ ?_
      refine ln 0 λ_=>?_
      refine ln 1 λ_=>?_
      exact aZ (λa w h=>dX (m:=2) (k:=3) Y (d9 h) Y Y (congrArg (λz=>AV.rd (ai z)) (show((dd d.vars (G d.ab i).wide (G d.ab ((dM d i s.ae).toNat)) (a8 fs s.args)).1)=((cr d i s fs).1)from by rw[eU])) (eI (by rw[eU])))
theorem C7 {J:WP} (V:aS J) (d:Db) (z:Int) (ss:List Stp) (hw:∀ i,i<d.ab.length->(G d.ab i).wide.length*32<=140737488351232) (hap:∀ f∈d.ab,f.apart.length<=100000):Fn prog J 71 [.agg (bZ d),.int z,.agg (bw ss)] (.bJ [.rd (ct ((aX d z ss).1)),.agg (kL ((aX d z ss).2)),.int (dA d z ss)]):=by
 refine fE func71 λS w0 hS hJ0=>?_
 refine tw cc (aL ?_)
 refine sy (.ptr (bZ d)) (λh=>gc Y (h.get 0 Y) (aK hS _ h.keep h.x _ aV) (jo V h.x)) ?_
 refine sy (.ptr (bw ss)) (λh=>gc Y (h.get 3 Y) (aK hS _ h.keep h.x _ aV) (jo V h.x)) ?_
 refine ao 1 tb (env':=[(6,_),(5,_),(3,_),(0,_),(1,_),(2,_)]) Y (cz sr V Y Y Y (lb Y) λb1=>?_)
 refine ao 1 tb (env':=[(8,_),(7,_),(6,_),(5,_),(3,_),(0,_),(1,_),(2,_)]) Y (aA [1,3,4,6] U4 Y ?_)
 refine nx (af (au tb V [0,1,2,3,1004] (V3 [.int (dA d z ss),_]) [3] U5 Y ⟨bN hS V (C2 V d z ss (by exact hw)) (cO func70),U⟩ ?_))
 refine ak tb V (r5 [1001]) U2 U6 ?_
 refine cj 5 ?_ ?_<;>intro hb1<;>try simp at hb1
 ·
  have eU:aX d z ss=([],(0,0)):=if_neg (by simpa using hb1)
  refine aL (sy (.agg (kL (⟨0,0⟩:Int×Int))) (λh=>gg (ps:=[]) (us:=[.int .i64 0,.int .i64 0]) vh Y yz f9 Y (dP (.lit _ True.intro) (dP (.lit _ True.intro) cE)) h.x) ?_)
  refine ao 2 tb (env':=[(6,_),(21,_),(20,_),(7,_),(5,_),(3,_),(1,_),(9,_),(19,_)]) Y (ck (b:=b1) (off:=0) (es:=U2) (news:=U2) V hJ0 lC Y Y Y (lb Y) Y (λa w h=>⟨(h.get 3 Y),(h.get 2 Y)⟩) ?_)
  refine ao 1 tb (env':=[(8,_),(6,_),(21,_),(20,_),(7,_),(5,_),(3,_),(1,_),(9,_),(19,_)]) Y (aA [0,1,4] U3 Y ?_)
  exact nx (tw (λh=>gj h (m:=1) (s:=6) Y) (aZ (λa w h=>oR (cs:=[lI ((⟨0,0⟩:Int×Int).1),lI ((⟨0,0⟩:Int×Int).2)]) (m:=2) (q:=1) (z:=0) Y ot h Y Y (show([lI ((⟨0,0⟩:Int×Int).1),lI ((⟨0,0⟩:Int×Int).2)]:List CD)=[lI (((aX d z ss).2).1),lI (((aX d z ss).2).2)]from by first | (rw[eU];done) | rw[eU,e3]) Y (congrArg (λz=>AV.rd (ct z)) (show([]:List (List BA))=((aX d z ss).1)from by rw[eU])) Y Y)))
 ·
  have e0:dA d z ss=0:=by simpa using hb1
  obtain⟨ha,hf⟩:=ns e0
  have bv:=(tk ss).1 hf
  obtain⟨dW,lq,fV⟩:=ou ha
  have hi:z.toNat<d.ab.length:=by omega
  have jR:=bv.1
  have cx:=bv.2.1
  refine tw (sa 3 Y (show(.int z:AV)= .int (z.toNat:Nat)from congrArg AV.int oz)) (aj (nx (aL ?_)))
  refine ko eC V Y Y Y (lb Y) λv2=>?_
  refine ao 1 tb (env':=[(10,_),(22,_),(7,_),(5,_),(3,_),(1,_),(9,_),(19,_)]) Y (aA [0,2,3,4,5] U5 Y ?_)
  refine nx (af (ak tb V (r5 [1000]) [_] U6 ?_))
  refine ax (lpo (ι:=Nat×Value×(List (List BA))) (λ(k,_,fs)=>(k<=ss.length)/\(fs=dH d z.toNat ss k)/\(∀ j,j<k->ik d z.toNat ss j=0)) (λ(_,v,fs)=>[OB.row v 22 1 (fs.map kG),OB.var b1 [lI 0,lI 0]]) (λ(k,v,_)=>[(11,.int (k:Nat)),(10,.lit v)]) (λ(k,_,_)=>ss.length-k) [1,2,3,4,5,0] U4 (0,v2,([]:List (List BA))) ⟨aI,Y,λj hj=>by omega⟩ ?_)
  rintro⟨k,v,fs⟩ ⟨aQ,ah,bp⟩
  refine af (au tb V (r6 [1002,1004]) (V3 [.int (ss.length:Nat),_]) [3] U8 Y ⟨aD ep,U⟩ ?_)
  refine ln 6 λcx=>?_
  refine cj 7 ?_ ?_<;>intro hb2<;>try simp at hb2
  ·
   have e2:=rl dW hi k bp
   rw[<-ah]at e2
   have e3:fs.length=k:=by rw[ah,lk]
   have e4:=Gn bv (k:=k) oz
   refine aj (nx (af (ax (au tb V (r6 [1010,1012,1013]) (V5 [.ptr (bF (G ss k)),_,_,.bJ [.rd (ai ((cr d z.toNat (G ss k) fs).1)),.int ((cr d z.toNat (G ss k) fs).2)],_,_,_,_,_]) [5,8] U9 Y ⟨bn ey,λ_ _ hk Z hl _=>dE (KF V d z.toNat (G ss k) v fs (by exact hi) (by exact dW) (by exact e2) (by exact λj hj=>by have:=e4 j hj;omega) (by exact hap)) (cO func99) Y (aK hS _ hk Z) (Z.1) (dC (aH Z (mo 0 Y)) b9) (aq (hl.D 0 31 Y Y) (aq (hl.D 1 32 Y Y) (aq (hl.D 6 37 Y Y) (aq (hl.D 7 38 Y Y) aP)))) (jo V Z),U⟩ ?_))))
   refine ln 6 λ_=>?_
   refine af (ak tb V (r6 [7,8,1001]) U2 U9 ?_)
   refine cj 8 ?_ ?_<;>intro aE<;>try simp at aE
   ·
    have eU:aX d z ss=(fs,((cr d z.toNat (G ss k) fs).2,(k:Int))):=by rw[aX,if_pos e0,B2 (k:=k) oz bp (by rw[rh,<-ah];simpa using aE),rh,<-ah]
    refine aL (ao 3 tb (env':=[(46,_),(45,_),(44,_),(7,_),(5,_),(3,_),(1,_),(11,_),(10,_),(12,_),(13,_),(43,_)]) Y (sq (.agg (kL (⟨(cr d z.toNat (G ss k) fs).2,(k:Int)⟩:Int×Int))) Y Y (lb Y) (λa _ h=>gd (us:=[a.eval (.tmp 45),a.eval (.tmp 46)]) vj Y yz (bX (h.get 1 Y) (bX (h.get 0 Y) cE)) Y h.x) ?_))
    refine ao 1 tb (env':=[(6,_),(47,_),(46,_),(45,_),(44,_),(7,_),(5,_),(3,_),(1,_),(11,_),(10,_),(12,_),(13,_),(43,_)]) Y (kw bQ ?_)
    refine ck (b:=b1) (off:=0) (es:=U2) (news:=U2) V hJ0 lC Y Y Y (lb Y) Y (λa w h=>⟨(h.get 5 Y),(h.get 1 Y)⟩) ?_
    refine ao 1 tb (env':=[(8,_),(6,_),(47,_),(46,_),(45,_),(44,_),(7,_),(5,_),(3,_),(1,_),(11,_),(10,_),(12,_),(13,_),(43,_)]) Y (aA [0,1,6] U3 Y ?_)
    refine nx (tw bQ (tw (λh=>dV hS h (m:=1) (s:=6) Y) ?_))
    exact aZ (λa w h=>oR (cs:=[lI ((⟨(cr d z.toNat (G ss k) fs).2,(k:Int)⟩:Int×Int).1),lI ((⟨(cr d z.toNat (G ss k) fs).2,(k:Int)⟩:Int×Int).2)]) (m:=2) (q:=1) (z:=0) Y ot h Y Y (show([lI ((⟨(cr d z.toNat (G ss k) fs).2,(k:Int)⟩:Int×Int).1),lI ((⟨(cr d z.toNat (G ss k) fs).2,(k:Int)⟩:Int×Int).2)]:List CD)=[lI (((aX d z ss).2).1),lI (((aX d z ss).2).2)]from by first | (rw[eU];done) | rw[eU,e3]) Y (congrArg (λz=>AV.rd (ct z)) (show fs=((aX d z ss).1)from by rw[eU])) Y (congrArg AV.int (show(0:Int)=dA d z ss from by rw[e0])))
   ·
    have e5:ik d z.toNat ss k=0:=by rw[rh,<-ah];simpa using aE
    refine aj (nx (cG (ao 2 tb (env':=[(49,_),(48,_),(7,_),(5,_),(3,_),(1,_),(11,_),(10,_),(12,_),(13,_),(43,_)]) Y (sy (.rd (ct ([((cr d z.toNat (G ss k) fs).1)]))) (λh=>ft eC qO Y (h.get 0 Y) (aK hS _ h.keep h.x _ aV) (jo V h.x)) ?_))))
    refine fP (f:=kG) (m:=2) (s:=48) fs ([((cr d z.toNat (G ss k) fs).1)]) (λ_=>Y) sD V hJ0 Y Y Y (lb Y) Y Y (λa w h=>(h.get 0 Y)) (by simp;omega) (by simp;omega) λv3=>?_
    refine ao 1 tb (env':=[(10,_),(51,_),(50,_),(49,_),(48,_),(7,_),(5,_),(3,_),(1,_),(11,_),(12,_),(13,_),(43,_)]) Y (aA [0,2,5,6,7,8,9] U7 Y ?_)
    refine nx (ln 1 λhl3=>?_)
    refine aT tb V [0,2,3,4,5,1002] [_,.int (k+1:Nat),_] [1] U6 Y ⟨aM,U⟩ ?_
    exact bq (k+1,v3,fs++([((cr d z.toNat (G ss k) fs).1)])) [1,2,3,4,5,0] ⟨oz,by rw[Ek,<-ah],cF bp e5⟩
  ·
   obtain rfl:k=ss.length:=by omega
   have e3:fs.length=ss.length:=by rw[ah,lk]
   refine aW (nx (af (au tb V [0,5,1005,1007,1011,1013] [_,_,.int (fs.length:Nat),.int (fs.length-1:Nat),.lit (cA v ((fs.length-1)*1)),.rd (ai (G fs (fs.length-1))),_,_,_,.ptr (aY (G d.ab z.toNat)),_,_,.bool (decide ((G fs (fs.length-1))=((G d.ab z.toNat).ac))),_] [2,3,4,5,9,12] U6 Y ⟨λ_ _ _ Z hl _=>oV (by rw[length_map]) sn Y (aH Z (mo 0 Y)) (hl.D 1 53 Y Y) Z,λ_ _ _ Z hl _=>qv (i:=fs.length) (j:=1) Y (hl.D 2 54 Y Y) (Rel.aG (.int .i64 1)) az az Z,λ_ _ _ Z hl _=>eQ (i:=((fs.length-1:Nat):Int)) eC Y (aH Z (mo 0 Y)) (hl.D 0 52 Y Y) (hl.D 3 55 Y Y) bM (by rw[length_map];exact Int.ofNat_lt.2 az) Z,λ_ _ _ Z hl _=>mZ (i:=fs.length-1) ia Y (aH Z (mo 0 Y)) (hl.D 4 56 Y Y) (ir (xs:=fs) (k:=fs.length-1) az) Z,bn fK,bN hS V (C6 V (G fs (fs.length-1)) ((G d.ab z.toNat).ac)) (cO func100),U⟩ ?_)))
   refine ln 2 λ_=>?_
   refine ln 3 λ_=>?_
   refine ln 4 λ_=>?_
   refine cj 5 ?_ ?_<;>intro bh<;>try simp at bh
   ·
    have eU:aX d z ss=(fs,(28,(ss.length:Int))):=by rw[aX,if_pos e0,ph bp,<-ah,if_neg (by first | (simpa using bh) | (simpa [e3]using bh))]
    refine aL (ao 2 tb (env':=[(67,_),(66,_),(7,_),(10,_),(57,_),(59,_),(63,_),(65,_)]) Y (sy (.int (fs.length:Nat)) (λh=>oV (by rw[length_map]) sn Y (aH h.x (mo 0 Y)) (h.get 0 Y) h.x) ?_))
    refine sq (.agg (kL (⟨(28:Int),(fs.length:Int)⟩:Int×Int))) Y Y (lb Y) (λa _ h=>gd (us:=[a.eval (.const (.int .i64 28)),a.eval (.tmp 68)]) vj Y yz (bX (Rel.aG (.int .i64 28)) (bX (h.get 0 Y) cE)) Y h.x) ?_
    refine ao 1 tb (env':=[(6,_),(69,_),(68,_),(67,_),(66,_),(7,_),(10,_),(57,_),(59,_),(63,_),(65,_)]) Y (kw bQ ?_)
    refine ck (b:=b1) (off:=0) (es:=U2) (news:=U2) V hJ0 lC Y Y Y (lb Y) Y (λa w h=>⟨(h.get 5 Y),(h.get 1 Y)⟩) ?_
    refine ao 1 tb (env':=[(8,_),(6,_),(69,_),(68,_),(67,_),(66,_),(7,_),(10,_),(57,_),(59,_),(63,_),(65,_)]) Y (aA [0,1,6] U3 Y ?_)
    refine nx (tw bQ (tw (λh=>dV hS h (m:=1) (s:=6) Y) ?_))
    exact aZ (λa w h=>oR (cs:=[lI ((⟨(28:Int),(fs.length:Int)⟩:Int×Int).1),lI ((⟨(28:Int),(fs.length:Int)⟩:Int×Int).2)]) (m:=2) (q:=1) (z:=0) Y ot h Y Y (show([lI ((⟨(28:Int),(fs.length:Int)⟩:Int×Int).1),lI ((⟨(28:Int),(fs.length:Int)⟩:Int×Int).2)]:List CD)=[lI (((aX d z ss).2).1),lI (((aX d z ss).2).2)]from by first | (rw[eU];done) | rw[eU,e3]) Y (congrArg (λz=>AV.rd (ct z)) (show fs=((aX d z ss).1)from by rw[eU])) Y (congrArg AV.int (show(0:Int)=dA d z ss from by rw[e0])))
   ·
    have eU:aX d z ss=(fs,(0,0)):=by rw[aX,if_pos e0,ph bp,<-ah,if_pos (by first | (simpa using bh) | (simpa [e3]using bh))]
    refine aj (nx (aL (ao 1 tb (env':=[(70,_),(7,_),(10,_),(57,_),(59,_),(63,_),(65,_)]) Y (sy (.agg (kL (⟨0,0⟩:Int×Int))) (λh=>gg (ps:=[]) (us:=[.int .i64 0,.int .i64 0]) vh Y yz f9 Y (dP (.lit _ True.intro) (dP (.lit _ True.intro) cE)) h.x) ?_))))
    refine ao 1 tb (env':=[(6,_),(71,_),(70,_),(7,_),(10,_),(57,_),(59,_),(63,_),(65,_)]) Y (kw bQ ?_)
    refine ck (b:=b1) (off:=0) (es:=U2) (news:=U2) V hJ0 lC Y Y Y (lb Y) Y (λa w h=>⟨(h.get 3 Y),(h.get 1 Y)⟩) ?_
    refine ao 1 tb (env':=[(8,_),(6,_),(71,_),(70,_),(7,_),(10,_),(57,_),(59,_),(63,_),(65,_)]) Y (aA [0,1,4] U3 Y ?_)
    refine nx (tw bQ (tw (λh=>dV hS h (m:=1) (s:=6) Y) ?_))
    exact aZ (λa w h=>oR (cs:=[lI ((⟨0,0⟩:Int×Int).1),lI ((⟨0,0⟩:Int×Int).2)]) (m:=2) (q:=1) (z:=0) Y ot h Y Y (show([lI ((⟨0,0⟩:Int×Int).1),lI ((⟨0,0⟩:Int×Int).2)]:List CD)=[lI (((aX d z ss).2).1),lI (((aX d z ss).2).2)]from by first | (rw[eU];done) | rw[eU,e3]) Y (congrArg (λz=>AV.rd (ct z)) (show fs=((aX d z ss).1)from by rw[eU])) Y (congrArg AV.int (show(0:Int)=dA d z ss from by rw[e0])))
end
section
abbrev gT (c:cd) (a:Int):Bool:=decide (a<0)||decide (c.step<=a)
section
variable {j:Jb} {c:cd}
theorem Fb (h:c.args.any (gT c)=true):iO j c=false:=by
 obtain⟨a,ha,h1⟩:=List.any_eq_true.1 h
 have h2:(c.args.all λa=>decide (0<=a/\a<c.step))=false:=by
  rw[List.all_eq_false]
  refine⟨a,ha,?_⟩
  have h3:a<0∨c.step<=a:=by simpa [gT]using h1
  simp only[decide_eq_true_eq]
  omega
 rw[iO,h2,Bool.false_and,Bool.false_and]
theorem tH (h:c.args.any (gT c)=false):∀ a∈c.args,0<=a/\a<c.step:=by
 intro a ha
 have h1:=List.any_eq_false.1 h a ha
 have h3:¬ (a<0∨c.step<=a):=by simpa [gT]using h1
 omega
theorem OS (h:c.args.any (gT c)=false):(c.args.all λa=>decide (0<=a/\a<c.step))=true:=
 List.all_eq_true.2 λa ha=>decide_eq_true (tH h a ha)
def iR (j:Jb) (c:cd):Bool:=
 if c.dQ=1 then decide (c.ae=⟨#[]⟩/\c.args.length=1/\G j.ts (G c.args 0).toNat=G j.ts c.step.toNat)
  else decide (0<=bP j.d c.ae/\bP j.d c.ae< (j.i:Int)/\c.args.length=(G j.d.ab (bP j.d c.ae).toNat).aa.length)&&fy j (G j.d.ab (bP j.d c.ae).toNat) c.args c.step.toNat
theorem Ad (h:iR j c=false):iO j c=false:=by
 have e:iO j c=(c.args.all (λa=>decide (0<=a/\a<c.step))&&iR j c&&decide ((cu j.ss c).length<dr j.ss/\(dr j.ss:Int)=c.before/\((cu j.ss c).length:Int)=c.after)):=rfl
 rw[e,h,Bool.and_false,Bool.false_and]
theorem Ae (h0:c.args.any (gT c)=false) (h:iR j c=true):iO j c=decide ((cu j.ss c).length<dr j.ss/\(dr j.ss:Int)=c.before/\((cu j.ss c).length:Int)=c.after):=by
 have e:iO j c=(c.args.all (λa=>decide (0<=a/\a<c.step))&&iR j c&&decide ((cu j.ss c).length<dr j.ss/\(dr j.ss:Int)=c.before/\((cu j.ss c).length:Int)=c.after)):=rfl
 rw[e,h,OS h0,Bool.true_and,Bool.true_and]
theorem OT (h:iO j c=true):(∀ a∈c.args,0<=a/\a<c.step)/\iR j c=true/\(cu j.ss c).length<dr j.ss:=by
 have e:iO j c=(c.args.all (λa=>decide (0<=a/\a<c.step))&&iR j c&&decide ((cu j.ss c).length<dr j.ss/\(dr j.ss:Int)=c.before/\((cu j.ss c).length:Int)=c.after)):=rfl
 rw[e,Bool.and_eq_true,Bool.and_eq_true]at h
 exact⟨λa ha=>of_decide_eq_true (List.all_eq_true.1 h.1.1 a ha),h.1.2,(of_decide_eq_true h.2).1⟩
theorem tI {ss:List Stp}:((decide (((cu ss c).length:Int)< (dr ss:Int))&&decide ((gX ss c).before=c.before))&&decide ((gX ss c).after=c.after))=decide ((cu ss c).length<dr ss/\(dr ss:Int)=c.before/\((cu ss c).length:Int)=c.after):=by
 rw[Bool.eq_iff_iff]
 simp only[Bool.and_eq_true,decide_eq_true_eq]
 exact⟨λh=>⟨oz,h.1.2,h.2⟩,λh=>⟨⟨oz,h.2.1⟩,h.2.2⟩⟩
theorem FF (h:iR j c=true):¬ c.dQ=1∨c.args.length=1:=by
 by_cases h1:c.dQ=1
 · rw[iR,if_pos h1]at h
   exact .inr (of_decide_eq_true h).2.1
 · exact .inl h1
end
section
variable {d:Db} {z:Int} {ss q:List Stp} {c:cd} {l:List cd} {k:Nat}
end
def lv (ss:List Stp) (last:Nat):Nat->List Bool
 | 0=>(List.replicate ss.length false).set last true
 | k+1=>lw ss (lv ss last k) (last-k)
def l6 (ss:List Stp) (last:Nat):List Bool:=lv ss last (last+1)
def gK (ss:List Stp) (last:Nat):List Stp:=(eo ss (l6 ss last) (last+1)).2
section
variable {ss:List Stp} {last n k:Nat}
theorem F2:∀ k,(lv ss last k).length=ss.length
 | 0=>by simp[lv]
 | k+1=>by rw[lv,F4,F2 k]
theorem QQ:(l6 ss last).length=ss.length:=F2 _
theorem F1 (h:1<=ss.length):∀ k,lv ss (ss.length-1) k=iT ss k
 | 0=>rfl
 | k+1=>by rw[lv,iT,F1 h k]
theorem Av (h:1<=ss.length):gK ss (ss.length-1)=jj ss:=by
 rw[gK,l6,F1 h,Nat.sub_add_cancel h];rfl
theorem F0 (n:Nat):∀(al:List Int) (m:List Bool),(iE m al).take n=iE (m.take n) al
 | [],m=>rfl
 | a::al,m=>by
  rw[iE,foldl_cons,iE,foldl_cons,<-List.take_set]
  exact F0 n al _
theorem ru {α:Type} [Inhabited α] {l:List α} {i n:Nat} (h:i<n):G (l.take n) i=G l i:=tq h
theorem F3 (hl:last<ss.length):∀ k,k<=last+1->(lv ss last k).take (last+1)=iT (ss.take (last+1)) k
 | 0,_=>by
  have e:(ss.take (last+1)).length=last+1:=by rw[length_take];omega
  rw[lv,iT,AK,e,List.take_set,List.take_replicate,Nat.min_eq_left oz]
  rfl
 | k+1,hk=>by
  have e:(ss.take (last+1)).length=last+1:=by rw[length_take];omega
  have ih:=F3 hl k oz
  rw[lv,iT,e,show last+1-1-k=last-k by omega,<-ih]
  unfold lw
  rw[ru (show last-k<last+1 by omega),ru (show last-k<last+1 by omega)]
  split
  · rw[F0]
  · rfl
theorem Ha {m m':List Bool} (hn:n<=ss.length) (hm:m.take n=m') (bv:∀ j,j<n->∀ a∈(G ss j).args,0<=a/\a< (j:Int)):∀ k,k<=n->(eo ss m k).1.take n=(eo (ss.take n) m' k).1/\(eo ss m k).2=(eo (ss.take n) m' k).2
 | 0,_=>by
  refine⟨?_,rfl⟩
  show(List.replicate ss.length (0:Int)).take n=List.replicate (ss.take n).length 0
  rw[List.take_replicate,length_take]
 | k+1,hk=>by
  obtain⟨h1,h2⟩:=Ha hn hm bv k oz
  have e1:G m' k=G m k:=by rw[<-hm,ru oz]
  rw[eo,eo,e1,ru (show k<n by omega)]
  split
  · have e2:((eo ss m k).1.set k ((eo ss m k).2.length:Int)).take n=(eo (ss.take n) m' k).1.set k ((eo (ss.take n) m' k).2.length:Int):=by rw[List.take_set,h1,h2]
    refine⟨e2,?_⟩
    dsimp only
    rw[h2]
    congr 3
    unfold l8
    apply List.map_congr_left
    intro a ha
    have h3:=bv k oz a ha
    rw[h2]at e2
    rw[<-e2,ru oz]
  · exact⟨h1,h2⟩
theorem PQ (bv:et ss) (hl:last<ss.length):gK ss last=jj (ss.take (last+1)):=by
 have e:(ss.take (last+1)).length=last+1:=by rw[length_take];omega
 rw[gK,jj,fN,e]
 refine(Ha (m':=iT (ss.take (last+1)) (last+1)) oz ?_ (λj hj a ha=>?_) (last+1) aV).2
 · exact F3 hl _ aV
 · have h2:=(bv.2.2 j oz).2 a (by rw[<-cV oz];exact ha)
   exact h2
theorem FU {ys zs:List Bool} {i q:Nat} (bv:et ss) (hi:i<ss.length) (h:zs=iE ys ((G ss i).args.take q)):G zs i=G ys i:=by
 rw[h,FZ]
 have e:¬ (i∈((G ss i).args.take q).map Int.toNat/\i<ys.length):=by
  rintro⟨h1,_⟩
  obtain⟨a,ha,h2⟩:=List.mem_map.1 h1
  have h3:=(bv.2.2 i hi).2 a (by rw[<-cV hi];exact List.mem_of_mem_take ha)
  omega
 rw[decide_eq_false e,Bool.or_false]
theorem QJ {ys zs:List Bool} {i q:Nat} (bv:et ss) (hi:i<ss.length) (h:zs=iE ys ((G ss i).args.take q)) (hq:q<=(G ss i).args.length) (h3:q=0∨G ys i=true) (hb:(decide ((q:Int)< ((G ss i).args.length:Int))&&G zs i)=false):zs=lw ss ys i:=by
 have h4:=FU bv hi h
 cases hg:G ys i with
 | true=>
  rw[h4,hg,Bool.and_true,decide_eq_false_iff_not]at hb
  rw[h]
  exact AG hg oz
 | false=>
  have h5:q=0:=by
   rcases h3 with h3 | h3
   · exact h3
   · rw[hg]at h3;cases h3
  rw[AR hg,h,h5];rfl
theorem UE {c:cd} {s:Stp} (h:∀ a∈s.args,a<c.step):jE c s=s:=by
 unfold jE
 have e:(s.args.map λa=>if a=c.step then G c.args 0 else a)=s.args:=by
  conv=>rhs;rw[<-map_id s.args]
  apply List.map_congr_left
  intro a ha
  have:=h a ha
  rw[if_neg oz];rfl
 rw[e]
theorem UF {c:cd} (bv:et ss) (hn:(n:Int)<=c.step) (hl:n<=ss.length):(ss.map (jE c)).take n=ss.take n:=by
 rw[<-map_take]
 conv=>rhs;rw[<-map_id (ss.take n)]
 apply List.map_congr_left
 intro s hs
 obtain⟨j,hj,rfl⟩:=ee hs
 have hj':j<n:=by rw[length_take]at hj;omega
 rw[ru hj']
 refine UE λa ha=>?_
 have h2:=(bv.2.2 j oz).2 a (by rw[<-cV oz];exact ha)
 omega
end
def pS (d:Db) (z:Int) (ss:List Stp) (n:Nat) (st:Stp) (tx:List BA):Bool:=decide (dA d z (ss.take n++[st])=0/\(aX d z (ss.take n++[st])).1.length=n+1/\G (aX d z (ss.take n++[st])).1 n=tx)
theorem NU {d:Db} {z:Int} {ss:List Stp} {n:Nat} {st:Stp} {tx:List BA}:((decide (dA d z (ss.take n++[st])=0)&&decide (((aX d z (ss.take n++[st])).1.length:Int)=((n+1:Nat):Int)))&&decide (G (aX d z (ss.take n++[st])).1 n=tx))=pS d z ss n st tx:=by
 rw[Bool.eq_iff_iff]
 simp only[Bool.and_eq_true,decide_eq_true_eq,pS]
 exact⟨λh=>⟨h.1.1,oz,h.2⟩,λh=>⟨⟨h.1,oz⟩,h.2.2⟩⟩
def sO (ss:List Stp) (c:cd):List Stp:=
 if c.dQ=2 then gK (ss.set c.step.toNat ⟨c.ae,c.args⟩) (ss.length-1)
 else if c.step=(ss.length:Int)-1 then gK ss (G c.args 0).toNat
 else gK (ss.map (jE c)) (ss.length-1)
theorem K3 {ss:List Stp} {c:cd} (bv:et ss) (jQ:∀ a∈c.args,0<=a/\a<c.step) (hc1:c.dQ=2∨1<=c.args.length):sO ss c=cu ss c:=by
 have hl:=bv.1
 unfold sO cu
 split
 · have e:=Av (ss:=ss.set c.step.toNat ⟨c.ae,c.args⟩) (by simpa using hl)
   rw[List.length_set]at e
   exact e
 · rename_i h1
   have hg:=jQ _ (aC (xs:=c.args) (k:=0) oz)
   split
   · rename_i h2
     rw[PQ bv oz,show(G c.args 0+1).toNat=(G c.args 0).toNat+1 by omega,UF bv oz oz]
   · have e:=Av (ss:=ss.map (jE c)) (by simpa using hl)
     rw[length_map]at e
     exact e
end
section
open Go.RowKit
section
variable {J:WP} (V:aS J)
include V
theorem KE (ss:List Stp)  :Fn prog J 52 [.agg (bw ss)] (.int (fm ss)):=by
 refine fE func52 λS w0 hS hJ0=>?_
 clear hJ0
 refine aJ tb V [1000] [.ptr (bw ss),_] [0] [_] Y ⟨ej hS V,U⟩ ?_
 refine af (aJ tb V [0,1001,1009] [_,_,.int (ss.length:Nat),_,_,_,_,.int (ss.length:Nat),_,_] [2,7] U3 Y ⟨aD ep,aD ep,U⟩ ?_)
 refine ln 1 λ_=>?_
 refine cj 2 ?_ ?_<;>intro hb1
 ·
  have eU:fm ss=4:=zz (by simp only[Bool.or_eq_true,decide_eq_true_eq]at hb1;omega)
  refine qs tb V [1000] [_] [_] ?_
  exact aU 0 (hE:=eI (by rw[eU]))
 ·
  have hn:¬ (ss.length<1∨2000<ss.length):=by simp only[Bool.or_eq_false_iff,decide_eq_false_iff_not]at hb1;omega
  refine aj (nx (af (qs tb V [0,1000] [_] U2 ?_)))
  refine ax (lp (ι:=Nat) (λk=>(k<=ss.length)/\(∀ j,j<k->kQ ss j=0)) (λk=>[(3,.int (k:Nat))]) (λk=>ss.length-k) [0,1] [_] 0 ⟨aI,λj hj=>by omega⟩ ?_)
  rintro k ⟨aQ,ah⟩
  refine af (aJ tb V [0,1,1004] (V3 [.int (ss.length:Nat),_]) [3] U3 Y ⟨aD ep,U⟩ ?_)
  refine cj 2 ?_ ?_<;>intro hb2<;>try simp at hb2
  ·
   refine aj (nx (af (ax (aJ tb V [0,1,1005,1006] (V3 [.ptr (bF (G ss k)),_,_,_]) [3] U4 Y ⟨bn ey,U⟩ ?_))))
   refine ln 2 λ_=>?_
   refine af (aJ tb V [0,1,3,1002] [_,.int (((G ss k).args).length:Nat),_] [1] U4 Y ⟨aD eW,U⟩ ?_)
   refine cj 3 ?_ ?_<;>intro aE<;>try simp at aE
   ·
    have eU:fm ss=4:=by have e9:=zE (ss:=ss) (k:=k) oz;rw[rn hn oz ah (by rw[e9];decide),e9]
    refine qs tb V [1000] [_] [_] ?_
    exact aU 0 (hE:=eI (by rw[eU]))
   ·
    refine aj (nx (qs tb V [0,1,2,1000] [_] U4 ?_))
    refine ax (lp (ι:=Nat) (λq=>(q<=(G ss k).args.length)/\(∀ j,j<q->j7 k (G (G ss k).args j)=false)) (λq=>[(5,.int (q:Nat))]) (λq=>(G ss k).args.length-q) [0,1,2,3] U3 0 ⟨aI,λj hj=>by omega⟩ ?_)
    rintro q ⟨fx,bi⟩
    refine af (aJ tb V [0,1,2,3,1003] [_,_,.int (((G ss k).args).length:Nat),_] [2] U5 Y ⟨aD eW,U⟩ ?_)
    refine cj 4 ?_ ?_<;>intro bh<;>try simp at bh
    ·
     refine aj (nx (af (ax (aJ tb V [0,1,2,3,1012] [_,_,.ptr [lI (G ((G ss k).args) q)],_,_,_,_,_,.ptr [lI (G ((G ss k).args) q)],_,_,_,_] [2,8] U5 Y ⟨bn dc,cN dc (hk:=λ(aF:((decide ((G ((G ss k).args) q)< (0:Int)))==false)=true)=>by(try simp at aF);first | omega | (simp;omega) | grind[aC]),U⟩ ?_))))
     refine cj 4 ?_ ?_<;>intro bV
     ·
      have eU:fm ss=3:=by have e9:=zD (ss:=ss) (k:=k) oz (CL oz bV);rw[rn hn oz ah (by rw[e9];decide),e9]
      refine qs tb V [1000] [_] [_] ?_
      exact aU 0 (hE:=eI (by rw[eU]))
     ·
      refine aj (nx (dI tb V [0,1,2,1002] [_,.int (q+1:Nat),_] [1] U4 Y ⟨aM,U⟩ ?_))
      exact dO (q+1) [0,1,2,3] ⟨oz,cF bi bV⟩
    ·
     have eF:=zF (ss:=ss) (k:=k) oz (CM λj hj=>bi j oz)
     refine aW (nx (dI tb V [0,1002] [_,.int (k+1:Nat),_] [1] U2 Y ⟨aM,U⟩ ?_))
     exact dO (k+1) [0,1] ⟨oz,cF ah eF⟩
  ·
   have eU:fm ss=0:=zy hn λj hj=>ah j oz
   refine aW (nx (qs tb V [1000] [_] [_] ?_))
   exact aU 0 (hE:=eI (by rw[eU]))
theorem KO (ss:List Stp) (last:Nat) (bv:et ss) (hlt:last<ss.length):Fn prog J 84 [.agg (bw ss),.int (last:Nat)] (.rd (mu (l6 ss last))):=by
 refine fE func84 λS w0 hS hJ0=>?_
 refine tw cc ?_
 have jR:=bv.1
 have cx:=bv.2.1
 refine au tb V [1,1000] [.ptr (bw ss),_] [0] U2 Y ⟨cW hS V,U⟩ ?_
 refine aL (ao 2 tb Y (sy (.int (ss.length:Nat)) (λh=>kh ep Y (h.get 0 Y) h.x) ?_))
 refine xE (f:=j9) (k:=ss.length) false FX Y V Y Y Y (lb Y) (λa w h=>⟨(h.get 0 Y),(h.get 0 Y)⟩) az az λv1=>?_
 refine ao 1 tb Y (aA [0,3,5,6] U4 Y ?_)
 refine nx (ln 1 λcx=>?_)
 refine aL (ao 2 tb Y (sy (.lit (cA v1 (last*1))) (λh=>eQ (i:=(last:Int)) nB Y (aH h.x (mo 0 Y)) (h.get 1 Y) (h.get 0 Y) bM (by rw[length_map];exact Int.ofNat_lt.2 az) h.x) ?_))
 refine qF (i:=last) V hJ0 qB Y Y Y (by rw[length_map];exact az) (λa w h=>⟨(h.get 0 Y),(Rel.aG (.bool true))⟩) ?_
 rw[show((List.replicate ss.length false).map j9).set last [lB true]=((List.replicate ss.length false).set last true).map j9 from map_set.symm]
 refine aA [3,5,6] U3 Y (nx (af (af (Hl tb V [0,2,1001] U2 U3 ?_))))
 refine kw (sa 2 Y (congrArg AV.int (show(last:Int)=(last:Int)-((0:Nat):Int)from by simp))) (nx (ax (lpo (ι:=Nat×(List Bool)×Value) (λ(j,ys,_)=>(j<=last+1)/\(ys=lv ss last j)/\(ys.length=ss.length)) (λ(_,ys,vw)=>[OB.row vw 4 1 (ys.map j9)]) (λ(j,_,vw)=>[(6,.int ((last:Int)-(j:Int))),(5,.lit vw)]) (λ(j,_,_)=>last+1-j) [1,2,0] [_] (0,(List.replicate ss.length false).set last true,v1) ⟨aI,Y,by simp⟩ ?_)))
 rintro⟨j,ys,vw⟩ ⟨aQ,ah,bp⟩
 refine af (ak tb V [0,1,2,1001] U2 U4 ?_)
 refine cj 3 ?_ ?_<;>intro hb1<;>try simp at hb1
 ·
  have gH:last-j<ss.length:=by omega
  refine tw (sa 1 Y (show(.int ((last:Int)-(j:Int)):AV)= .int (last-j:Nat)from congrArg AV.int oz)) (aj (nx (af (ax (ak tb V [0,1,2,1000] [_] U4 ?_)))))
  refine ax (lpo (ι:=Nat×(List Bool)×Value) (λ(q,zs,_)=>(q<=(G ss (last-j)).args.length)/\(zs=iE ys ((G ss (last-j)).args.take q))/\(q=0∨G ys (last-j)=true)/\(zs.length=ss.length)) (λ(_,zs,vu)=>[OB.row vu 4 1 (zs.map j9)]) (λ(q,_,vu)=>[(7,.int (q:Nat)),(5,.lit vu)]) (λ(q,_,_)=>(G ss (last-j)).args.length-q) [0,1,3,2] U2 (0,ys,vw) ⟨aI,Y,.inl Y,bp⟩ ?_)
  rintro⟨q,zs,vu⟩ ⟨fx,bi,iN,mz⟩
  refine af (au tb V [0,1,2,3,1006,1014] (V4 [.ptr (bF (G ss (last-j))),_,_,.int (((G ss (last-j)).args).length:Nat),_,_,_,_,.lit (cA vu ((last-j)*1)),.bool (G zs (last-j)),_]) [4,7,12,13] U6 Y ⟨bn ey,aD eW,λ_ _ _ Z hl hc=>eQ (i:=((last-j:Nat):Int)) nB Y (aH Z (mo 0 Y)) (hl.D 10 30 Y hc) (hl.D 11 31 Y hc) bM (by rw[length_map];exact Int.ofNat_lt.2 (by have aF:((decide ((q:Int)< ((((G ss (last-j)).args).length:Nat):Int)))==true)=true:=hc;(try simp at aF);(first | omega | (simp;omega) | grind[aC]))) Z,λ_ _ _ Z hl hc=>mZ (i:=last-j) wZ Y (aH Z (mo 0 Y)) (hl.D 12 32 Y hc) (ir (xs:=zs) (k:=last-j) (by have aF:((decide ((q:Int)< ((((G ss (last-j)).args).length:Nat):Int)))==true)=true:=hc;(try simp at aF);(first | omega | (simp;omega) | grind[aC]))) Z,U⟩ ?_)
  refine ln 4 λ_=>?_
  refine cj 5 ?_ ?_<;>intro hb2
  ·
   simp only[Bool.and_eq_true,decide_eq_true_eq]at hb2
   have e4:=ua bv (k:=last-j) (j:=q) gH oz
   have OC:G ys (last-j)=true:=by rw[<-FU bv gH bi];exact hb2.2
   refine aj (nx (af (ax (cG (ao 4 tb Y (sy (.ptr (bF (G ss (last-j)))) (λh=>cb (i:=((last-j:Nat):Int)) ey Y (h.get 1 Y) (h.get 0 Y) bM (cq (xs:=ss) (k:=last-j) az) Y h.x) ?_))))))
   refine ao 3 tb Y (sy (.ptr [lI (G ((G ss (last-j)).args) q)]) (λh=>cb (i:=(q:Int)) dc Y (h.get 1 Y) (h.get 0 Y) bM (cq (xs:=(G ss (last-j)).args) (k:=q) az) Y h.x) ?_)
   refine ao 1 tb Y (sy (.lit (cA vu (((G ((G ss (last-j)).args) q).toNat)*1))) (λh=>eQ (i:=(G ((G ss (last-j)).args) q)) nB Y (aH h.x (mo 0 Y)) (h.get 9 Y) (h.get 0 Y) az (by rw[length_map];exact az) h.x) ?_)
   refine qF (i:=(G ((G ss (last-j)).args) q).toNat) V hJ0 qB Y Y Y (by rw[length_map];exact az) (λa w h=>⟨(h.get 0 Y),(Rel.aG (.bool true))⟩) ?_
   rw[show(zs.map j9).set ((G ((G ss (last-j)).args) q).toNat) [lB true]=(zs.set ((G ((G ss (last-j)).args) q).toNat) true).map j9 from map_set.symm]
   refine aA [11,12,13,14] U4 Y (nx (aT tb V [0,1,3,1002] [_,.int (q+1:Nat),_] [1] U4 Y ⟨aM,U⟩ ?_))
   exact bq (q+1,zs.set ((G ((G ss (last-j)).args) q).toNat) true,vu) [0,1,3,2] ⟨oz,by rw[bi];exact FV oz,by exact .inr OC,by rw[List.length_set];exact mz⟩
  ·
   have e9:zs=lw ss ys (last-j):=QJ bv gH bi fx iN hb2
   refine aW (nx (aT tb V [0,3,1002] [_,.int (((last-j:Nat):Int)-(1:Int)),_] [1] U3 Y ⟨l2,U⟩ ?_))
   exact kw (sa 2 Y (congrArg AV.int (show((last-j:Nat):Int)-(1:Int)=(last:Int)-((j+1:Nat):Int)from by omega))) (bq ((j+1),zs,vu) [0,2,1] ⟨oz,by rw[e9,ah,lv],by exact mz⟩)
 ·
  refine aW (nx (ak tb V [1001] U2 [_] ?_))
  exact tw (λh=>dV hS h (m:=0) (s:=4) Y) (bL 0 (hE:=congrArg (λz=>AV.rd (mu z)) (show ys=(l6 ss last)from by have e:=ah;rw[show j=last+1 by omega]at e;exact e)))
theorem vp (ss:List Stp) (last:Nat) (bv:et ss) (hlt:last<ss.length):Fn prog J 53 [.agg (bw ss),.int (last:Nat)] (.agg (bw (gK ss last))):=by
 refine fE func53 λS w0 hS hJ0=>?_
 refine tw cc ?_
 have jR:=bv.1
 have cx:=bv.2.1
 have rG:(l6 ss last).length=ss.length:=QQ
 refine aL (sy (.ptr (bw ss)) (λh=>gc Y (h.get 0 Y) (aK hS _ h.keep h.x _ aV) (jo V h.x)) ?_)
 refine cz jI V Y Y Y (lb Y) λb1=>?_
 refine aA [0,1,3] U3 Y (nx (au tb V [0,1,2,1002,1003] [_,_,.rd (mu (l6 ss last)),_] [2] U5 Y ⟨bN hS V (KO V ss last (by exact bv) (by exact hlt)) (cO func84),U⟩ ?_))
 refine ln 3 λcx=>?_
 refine aL (ao 2 tb Y (sy (.int (ss.length:Nat)) (λh=>kh ep Y (h.get 0 Y) h.x) ?_))
 refine xE (f:=bT) (k:=ss.length) (0:Int) FY Y V Y Y Y (lb Y) (λa w h=>⟨(h.get 0 Y),(h.get 0 Y)⟩) az az λv2=>?_
 refine ao 1 tb Y (aA [0,3,5,6,7,9] U6 Y ?_)
 refine nx (ln 1 λhl2=>?_)
 refine tw (iK 88 2 V) (aL ?_)
 refine sy (.agg [.lit (.slice none 0 0)]) (λh=>gg (ps:=[]) (us:=[.slice none 0 0]) mw Y yz f9 Y (dP (.lit _ True.intro) cE) h.x) ?_
 refine cz jI V Y Y Y (lb Y) λb3=>?_
 refine ck (b:=b3) (off:=0) (es:=[_]) (news:=[_]) V hJ0 fZ Y Y Y (lb Y) Y (λa w h=>⟨(h.get 0 Y),(h.get 1 Y)⟩) ?_
 refine aA [0,2,4,5,6,7] U6 Y (nx (af (ak tb V (r6 [1000]) [_] U7 ?_)))
 refine ax (lpo (ι:=Nat×(List Stp)×Value×(List Int)×Value) (λ(k,out,_,to,_)=>(k<=last+1)/\(eo ss (l6 ss last) k=(to,out))) (λ(_,out,wt,to,wo)=>[OB.var b3 [.lit wo],OB.row wo 88 2 (out.map bF),OB.row wt 3 1 (to.map bT),OB.var b1 [br ([]:List Stp)]]) (λ(k,_,wt,_,_)=>[(8,.int (k:Nat)),(6,.lit wt)]) (λ(k,_,_,_,_)=>last+1-k) [0,2,3,4,5,6,1] U5 (0,[],v2,List.replicate ss.length (0:Int),(.slice none 0 0)) ⟨aI,Y⟩ ?_)
 rintro⟨k,out,wt,to,wo⟩ ⟨aQ,ah⟩
 refine af (ak tb V (r7 [1002]) U3 U8 ?_)
 refine cj 7 ?_ ?_<;>intro hb1<;>try simp at hb1
 ·
  have e2:to.length=ss.length/\out.length<=k:=by have h9:=xb ss (l6 ss last) k;rwa [ah]at h9
  refine aj (nx (af (ax (af (au tb V (r7 [1004]) [_,_,.ptr [lB (G (l6 ss last) k)],_,_] [2] U8 Y ⟨bn nB,U⟩ ?_)))))
  refine cj 7 ?_ ?_<;>intro hb2<;>try simp at hb2
  ·
   refine aW (nx (aT tb V (r5 [6,1002]) [_,.int (k+1:Nat),_] [1] U7 Y ⟨aM,U⟩ ?_))
   exact bq (k+1,out,wt,to,wo) (r5 [6,5]) ⟨oz,by first | (rw[uk hb2];exact ah) | (rw[ul hb2,ah,bi,show q=(G ss k).args.length by omega,take_length])⟩
  ·
   refine aj (nx (aL (ao 2 tb Y (sy (.at b3 0) (λh=>cv il Y (h.get 2 Y) h.x) ?_))))
   refine sy (.lit wo) (λh=>cg iF Y (aH h.x (mo 0 Y)) (h.get 0 Y) Y h.x) ?_
   refine sy (.int (out.length:Nat)) (λh=>oV (by rw[length_map]) ep Y (aH h.x (mo 1 Y)) (h.get 0 Y) h.x) ?_
   refine sy (.lit (cA wt (k*1))) (λh=>eQ (i:=(k:Int)) dc Y (aH h.x (mo 2 Y)) (h.get 4 Y) (h.get 3 Y) bM (by rw[length_map];exact Int.ofNat_lt.2 az) h.x) ?_
   refine kw dq (qF (i:=k) V hJ0 qA Y Y Y (by rw[length_map];exact az) (λa w h=>⟨(h.get 0 Y),(h.get 1 Y)⟩) ?_)
   rw[show(to.map bT).set k [lI (out.length:Int)]=(to.set k (out.length:Int)).map bT from map_set.symm]
   refine aA [6,7,8,9,10,11,12] U7 Y (nx (tw (iK 3 1 V) ?_))
   refine aL (ao 3 tb Y (sy (.ptr (bF (G ss k))) (λh=>cb (i:=(k:Int)) ey Y (h.get 1 Y) (h.get 0 Y) bM (cq (xs:=ss) (k:=k) az) Y h.x) ?_))
   refine ao 2 tb Y (sq (.agg [lS ((G ss k).ae),.lit (.slice none 0 0)]) Y Y (lb Y) (λa _ h=>gg (ps:=[(0,a.eval (.tmp 40))]) (us:=[a.eval (.tmp 40),.slice none 0 0]) yw Y yz (kq (lb Y) (Rel.l7 (h.get 0 Y)) f9) Y (bX (h.get 0 Y) (dP (.lit _ True.intro) cE)) h.x) ?_)
   refine cz og V Y Y Y (lb Y) λb4=>?_
   refine ck (b:=b4) (off:=0) (es:=U2) (news:=U2) V hJ0 n9 Y Y Y (lb Y) Y (λa w h=>⟨(h.get 0 Y),(h.get 1 Y)⟩) ?_
   refine aA [0,8,9,10,11,12,13,14] U8 Y (nx (af (ak tb V (r8 [1000]) [_] U9 ?_)))
   refine ax (lpo (ι:=Nat×(List Int)×Value) (λ(q,nums,_)=>(q<=(G ss k).args.length)/\(nums=l8 (to.set k (out.length:Int)) ((G ss k).args.take q))) (λ(_,nums,wa)=>[OB.var b4 [lS ((G ss k).ae),.lit wa],OB.row wa 3 1 (nums.map bT),OB.row wt 3 1 ((to.set k (out.length:Int)).map bT),OB.var b3 [.lit wo],OB.row wo 88 2 (out.map bF),OB.var b1 [br ([]:List Stp)]]) (λ(q,_,_)=>[(10,.int (q:Nat))]) (λ(q,_,_)=>(G ss k).args.length-q) (r9 []) U8 (0,[],(.slice none 0 0)) ⟨aI,Y⟩ ?_)
   rintro⟨q,nums,wa⟩ ⟨fx,bi⟩
   refine af (au tb V (r9 [1006,1008]) (V4 [.ptr (bF (G ss k)),_,_,.int (((G ss k).args).length:Nat),_]) [4,7] lJ Y ⟨bn ey,aD eW,U⟩ ?_)
   refine ln 9 λ_=>?_
   refine cj 10 ?_ ?_<;>intro aE<;>try simp at aE
   ·
    have e4:=ua bv (k:=k) (j:=q) oz oz
    have e5:nums.length=q:=by rw[bi,l8,length_map,length_take];omega
    have e6:=wY bv (show k<ss.length by omega)
    refine aj (nx (af (ax (tw bQ (λa w h=>oZ [OB.var b4 [lS ((G ss k).ae),.lit wa],OB.row wt 3 1 ((to.set k (out.length:Int)).map bT),OB.var b3 [.lit wo],OB.row wo 88 2 (out.map bF),OB.var b1 [br ([]:List Stp)]] (γ:=Value) (λix'=>([.at b4 1,.lit wa,.lit wt,.ptr (bw ss),.rd (br ss),.int (k:Nat),.ptr (bF (G ss k)),.ptr [bS ((G ss k).args)],.rd (bS ((G ss k).args)),.int (q:Nat),.ptr [lI (G ((G ss k).args) q)],.int (G ((G ss k).args) q),.lit (cA wt (((G ((G ss k).args) q).toNat)*1)),.int (G (to.set k (out.length:Int)) ((G ((G ss k).args) q).toNat)),.rd (bS ([(G (to.set k (out.length:Int)) ((G ((G ss k).args) q).toNat))])),.any,.at b4 1,.any]:List AV).getD ix' .any) (λ_=>true) [(9,λ_=>.at b4 0),(7,λ_=>.at b3 0),(4,λ_=>.at b1 0),(2,λ_=>.ptr (bw ss)),(1,λ_=>.int (last:Nat)),(5,λ_=>.rd (mu (l6 ss last))),(8,λ_=>.int (k:Nat)),(6,λ_=>.lit wt),(10,λ_=>.int (q:Nat))] (λj' g=>match j' with | 0=>[OB.row wa 3 1 (nums.map bT),OB.var b4 [lS ((G ss k).ae),.lit wa],OB.row wt 3 1 ((to.set k (out.length:Int)).map bT),OB.var b3 [.lit wo],OB.row wo 88 2 (out.map bF),OB.var b1 [br ([]:List Stp)]] | 1=>[OB.row g 3 1 ((nums++([(G (to.set k (out.length:Int)) ((G ((G ss k).args) q).toNat))])).map bT),OB.var b4 [lS ((G ss k).ae),.lit wa],OB.row wt 3 1 ((to.set k (out.length:Int)).map bT),OB.var b3 [.lit wo],OB.row wo 88 2 (out.map bF),OB.var b1 [br ([]:List Stp)]] | _=>[OB.row g 3 1 ((nums++([(G (to.set k (out.length:Int)) ((G ((G ss k).args) q).toNat))])).map bT),OB.var b4 [lS ((G ss k).ae),.lit g],OB.row wt 3 1 ((to.set k (out.length:Int)).map bT),OB.var b3 [.lit wo],OB.row wo 88 2 (out.map bF),OB.var b1 [br ([]:List Stp)]]) (λk' g=>match k' with | 0=>g | _=>undef) [15,17] 1 (.slice none 0 0) (λ_=>Y) h V cP Y Y Y Y Y Y hsb ⟨oX Y λZ hl=>cv mC Y (hl.env 0 9 _ Y Y) Z,λ_ O' cf=>⟨Y,λ_ _ _ Z hl _=>cg iG Y (aH Z (cf _ (mo 0 Y))) (hl.D 0 53 Y Y) Y Z⟩,oX Y λZ hl=>b8 Y (hl.env 7 6 _ Y Y) Z,oX Y λZ hl=>ca il Y (hl.env 3 2 _ Y Y) Z,oX Y λZ hl=>bU iF Y (hl.D 3 56 Y Y) Z,oX Y λZ hl=>b8 Y (hl.env 6 8 _ Y Y) Z,?_,oX Y λZ hl=>ca mC Y (hl.D 6 59 Y Y) Z,oX Y λZ hl=>bU iG Y (hl.D 7 60 Y Y) Z,oX Y λZ hl=>b8 Y (hl.env 8 10 _ Y Y) Z,?_,oX Y λZ hl=>bU fY Y (hl.D 10 63 Y Y) Z,?_,?_,oY Y λhk Z hl=>ft dc pi Y (hl.D 13 66 Y Y) (aK hS _ hk Z _ aV) (jo V Z),bB Y,oX Y λZ hl=>cv mC Y (hl.env 0 9 _ Y Y) Z,bB Y,U⟩ ⟨?y0,?y4,U⟩ ⟨.old 0 9 _,.old 1 7 _,.old 2 4 _,.old 3 2 _,.old 4 1 _,.old 5 5 _,.old 6 8 _,.old 7 6 _,.old 8 10 _,U⟩ ?QL)))))
    exact oX Y λZ hl=>cb (i:=(k:Int)) ey Y (hl.D 4 57 Y Y) (hl.D 5 58 Y Y) bM (cq (xs:=ss) (k:=k) az) Y Z
    exact oX Y λZ hl=>cb (i:=(q:Int)) dc Y (hl.D 8 61 Y Y) (hl.D 9 62 Y Y) bM (cq (xs:=(G ss k).args) (k:=q) az) Y Z
    exact λ_ O' cf=>⟨Y,λ_ _ _ Z hl _=>eQ (i:=(G ((G ss k).args) q)) dc Y (aH Z (cf _ (mo 1 Y))) (hl.D 2 55 Y Y) (hl.D 11 64 Y Y) az (by rw[length_map];exact az) Z⟩
    exact λ_ O' cf=>⟨Y,λ_ _ _ Z hl _=>mZ (i:=(G ((G ss k).args) q).toNat) fY Y (aH Z (cf _ (mo 1 Y))) (hl.D 12 65 Y Y) (ir (xs:=to.set k (out.length:Int)) (k:=(G ((G ss k).args) q).toNat) az) Z⟩
    case y0=>exact⟨_,Y,Y,Y,Y,λ_ _ w hk Z hl _=>bC (lj (f:=bT) nums ([(G (to.set k (out.length:Int)) ((G ((G ss k).args) q).toNat))]) (λ_=>rfl) py V hJ0 Y hk Z (hl.D 1 54 Y Y).lit (hl.D 14 67 Y Y) (by simp;omega) (by simp;omega)) λv w' hp=>⟨v,Y,λk' hk'=>absurd hk' (Nat.not_lt_zero _),λ_=>rfl,hp⟩⟩
    case y4=>exact⟨_,Y,Y,Y,Y,λg _ w hk Z hl hs=>bC (DH (off:=1) (cs:=[lS ((G ss k).ae),.lit wa]) (es:=[lS ((G ss k).ae),.lit g]) (c:=.lit g) V hJ0 qz Y hk Z (hl.D 16 69 Y Y) (by rw[(hs 0 15 _ 68 oz Y Y Y)];exact Rel.aG _ (m6 (Z.2.1 _ (mo 0 Y)))) (lb Y) Y) λv w' hp=>⟨g,Y,λ_ _=>rfl,λe=>(by cases e),hp⟩⟩
    clear a w h
    intro v5
    dsimp only[List.map]
    refine nx (aT tb V (r8 [1002]) [_,.int (q+1:Nat),_] [1] U9 Y ⟨aM,U⟩ ?_)
    refine kw qn (kw qn ?_)
    refine kw qn (kw qn ?_)
    refine kw d8 (kw qn ?_)
    exact bq (q+1,nums++([(G (to.set k (out.length:Int)) ((G ((G ss k).args) q).toNat))]),v5) (r9 []) ⟨oz,by rw[bi];exact G3 oz⟩
   ·
    refine aW (nx (tw bQ (tw (λh=>mf (j:=1) (cs':=[lS ((G ss k).ae),bS nums]) hS Y Y h) ?_)))
    refine cG (sq (.at b3 0) Y Y (lb Y) (λ_ _ h=>cv il Y (h.get 1 Y) h.x) ?_)
    refine sy (.lit wo) (λh=>cg iF Y (aH h.x (mo 2 Y)) (h.get 0 Y) Y h.x) ?_
    refine sy (.agg (bF (⟨(G ss k).ae,nums⟩:Stp))) (λh=>iX (ds:=[lS ((G ss k).ae),bS nums]) qX Y (aH h.x (mo 0 Y)) (h.get 2 Y) Y Y h.x) ?_
    refine sy (.rd (br ([(⟨(G ss k).ae,nums⟩:Stp)]))) (λh=>mY ey Cf dz Y Y (h.get 0 Y) (aK hS _ h.keep h.x _ aV) (jo V h.x)) ?_
    refine kw gN (fP (f:=bF) (m:=2) (s:=71) out ([(⟨(G ss k).ae,nums⟩:Stp)]) (λ_=>Y) ow V hJ0 Y Y Y (lb Y) Y Y (λa w h=>(h.get 0 Y)) (by simp;omega) (by simp;omega) λv6=>?_)
    refine sy (.at b3 0) (λh=>cv il Y (h.get 6 Y) h.x) ?_
    refine kw gN (gz (b:=b3) (off:=0) (es:=[_]) V hJ0 BG Y Y Y (lb Y) Y (λa w h=>⟨(h.get 0 Y),(h.get 1 Y)⟩) ?_)
    refine aA [2,7,8,9,10,11,12,13] U8 Y (nx (ln 0 λtF=>?_))
    refine aT tb V [1,2,3,4,5,7,1002] [_,.int (k+1:Nat),_] [1] U7 Y ⟨aM,U⟩ ?_
    refine kw dq (kw cR ?_)
    exact bq (k+1,out++([(⟨(G ss k).ae,nums⟩:Stp)]),wt,to.set k (out.length:Int),v6) (r5 [6,5]) ⟨oz,by first | (rw[uk hb2];exact ah) | (rw[ul hb2,ah,bi,show q=(G ss k).args.length by omega,take_length])⟩
 ·
  have e1:out=gK ss last:=by rw[gK,show last+1=k by omega,ah]
  refine aW (nx (tw bQ (tw (λh=>mf (j:=0) (cs':=[br out]) hS Y Y h) ?_)))
  refine aL (sy (.agg (bw out)) (λh=>iX (ds:=[br out]) eY Y (aH h.x (mo 0 Y)) (h.get 0 Y) Y Y h.x) ?_)
  refine kw dq (ck (b:=b1) (off:=0) (es:=[_]) (news:=[_]) V hJ0 fZ Y Y Y (lb Y) Y (λa w h=>⟨(h.get 2 Y),(h.get 0 Y)⟩) ?_)
  exact aA [2] [_] Y (nx (aZ (λa w h=>jU (m:=0) Y eY h Y Y (show(_:List CD)=[br (gK ss last)]from by(rw[e1])<;>rfl))))
end
end
end Go.Proofs.YtdfadihhfppjaaaGreatDoor
