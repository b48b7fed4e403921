/-
  CONTRACTS of the program: candidates.
  MINIMIZE (plain): how many candidates and changes there are; what the walk knows of a job.
  THE ENGINE: a range over a function in a loop: as many marks as there were rounds.
  CONTRACTS of the program: the changes of a step.
  MINIMIZE (plain): a job made of a proof that is right is as the walk wants it; the rounds that fill its map.
  CONTRACTS of the program: a job made of a proof; changes of a proof.
  MINIMIZE (plain): the order of changes, the least of them.
  CONTRACTS of the program: the least of changes.
  MINIMIZE (plain): the search, round by round.
  CONTRACTS of the program: the search.
  MINIMIZE (plain): what the search leaves is not longer; few.
  CONTRACTS of the law: few; proofs that are the same; the search, right or not.
  CONTRACTS of the law: the example.
  THE LAW MinimizeDone returns true.
  MINIMIZE (plain): a change that holds or not; Check's loop; sizes one behind the other.
  THE ENGINE: a region that draws its order, behind a range over a function.
-/
import Derived.Test.YtdfadihhfppjaaaGreatDoorQAB
set_option maxHeartbeats 8000000
set_option maxRecDepth 100000
namespace Go.Proofs.YtdfadihhfppjaaaGreatDoor
open Go.Proofs.Tryz (prog)
open Go.RowKit
theorem ZlE:XA prog 77:=nO
theorem Zkz:Zi prog 68:=Zm Tryz.func68 Y Y
theorem Zws:XA prog 169:=nO
theorem Zud:Zi prog 104:=Zm Tryz.func104 Y Y
theorem Znw:ZW prog 92 5 7:=fO
theorem one_90:XA prog 90:=nO
theorem Zhl:Zi prog 64:=Zm Tryz.func64 Y Y
theorem Zbc:ZkO prog 90 9 3 keyS.kind:=⟨by kernel_rfl,by kernel_rfl⟩
theorem Zca:Zjt prog 3 (.int default):=⟨(.int .i64 0),fun w=>by kernel_rfl,fun S w=>(show Rel S w (.int 0) _ from Rel.of_lit _)⟩
theorem ZuU:XA prog 33:=nO
theorem Zmv:Zi prog 102:=Zm Tryz.func102 Y Y
theorem ZmK:ZdG prog 158 [.lit (.map none)]:=⟨(.map none),fun w=>by kernel_rfl,fun S w=>(show RdL S w [.lit (.map none)] [.map none]from⟨.lit _ True.intro,U⟩)⟩
theorem ZmV:Xf prog 158 1:=zO
theorem Zn8:ZdG prog 29 [.lit (.slice none 0 0)]:=⟨(.slice none 0 0),fun w=>by kernel_rfl,fun S w=>(show RdL S w [.lit (.slice none 0 0)] [.slice none 0 0]from⟨.lit _ True.intro,U⟩)⟩
theorem Zn7:ZdG prog 33 [.lit .nilFunc]:=⟨(.nilFunc),fun w=>by kernel_rfl,fun S w=>(show RdL S w [.lit .nilFunc] [.nilFunc]from⟨.lit _ True.intro,U⟩)⟩
theorem ZoB:Xf prog 33 1:=zO
abbrev tyF (x0 x1 y1 x2 y2 x3 y3 x4 x5 x6:Nat):Value:=.func (.func 102) #[] #[.pointer (some ⟨x0,0,none⟩),.pointer (some ⟨x1,y1,none⟩),.pointer (some ⟨x2,y2,none⟩),.pointer (some ⟨x3,y3,none⟩),.pointer (some ⟨x4,0,none⟩),.pointer (some ⟨x5,0,none⟩),.pointer (some ⟨x6,0,none⟩)]
section
variable {J:WP} (hJ:Stab J)
include hJ
theorem ZuK {S:Nat→Prop} {w0:World} (hS:∀ b,w0.heap.size≤b→S b) (hJ0:J w0) {l:Nat} {κ μ σ:Type} {I:List (List Int)→κ→List OB} {pv:μ→Value} {O3:μ→List OB} {O4:σ→List OB} (bb mb:Nat) (bf of:Nat) (bj oj:Nat) (bs os:Nat) (ba bY bt:Nat) (d:Db) (i:Nat) (ss:List Stp) (ts:List (List BA)) (M:Nat) (mm:List (BA×Int)) (gf:Fr) (step:Nat) (va:Value) (xs:List (List Int)) (q:Nat) (Mb:BM) (al:List Int) (hH:Has [OB.mI M mm] S w0) (hY:YldE prog J S w0 l (fun x9=>[.rd (Z3 x9)]) (xs) I pv O3 O4) (pre0:List (List Int)) (k0:κ) (hT:Zfs (⟨d,i,ss,ts,mm⟩:Jb) gf step) (hq:al.length=q) (hqk:q≤gf.hyps.length) (hal:∀ x∈al,0≤x∧x< (step:Int)) (hM:BmOk gf.hyps Mb) (hp:pre0++(Zbk (⟨d,i,ss,ts,mm⟩:Jb) gf step q Mb al).1<+:xs) (ih:∀(pre':List (List Int)) (k':κ) (va':Value) (M':BM) (al':List Int),al'.length=(q+1)→(q+1)≤gf.hyps.length→(∀ x'∈al',0≤x'∧x'< (step:Int))→BmOk gf.hyps M'→pre'++(Zbk (⟨d,i,ss,ts,mm⟩:Jb) gf step (q+1) M' al').1<+:xs→FnV (ι:= { q':List (List Int)×κ×Value×BM // q'.1=pre'++(Zbk (⟨d,i,ss,ts,mm⟩:Jb) gf step (q+1) M' al').1∧q'.2.2.2=(Zbk (⟨d,i,ss,ts,mm⟩:Jb) gf step (q+1) M' al').2 } ⊕ { q':σ×Value×List Int×BM // (q+1)≤q'.2.2.1.length }) prog J S w0 102 [.at bb 0,.at bf of,.at bj oj,.at bs os,.at ba 0,.at bY 0,.at bt 0] (OB.var bb [.lit (.map (some mb))]::OB.map keyS sRd mb (M')::OB.pt bf of (frC gf)::OB.pt bj oj [.ptr (jC d i ss ts M)]::OB.pt bs os [lI (step:Int)]::OB.var ba [.lit (va')]::OB.row va' 3 1 ((al').map Xe)::OB.var bY [.lit (.func (.yield l) #[] #[])]::OB.var bt [.lit (tyF bb bf of bj oj bs os ba bY bt)]::I (pre') k') (fun i'=>.bool i'.isLeft) (ZmG (fun z'=>OB.var bb [.lit (.map (some mb))]::OB.map keyS sRd mb (z'.1.2.2.2)::OB.pt bf of (frC gf)::OB.pt bj oj [.ptr (jC d i ss ts M)]::OB.pt bs os [lI (step:Int)]::OB.var ba [.lit (z'.1.2.2.1)]::OB.row z'.1.2.2.1 3 1 ((al').map Xe)::OB.var bY [.lit (.func (.yield l) #[] #[])]::OB.var bt [.lit (tyF bb bf of bj oj bs os ba bY bt)]::I z'.1.1 z'.1.2.1) fun s'=>OB.var bb [.lit (.map (some mb))]::OB.map keyS sRd mb (s'.1.2.2.2)::OB.pt bf of (frC gf)::OB.pt bj oj [.ptr (jC d i ss ts M)]::OB.pt bs os [lI (step:Int)]::OB.var ba [.lit (s'.1.2.1)]::OB.row s'.1.2.1 3 1 ((s'.1.2.2.1).map Xe)::OB.var bY [.lit (.func (.yield l) #[] #[])]::OB.var bt [.lit (tyF bb bf of bj oj bs os ba bY bt)]::O4 s'.1.1) pv O3):FnV (ι:= { q':List (List Int)×κ×Value×BM // q'.1=pre0++(Zbk (⟨d,i,ss,ts,mm⟩:Jb) gf step q Mb al).1∧q'.2.2.2=(Zbk (⟨d,i,ss,ts,mm⟩:Jb) gf step q Mb al).2 } ⊕ { q':σ×Value×List Int×BM // q≤q'.2.2.1.length }) prog J S w0 102 [.at bb 0,.at bf of,.at bj oj,.at bs os,.at ba 0,.at bY 0,.at bt 0] (OB.var bb [.lit (.map (some mb))]::OB.map keyS sRd mb Mb::OB.pt bf of (frC gf)::OB.pt bj oj [.ptr (jC d i ss ts M)]::OB.pt bs os [lI (step:Int)]::OB.var ba [.lit va]::OB.row va 3 1 (al.map Xe)::OB.var bY [.lit (.func (.yield l) #[] #[])]::OB.var bt [.lit (tyF bb bf of bj oj bs os ba bY bt)]::I pre0 k0) (fun i'=>.bool i'.isLeft) (ZmG (fun z'=>OB.var bb [.lit (.map (some mb))]::OB.map keyS sRd mb (z'.1.2.2.2)::OB.pt bf of (frC gf)::OB.pt bj oj [.ptr (jC d i ss ts M)]::OB.pt bs os [lI (step:Int)]::OB.var ba [.lit (z'.1.2.2.1)]::OB.row z'.1.2.2.1 3 1 (al.map Xe)::OB.var bY [.lit (.func (.yield l) #[] #[])]::OB.var bt [.lit (tyF bb bf of bj oj bs os ba bY bt)]::I z'.1.1 z'.1.2.1) fun s'=>OB.var bb [.lit (.map (some mb))]::OB.map keyS sRd mb (s'.1.2.2.2)::OB.pt bf of (frC gf)::OB.pt bj oj [.ptr (jC d i ss ts M)]::OB.pt bs os [lI (step:Int)]::OB.var ba [.lit (s'.1.2.1)]::OB.row s'.1.2.1 3 1 ((s'.1.2.2.1).map Xe)::OB.var bY [.lit (.func (.yield l) #[] #[])]::OB.var bt [.lit (tyF bb bf of bj oj bs os ba bY bt)]::O4 s'.1.1) pv O3:=by
 have _:=hS
 refine ZiU (N:=162) Tryz.func102 Y Y (lb Y) fun R=>?_
 refine YS (B:=So J S w0 162 (OB.var bb [.lit (.map (some mb))]::OB.map keyS sRd mb Mb::OB.pt bf of (frC gf)::OB.pt bj oj [.ptr (jC d i ss ts M)]::OB.pt bs os [lI (step:Int)]::OB.var ba [.lit va]::OB.row va 3 1 (al.map Xe)::OB.var bY [.lit (.func (.yield l) #[] #[])]::OB.var bt [.lit (tyF bb bf of bj oj bs os ba bY bt)]::(I pre0 k0++R)) [(0,.at bb 0),(1,.at bf of),(2,.at bj oj),(3,.at bs os),(4,.at ba 0),(5,.at bY 0),(6,.at bt 0)]) ?_ fun a w h=>h
 refine tw (ZjL (i:=2) (m:=1) Y Y) (tw (ZjL (i:=3) (m:=2) Y Y) ?_)
 refine tw (ZjL (i:=4) (m:=3) Y Y) ?_
 have hst:step<ts.length:=hT.st
 have hgh:=hT.gh
 refine qso tb hJ (r7 []) [_] U7 ?_
 refine Zf (ZF tb hJ (r7 [1003,1007,1010,1015]) [.lit (.map (some mb)),_,_,_,_,_,_,_,_,.ptr [Zg (ge ts step)],_,.tup [.bool ((XJ gf.hyps Mb gf.text (ge ts step)).1),.bool ((XJ gf.hyps Mb gf.text (ge ts step)).2)],_,_,_,_,_] [0,9,11] U11 Y ⟨fun _ _ _ hx hl _=>Zo Zde Y (Ze hx (mo 0 Y)) (hl.env 3 0 _ Y Y) Y hx,iIx Z8,fun _ _ hk hx hl _=>Y3 (ZgP hJ mb Mb gf gf.text (ge ts step) (by exact hT.fl)) Zkx Y (Zk hS _ hk hx) (hx.1) (ZH (Ze hx (mo 1 Y)) Zq) (Za (hl.D 0 22 Y Y) (Za (hl.D 1 23 Y Y) (Za (hl.D 3 25 Y Y) (Za (hl.D 10 32 Y Y) Zc)))) (jo hJ hx),U⟩ ?_)
 refine ln 7 fun hl1=>?_
 refine ln 8 fun hl2=>?_
 refine ln 9 fun hl3=>?_
 refine qso tb hJ (r7 [1001]) U2 U8 ?_
 refine cj 7 (fun hb1=>?_) fun hb1=>?_
 ·
  try simp at hb1
  refine qso tb hJ [1000] [_] [_] ?_
  exact Zs (fun a w h=>lvP (ZK (m:=0) (.inl ⟨(pre0,k0,va,Mb),by first | exact Zej (j:=(⟨d,i,ss,ts,mm⟩:Jb)) (pre:=pre0) hb1 | exact Zob (j:=(⟨d,i,ss,ts,mm⟩:Jb)) (pre:=pre0) hb1 oz hG | exact ZfM (j:=(⟨d,i,ss,ts,mm⟩:Jb)) (pre:=pre0) hb1 oz hG | exact Zek (j:=(⟨d,i,ss,ts,mm⟩:Jb)) (pre:=pre0) hb1 oz (Zeq hb3 hb4 hb5) | exact ZhQ (j:=(⟨d,i,ss,ts,mm⟩:Jb)) (pre:=pre0) hb1 oz g3_1 oz f1_2 f1_3⟩) Y h Y Y))
 ·
  try simp at hb1
  refine Zb (nx (Zf (YU tb hJ (r7 [1002]) [.lit va,.int (al.length:Nat),_] [0,1] U8 Y ⟨fun _ _ _ hx hl _=>Zo Q3 Y (Ze hx (mo 5 Y)) (hl.env 4 4 _ Y Y) Y hx,fun _ _ _ hx hl _=>ZcC (by rw[List.length_map]) YL Y (Ze hx (mo 6 Y)) (hl.D 0 38 Y Y) hx,U⟩ ?_)))
  refine kw (sa 7 Y (congrArg AV.int (show(al.length:Int)=(q:Int)from by omega))) (nx (Zf (ZF tb hJ (r8 [1002,1004]) (V3 [.int (gf.hyps.length:Nat),_]) [3] U10 Y ⟨Ym ZC,U⟩ ?_)))
  refine ln 8 fun hl4=>?_
  refine cj 9 (fun hb2=>?_) fun hb2=>?_
  ·
   try simp at hb2
   refine Zf ?_
   have hgv:=Zpb hJ d i ss ts M gf al step (by exact hT.fl) hT.hi (fun t h'=>(hT.ts t h').1) (fun j h'=>by have h8:=hal _ (Zp h');exact⟨h8.1,oz⟩) oz hT.st hT.gh (fun h h'=>(hT.tx h h').2) hT.wd
   have hcl:=ZdS hJ al (by have:=hT.gh;omega)
   rcases hG:Zdj (⟨d,i,ss,ts,[]⟩:Jb) gf al step with _ | _
   ·
    rw[hG]at hgv
    refine fun a w h=>Zlg pv (fun q=>O3 q++([OB.var bb [.lit (.map (some mb))],OB.map keyS sRd mb Mb,OB.pt bf of (frC gf),OB.pt bj oj [.ptr (jC d i ss ts M)],OB.pt bs os [lI (step:Int)],OB.var ba [.lit va],OB.row va 3 1 (al.map Xe),OB.var bY [.lit (.func (.yield l) #[] #[])],OB.var bt [.lit (tyF bb bf of bj oj bs os ba bY bt)]]++R)) [OB.var bb [.lit (.map (some mb))],OB.map keyS sRd mb Mb,OB.pt bf of (frC gf),OB.pt bj oj [.ptr (jC d i ss ts M)],OB.pt bs os [lI (step:Int)],OB.var ba [.lit va],OB.row va 3 1 (al.map Xe),OB.var bY [.lit (.func (.yield l) #[] #[])],OB.var bt [.lit (tyF bb bf of bj oj bs os ba bY bt)]] (γ:=Unit) (fun ix'=>([.ptr (jC d i ss ts M),.agg (frC gf),.lit va,.int (step:Nat),.bool false,.bool (!false),.bool (!false),.any,.lit va,.any,.any,.bool true,.bool true]:List AV).getD ix' .any) (fun ix'=>([true,true,true,true,true,true,true,(!false==false),(!false==false),(!false==false),(!false==false),true,true]:List Bool).getD ix' true) [(7,fun(_:Unit)=>.bool true)] (fun(_:List Bool) (_:Unit)=>[OB.var bb [.lit (.map (some mb))],OB.map keyS sRd mb Mb,OB.pt bf of (frC gf),OB.pt bj oj [.ptr (jC d i ss ts M)],OB.pt bs os [lI (step:Int)],OB.var ba [.lit va],OB.row va 3 1 (al.map Xe),OB.var bY [.lit (.func (.yield l) #[] #[])],OB.var bt [.lit (tyF bb bf of bj oj bs os ba bY bt)]]++(I pre0 k0++R)) (fun _ _=>undef) [] () (fun _=>Y) h hJ Yo Y Y Y Y (fun b g p hp=>List.mem_append_left _ hp) ⟨?of0,?of1,?of2,?of3,?of4,?of5,?of6,?of7,?of8,?of9,?of10,?of11,?of12,U⟩ trivial ⟨.new 12 7 _,U⟩ (fun q=>vPan [OB.var bb [.lit (.map (some mb))],OB.map keyS sRd mb Mb,OB.pt bf of (frC gf),OB.pt bj oj [.ptr (jC d i ss ts M)],OB.pt bs os [lI (step:Int)],OB.var ba [.lit va],OB.row va 3 1 (al.map Xe),OB.var bY [.lit (.func (.yield l) #[] #[])],OB.var bt [.lit (tyF bb bf of bj oj bs os ba bY bt)]] q) ?nf
    case of0=>exact fun _ O' _=>⟨Y,fun _ _ _ hx hl _=>Za8 ZlE Y (hl.env 1 2 _ Y Y) hx⟩
    case of1=>exact fun _ O' _=>⟨Y,fun _ _ _ hx hl _=>QG ZbY Y (hl.env 2 1 _ Y Y) nlr hx⟩
    case of2=>exact fun _ O' hO'=>⟨Y,fun _ _ _ hx hl _=>Zo Q3 Y (Ze hx (hO' _ (mo 5 Y))) (hl.env 4 4 _ Y Y) Y hx⟩
    case of3=>exact fun _ O' _=>⟨Y,fun _ _ _ hx hl _=>ZB Q2 Y (hl.env 0 3 _ Y Y) hx⟩
    case of4=>exact fun _ O' hO'=>⟨Y,fun _ _ hk hx hl _=>r_fnB hgv Zkz Y hS hJ hk hx (Za ((hl.D 0 45 Y Y).sub fun _ _ h'=>h'.1) (Za ((hl.D 1 46 Y Y).sub fun _ _ h'=>h'.1) (Za (XY hS hx (hO' _ (mo 6 Y)) (hl.D 2 47 Y Y)) (Za ((hl.D 3 48 Y Y).sub fun _ _ h'=>h'.1) Zc))))⟩
    case of5=>exact fun _ O' _=>⟨Y,fun _ _ _ hx hl _=>Zv2 Y (hl.D 4 49 Y Y) hx⟩
    case of6=>exact fun _ O' _=>⟨Y,fun _ _ _ hx hl _=>ZV Y (hl.D 5 50 Y Y) hx⟩
    case of7=>exact fun _ O' _=>⟨⟨_,_,_,Y,Y,Y,Y,Y⟩,fun _ _ _ _ _ hc=>by cases hc⟩
    case of8=>exact fun _ O' hO'=>⟨⟨_,_,_,Y,Y,Y,Y,Y⟩,fun _ _ _ hx hl _=>Zo Q3 Y (Ze hx (hO' _ (mo 5 Y))) (hl.env 4 4 _ Y Y) Y hx⟩
    case of9=>exact fun _ O' _=>⟨⟨_,_,_,Y,Y,Y,Y,Y⟩,fun _ _ _ _ _ hc=>by cases hc⟩
    case of10=>exact fun _ O' _=>⟨⟨_,_,_,Y,Y,Y,Y,Y⟩,fun _ _ _ _ _ hc=>by cases hc⟩
    case of11=>exact fun _ O' _=>⟨Y,fun _ _ _ hx hl _=>r_or (b:=false) Y (hl.D 6 51 Y Y) (fun hg=>by cases hg) hx⟩
    case of12=>exact fun _ O' _=>⟨Y,fun _ _ _ hx hl _=>YA Y (hl.D 11 56 Y Y) hx⟩
    clear a w h
    rintro _
    dsimp only[List.map]
    exact nx (Zs (fun a w h=>lvP (ZK (m:=0) (.inl ⟨(pre0,k0,va,Mb),by first | exact Zej (j:=(⟨d,i,ss,ts,mm⟩:Jb)) (pre:=pre0) hb1 | exact Zob (j:=(⟨d,i,ss,ts,mm⟩:Jb)) (pre:=pre0) hb1 oz hG | exact ZfM (j:=(⟨d,i,ss,ts,mm⟩:Jb)) (pre:=pre0) hb1 oz hG | exact Zek (j:=(⟨d,i,ss,ts,mm⟩:Jb)) (pre:=pre0) hb1 oz (Zeq hb3 hb4 hb5) | exact ZhQ (j:=(⟨d,i,ss,ts,mm⟩:Jb)) (pre:=pre0) hb1 oz g3_1 oz f1_2 f1_3⟩) Y h Y Y)))
   ·
    rw[hG]at hgv
    refine fun a w h=>Zlg pv (fun q=>O3 q++([OB.var bb [.lit (.map (some mb))],OB.map keyS sRd mb Mb,OB.pt bf of (frC gf),OB.pt bj oj [.ptr (jC d i ss ts M)],OB.pt bs os [lI (step:Int)],OB.var ba [.lit va],OB.row va 3 1 (al.map Xe),OB.var bY [.lit (.func (.yield l) #[] #[])],OB.var bt [.lit (tyF bb bf of bj oj bs os ba bY bt)]]++R)) [OB.var bb [.lit (.map (some mb))],OB.map keyS sRd mb Mb,OB.pt bf of (frC gf),OB.pt bj oj [.ptr (jC d i ss ts M)],OB.pt bs os [lI (step:Int)],OB.var ba [.lit va],OB.row va 3 1 (al.map Xe),OB.var bY [.lit (.func (.yield l) #[] #[])],OB.var bt [.lit (tyF bb bf of bj oj bs os ba bY bt)]] (γ:=κ ⊕ σ) (fun ix'=>([.ptr (jC d i ss ts M),.agg (frC gf),.lit va,.int (step:Nat),.bool true,.bool (!true),.bool (!true),.rd (.lit (.func (.yield l) #[] #[])),.lit va,.rd (Z3 al),.any,.any,.any]:List AV).getD ix' .any) (fun ix'=>([true,true,true,true,true,true,true,(!true==false),(!true==false),(!true==false),(!true==false),true,true]:List Bool).getD ix' true) [(7,fun g=>.bool g.isLeft)] (fun(b:List Bool) (g:κ ⊕ σ)=>[OB.var bb [.lit (.map (some mb))],OB.map keyS sRd mb Mb,OB.pt bf of (frC gf),OB.pt bj oj [.ptr (jC d i ss ts M)],OB.pt bs os [lI (step:Int)],OB.var ba [.lit va],OB.row va 3 1 (al.map Xe),OB.var bY [.lit (.func (.yield l) #[] #[])],OB.var bt [.lit (tyF bb bf of bj oj bs os ba bY bt)]]++(bif b.getD 0 false then g.elim (fun z=>I (pre0++[al]) z++R) (fun s=>O4 s++R)else(I pre0 k0++R))) (fun k' g=>match k' with | 0=>.bool g.isLeft | 1=>.bool g.isLeft | 2=>.bool g.isLeft | _=>undef) [10,11,12] (.inl k0) (fun _=>Y) h hJ Yo Y Y Y Y (fun b g p hp=>List.mem_append_left _ hp) ⟨?ot0,?ot1,?ot2,?ot3,?ot4,?ot5,?ot6,?ot7,?ot8,?ot9,?ot10,?ot11,?ot12,U⟩ ⟨?et0,?et1,?et2,U⟩ ⟨.eff 2 12 7 (fun(g:κ ⊕ σ)=>.bool g.isLeft) Y Y (fun _=>Y) (fun _=>True.intro),U⟩ (fun q=>vPan [OB.var bb [.lit (.map (some mb))],OB.map keyS sRd mb Mb,OB.pt bf of (frC gf),OB.pt bj oj [.ptr (jC d i ss ts M)],OB.pt bs os [lI (step:Int)],OB.var ba [.lit va],OB.row va 3 1 (al.map Xe),OB.var bY [.lit (.func (.yield l) #[] #[])],OB.var bt [.lit (tyF bb bf of bj oj bs os ba bY bt)]] q) ?nt
    case ot0=>exact fun _ O' _=>⟨Y,fun _ _ _ hx hl _=>Za8 ZlE Y (hl.env 1 2 _ Y Y) hx⟩
    case ot1=>exact fun _ O' _=>⟨Y,fun _ _ _ hx hl _=>QG ZbY Y (hl.env 2 1 _ Y Y) nlr hx⟩
    case ot2=>exact fun _ O' hO'=>⟨Y,fun _ _ _ hx hl _=>Zo Q3 Y (Ze hx (hO' _ (mo 5 Y))) (hl.env 4 4 _ Y Y) Y hx⟩
    case ot3=>exact fun _ O' _=>⟨Y,fun _ _ _ hx hl _=>ZB Q2 Y (hl.env 0 3 _ Y Y) hx⟩
    case ot4=>exact fun _ O' hO'=>⟨Y,fun _ _ hk hx hl _=>r_fnB hgv Zkz Y hS hJ hk hx (Za ((hl.D 0 45 Y Y).sub fun _ _ h'=>h'.1) (Za ((hl.D 1 46 Y Y).sub fun _ _ h'=>h'.1) (Za (XY hS hx (hO' _ (mo 6 Y)) (hl.D 2 47 Y Y)) (Za ((hl.D 3 48 Y Y).sub fun _ _ h'=>h'.1) Zc))))⟩
    case ot5=>exact fun _ O' _=>⟨Y,fun _ _ _ hx hl _=>Zv2 Y (hl.D 4 49 Y Y) hx⟩
    case ot6=>exact fun _ O' _=>⟨Y,fun _ _ _ hx hl _=>ZV Y (hl.D 5 50 Y Y) hx⟩
    case ot7=>exact fun _ O' hO'=>⟨⟨_,_,_,Y,Y,Y,Y,Y⟩,fun _ _ _ hx hl _=>Zo Zws Y (Ze hx (hO' _ (mo 7 Y))) (hl.env 5 5 _ Y Y) Y hx⟩
    case ot8=>exact fun _ O' hO'=>⟨⟨_,_,_,Y,Y,Y,Y,Y⟩,fun _ _ _ hx hl _=>Zo Q3 Y (Ze hx (hO' _ (mo 5 Y))) (hl.env 4 4 _ Y Y) Y hx⟩
    case ot9=>exact fun _ O' hO'=>⟨⟨_,_,_,Y,Y,Y,Y,Y⟩,fun _ _ hk hx hl _=>ZrR hcl Zhn Y hS hJ hk hx (Za (XY hS hx (hO' _ (mo 6 Y)) (hl.D 8 53 Y Y)) Zc)⟩
    case ot10=>exact Zh Y
    case ot11=>exact Zh Y
    case ot12=>exact Zh Y
    case et0=>exact effZ [[false,false,false]] V Y Y ⟨_,_,_,Y,Y,Y,Y,Y⟩ Y ⟨fun g a w hk hx hl hs=>Zgn (Zxf (I':=fun z=>I (pre0++[al]) z) (O:=I pre0 k0) (R:=R) (avl:=[.rd (Z3 al)]) (xs:=[.tmp 54]) [OB.var bb [.lit (.map (some mb))],OB.map keyS sRd mb Mb,OB.pt bf of (frC gf),OB.pt bj oj [.ptr (jC d i ss ts M)],OB.pt bs os [lI (step:Int)],OB.var ba [.lit va],OB.row va 3 1 (al.map Xe),OB.var bY [.lit (.func (.yield l) #[] #[])],OB.var bt [.lit (tyF bb bf of bj oj bs os ba bY bt)]] Y Y hk hx (hl.D 7 52 Y Y).lit (Za (hl.D 9 54 Y Y) Zc) (fun m' R' w1 vs hk hx hv=>hY m' R' pre0 al k0 w1 vs (by rw[(ZfM (j:=(⟨d,i,ss,ts,mm⟩:Jb)) (pre:=pre0) (k:=q) hb1 oz hG).1];exact hp) hk hx hv)) (fun v w' ⟨g',e',hs'⟩=>⟨g',(fun k' hk'=>by rcases k' with _ | _ | _ | k'<;>first | rfl | cases hk'),fun _=>e',True.intro,hs'⟩) (fun c w' hc=>hc),U⟩
    case et1=>exact effZ [[true,false,false]] V Y Y Y Y ⟨fun g a w hk hx hl hs=>(Zl (r_or (b:=g.isLeft) Y (hl.D 6 51 Y Y) (fun _=>by rw[hs 0 10 _ 55 Y Y Y Y];exact Rel.of_lit _) hx) fun v w' hp=>⟨g,fun _ _=>rfl,fun _=>hp.1.lit,True.intro,Zct hJ hk hx hp.2.1⟩).toP,U⟩
    case et2=>exact effZ [[true,true,false]] V Y Y Y Y ⟨fun g a w hk hx hl hs=>(Zl (YA (S:=S) (av:=.bool g.isLeft) Y (by rw[hs 1 11 _ 56 Y Y Y Y];exact Rel.of_lit _) hx) fun v w' hp=>⟨g,fun _ _=>rfl,fun _=>hp.1.lit,True.intro,Zct hJ hk hx hp.2.1⟩).toP,U⟩
    clear a w h
    rintro(z9 | s9)
    ·
     dsimp only[List.map]
     exact nx (Zs (fun a w h=>lvP (ZK (m:=0) (.inl ⟨((pre0++[al]),z9,va,Mb),by first | exact Zej (j:=(⟨d,i,ss,ts,mm⟩:Jb)) (pre:=pre0) hb1 | exact Zob (j:=(⟨d,i,ss,ts,mm⟩:Jb)) (pre:=pre0) hb1 oz hG | exact ZfM (j:=(⟨d,i,ss,ts,mm⟩:Jb)) (pre:=pre0) hb1 oz hG | exact Zek (j:=(⟨d,i,ss,ts,mm⟩:Jb)) (pre:=pre0) hb1 oz (Zeq hb3 hb4 hb5) | exact ZhQ (j:=(⟨d,i,ss,ts,mm⟩:Jb)) (pre:=pre0) hb1 oz g3_1 oz f1_2 f1_3⟩) Y h Y Y)))
    ·
     dsimp only[List.map]
     exact nx (Zs (fun a w h=>lvP (ZK (m:=0) (.inr ⟨(s9,va,al,Mb),by first | exact Nat.le_of_eq hq.symm | (simp only[List.length_take];omega)⟩) Y h Y Y)))
  ·
   try simp at hb2
   have e2:q<gf.hyps.length:=by omega
   refine Zb (nx (tsq (snK 3 tb (env':=[(59,_),(58,_),(57,_),(3,_),(2,_),(1,_),(0,_),(4,_),(5,_),(6,_),(10,_),(42,_),(44,_)]) Y (sy (.ptr (hyC (ge gf.hyps q))) (fun h=>ZM (i:=(q:Int)) ZI Y (h.get 1 Y) (h.get 0 Y) nnn (ZT (xs:=gf.hyps) (k:=q) sfz) Y h.x) ?_))))
   refine snK 1 tb (env':=[(61,_),(60,_),(59,_),(58,_),(57,_),(3,_),(2,_),(1,_),(0,_),(4,_),(5,_),(6,_),(10,_),(42,_),(44,_)]) Y (Qk (cs:=hyC (ge gf.hyps q)) ZaG Y Y Y (lb Y) Y Y Y dz (m:=0) Y Y (fun a w h=>Zk hS _ h.keep h.x _ nlr) (fun a w h w' hk'=>Yw hJ _ _ hk' h.x) ?_)
   refine seK [0,6,7,8,9,10,12,13] U8 Y (nx (qso tb hJ (r8 [1001,1002]) U3 U10 ?_))
   refine Zf (qso tb hJ (r10 [1002]) U3 U11 ?_)
   refine jnoK (ι:=Nat×Nat) (fun(sA,sB)=>(Za6 (⟨d,i,ss,ts,mm⟩:Jb) gf.hyps step (ge gf.hyps q) Mb=(sA,sB))∧(sA≤sB)∧(sB≤step)) (fun(_,_)=>(OB.var bb [.lit (.map (some mb))]::OB.map keyS sRd mb Mb::OB.pt bf of (frC gf)::OB.pt bj oj [.ptr (jC d i ss ts M)]::OB.pt bs os [lI (step:Int)]::OB.var ba [.lit va]::OB.row va 3 1 (al.map Xe)::OB.var bY [.lit (.func (.yield l) #[] #[])]::OB.var bt [.lit (tyF bb bf of bj oj bs os ba bY bt)]::(I pre0 k0++R))) (fun(sA,sB)=>[(11,.ptr (hyC (ge gf.hyps q))),(2,.ptr [.ptr (jC d i ss ts M)]),(0,.at bb 0),(4,.at ba 0),(6,.at bt 0),(10,.int (q:Nat)),(12,.int (sA:Nat)),(13,.int (sB:Nat))]) ?_ ?_
   ·
    refine cj 10 (fun hb3=>?_) fun hb3=>?_
    ·
     try simp at hb3
     refine Zf (tw pm1 (fun a w h=>Zal (OB.var bb [.lit (.map (some mb))]::OB.pt bf of (frC gf)::OB.pt bj oj [.ptr (jC d i ss ts M)]::OB.pt bs os [lI (step:Int)]::OB.var ba [.lit va]::OB.row va 3 1 (al.map Xe)::OB.var bY [.lit (.func (.yield l) #[] #[])]::OB.var bt [.lit (tyF bb bf of bj oj bs os ba bY bt)]::(I pre0 k0++R)) (γ:=Value) (fun ix'=>([.ptr [Zg ((ge gf.hyps q).text)],.rd (Zg ((ge gf.hyps q).text)),.lit (.map (some mb)),.rd (Zgu (YY Mb)),.tup [.rd (Zg (if XZ (ZQ (YY Mb)) ((ge gf.hyps q).text) 2000 then Xp (ZQ (YY Mb)) ((ge gf.hyps q).text)else [])),.int (if XZ (ZQ (YY Mb)) ((ge gf.hyps q).text) 2000 then 0 else 15)],.tup [.rd (Zg (if XZ (ZQ (YY Mb)) ((ge gf.hyps q).text) 2000 then Xp (ZQ (YY Mb)) ((ge gf.hyps q).text)else [])),.int (if XZ (ZQ (YY Mb)) ((ge gf.hyps q).text) 2000 then 0 else 15)],.rd (Zg (if XZ (ZQ (YY Mb)) ((ge gf.hyps q).text) 2000 then Xp (ZQ (YY Mb)) ((ge gf.hyps q).text)else [])),.int (if XZ (ZQ (YY Mb)) ((ge gf.hyps q).text) 2000 then 0 else 15),.rd (Zg (if XZ (ZQ (YY Mb)) ((ge gf.hyps q).text) 2000 then Xp (ZQ (YY Mb)) ((ge gf.hyps q).text)else [])),.int (if XZ (ZQ (YY Mb)) ((ge gf.hyps q).text) 2000 then 0 else 15)]:List AV).getD ix' .any) (fun _=>true) [(11,fun _=>.ptr (hyC (ge gf.hyps q))),(3,fun _=>.ptr [lI (step:Int)]),(2,fun _=>.ptr [.ptr (jC d i ss ts M)]),(1,fun _=>.ptr (frC gf)),(0,fun _=>.at bb 0),(4,fun _=>.at ba 0),(6,fun _=>.at bt 0),(10,fun _=>.int (q:Nat)),(12,fun _=>.int (0:Int)),(13,fun _=>.int (step:Nat)),(14,fun _=>.rd (Zg (if XZ (ZQ (YY Mb)) ((ge gf.hyps q).text) 2000 then Xp (ZQ (YY Mb)) ((ge gf.hyps q).text)else []))),(15,fun _=>.int (if XZ (ZQ (YY Mb)) ((ge gf.hyps q).text) 2000 then 0 else 15))] (fun(b:List Bool) (g:Value)=>[OB.map keyS sRd mb Mb]++(OB.var bb [.lit (.map (some mb))]::OB.pt bf of (frC gf)::OB.pt bj oj [.ptr (jC d i ss ts M)]::OB.pt bs os [lI (step:Int)]::OB.var ba [.lit va]::OB.row va 3 1 (al.map Xe)::OB.var bY [.lit (.func (.yield l) #[] #[])]::OB.var bt [.lit (tyF bb bf of bj oj bs os ba bY bt)]::(I pre0 k0++R))) (fun k' g=>match k' with | 0=>g | _=>undef) [3] undef (fun _=>Y) h hJ Yo Y Y Y Y (fun b g p hp=>(List.mem_append_right _ hp)) ⟨?_,?_,?_,?_,?_,?_,?_,?_,?_,?_,U⟩ ⟨?e10_1_0,U⟩ ⟨.old 0 11 _,.old 1 3 _,.old 2 2 _,.old 3 1 _,.old 4 0 _,.old 5 4 _,.old 6 6 _,.old 7 10 _,.old 8 12 _,.old 9 13 _,.new 8 14 _,.new 9 15 _,U⟩ ?n10_1))
     exact oX Y fun hx hl=>ZG Xb Y (hl.env 0 11 _ Y Y) hx
     exact oX Y fun hx hl=>ZB Qy Y (hl.D 0 67 Y Y) hx
     exact fun _ O' hO'=>⟨Y,fun _ _ _ hx hl _=>Zo Zde Y (Ze hx (hO' _ (mo 0 Y))) (hl.env 4 0 _ Y Y) Y hx⟩
     exact Zh Y
     exact oY Y fun hk hx hl=>ZaL (Zik hJ ((ge gf.hyps q).text) (YY Mb) 2000 sfz (by exact fun b hb=>(hM.lst b hb).1)) Zmu Y (Zk hS _ hk hx) (hx.1) (Za (hl.D 1 68 Y Y) (Za (hl.D 3 70 Y Y) (Za (Rel.of_lit (.int .i64 2000)) Zc))) (jo hJ hx)
     exact oX Y fun hx hl=>ZV Y (hl.D 4 71 Y Y) hx
     exact oX Y fun hx hl=>Yx Y (hl.D 5 66 Y Y) Y hx
     exact oX Y fun hx hl=>Yx Y (hl.D 5 66 Y Y) Y hx
     exact oX Y fun hx hl=>YA Y (hl.D 6 72 Y Y) hx
     exact oX Y fun hx hl=>YA Y (hl.D 7 73 Y Y) hx
     case e10_1_0=>exact Zhe [[false]] V Y Y Y Y ⟨fun _ _ w hk hx hl _=>Zl (Zu8 (O:=[OB.map keyS sRd mb Mb]) (R:=(OB.var bb [.lit (.map (some mb))]::OB.pt bf of (frC gf)::OB.pt bj oj [.ptr (jC d i ss ts M)]::OB.pt bs os [lI (step:Int)]::OB.var ba [.lit va]::OB.row va 3 1 (al.map Xe)::OB.var bY [.lit (.func (.yield l) #[] #[])]::OB.var bt [.lit (tyF bb bf of bj oj bs os ba bY bt)]::(I pre0 k0++R))) (Zo7 hJ mb Mb (by exact hM.nd) (by exact hM.key hT.fl (fun y h=>(hT.tx y h).2)) (by have:=hM.len;omega)) Zkw Y hS hJ0 Zq hk hx (Za (hl.D 2 69 Y Y) Zc)) fun v w' ⟨i,hp,hv⟩=>⟨v,(fun k' hk'=>by rcases k' with _ | k'<;>first | rfl | cases hk'),fun _=>rfl,hv,hp⟩,U⟩
     clear a w h
     intro x1
     dsimp only[List.map]
     refine nx (ln 10 fun hl5=>?_)
     refine ZF tb hJ [0,1,2,4,5,6,7,8,9,10,11,1003,1004] [.lit (.map (some mb)),_,_,_,.bool (ZxS gf.hyps Mb ((ge gf.hyps q).text))] [0,4] [_,_,_,_,_,_,_,_,_,_,_,_,_] Y ⟨fun _ _ _ hx hl _=>Zo Zde Y (Ze hx (mo 1 Y)) (hl.env 4 0 _ Y Y) Y hx,fun _ _ hk hx hl _=>Y3 (Zwe hJ mb Mb gf ((ge gf.hyps q).text) (by exact hT.fl)) Zud Y (Zk hS _ hk hx) (hx.1) (ZH (Ze hx (mo 0 Y)) Zq) (Za (hl.D 0 74 Y Y) (Za (hl.D 1 75 Y Y) (Za (hl.D 3 77 Y Y) Zc))) (jo hJ hx),U⟩ ?_
     refine ln 11 fun hl6=>?_
     refine cj 12 (fun hb4=>?_) fun hb4=>?_
     ·
      try simp at hb4
      refine ZF tb hJ (r7 [10,1010,1011]) (V5 [.str (XB (if XZ (ZQ (YY Mb)) ((ge gf.hyps q).text) 2000 then Xp (ZQ (YY Mb)) ((ge gf.hyps q).text)else [])),.tup [.int ((Zy mm (XB (if XZ (ZQ (YY Mb)) ((ge gf.hyps q).text) 2000 then Xp (ZQ (YY Mb)) ((ge gf.hyps q).text)else []))).getD default),.bool ((Zy mm (XB (if XZ (ZQ (YY Mb)) ((ge gf.hyps q).text) 2000 then Xp (ZQ (YY Mb)) ((ge gf.hyps q).text)else []))).isSome)],_,_,_,_,_]) [5,6] U10 Y ⟨iFo hS hJ (Zr2 hJ (if XZ (ZQ (YY Mb)) ((ge gf.hyps q).text) 2000 then Xp (ZQ (YY Mb)) ((ge gf.hyps q).text)else []) (by first | exact(Zd7 hT hM (Zp oz)).1 | exact(hT.ts _ (Zp (show sA+n<ts.length by omega))).1.2) (by first | exact(Zd7 hT hM (Zp oz)).2 | exact(hT.ts _ (Zp (show sA+n<ts.length by omega))).2)) Zhl,fun _ _ hk hx hl _=>XD (Kd:=keyS) (f:=(fun z':Int=>AV.int z')) (L:=mm) Zbc Zca (XB (if XZ (ZQ (YY Mb)) ((ge gf.hyps q).text) 2000 then Xp (ZQ (YY Mb)) ((ge gf.hyps q).text)else [])) Y (ZJ hH hk hx (mo 0 Y)) (hl.D 3 83 Y Y) (hl.D 5 85 Y Y) hx,U⟩ ?_
      refine Zf (qso tb hJ [0,2,3,4,5,6,8,1010] U11 U8 ?_)
      refine cj 7 (fun hb5=>?_) fun hb5=>?_
      ·
       refine qso tb hJ [1000] [_] [_] ?_
       refine tw pm8 (tw pm8 ?_)
       refine tw pm8 (tw pm8 ?_)
       refine tw pm8 (tw pm8 ?_)
       refine tw pm8 (tw pm7 ?_)
       exact tw pm8 (Zs (fun a w h=>lvP (ZK (m:=0) (.inl ⟨(pre0,k0,va,Mb),by first | exact Zej (j:=(⟨d,i,ss,ts,mm⟩:Jb)) (pre:=pre0) hb1 | exact Zob (j:=(⟨d,i,ss,ts,mm⟩:Jb)) (pre:=pre0) hb1 oz hG | exact ZfM (j:=(⟨d,i,ss,ts,mm⟩:Jb)) (pre:=pre0) hb1 oz hG | exact Zek (j:=(⟨d,i,ss,ts,mm⟩:Jb)) (pre:=pre0) hb1 oz (Zeq hb3 hb4 hb5) | exact ZhQ (j:=(⟨d,i,ss,ts,mm⟩:Jb)) (pre:=pre0) hb1 oz g3_1 oz f1_2 f1_3⟩) Y h Y Y)))
      ·
       have e5:0≤(Zy mm (XB (if XZ (ZQ (YY Mb)) (ge gf.hyps q).text 2000 then Xp (ZQ (YY Mb)) (ge gf.hyps q).text else []))).getD default∧(Zy mm (XB (if XZ (ZQ (YY Mb)) (ge gf.hyps q).text 2000 then Xp (ZQ (YY Mb)) (ge gf.hyps q).text else []))).getD default< (step:Int)∧Za6 (⟨d,i,ss,ts,mm⟩:Jb) gf.hyps step (ge gf.hyps q) Mb=(((Zy mm (XB (if XZ (ZQ (YY Mb)) (ge gf.hyps q).text 2000 then Xp (ZQ (YY Mb)) (ge gf.hyps q).text else []))).getD default).toNat,((Zy mm (XB (if XZ (ZQ (YY Mb)) (ge gf.hyps q).text 2000 then Xp (ZQ (YY Mb)) (ge gf.hyps q).text else []))).getD default).toNat+1):=sp_one hT hb3 hb4 hb5
       refine Zb (nx (YU tb hJ (r6 [1003,1004]) [_,_,.int (((Zy mm (XB (if XZ (ZQ (YY Mb)) ((ge gf.hyps q).text) 2000 then Xp (ZQ (YY Mb)) ((ge gf.hyps q).text)else []))).getD default)+(1:Int)),_,_] [2] U8 Y ⟨YT,U⟩ ?_))
       refine kw (sa 6 Y (congrArg AV.int (show((Zy mm (XB (if XZ (ZQ (YY Mb)) ((ge gf.hyps q).text) 2000 then Xp (ZQ (YY Mb)) ((ge gf.hyps q).text)else []))).getD default)=((((Zy mm (XB (if XZ (ZQ (YY Mb)) (ge gf.hyps q).text 2000 then Xp (ZQ (YY Mb)) (ge gf.hyps q).text else []))).getD default).toNat:Nat):Int)from by omega))) (kw (sa 7 Y (congrArg AV.int (show((Zy mm (XB (if XZ (ZQ (YY Mb)) ((ge gf.hyps q).text) 2000 then Xp (ZQ (YY Mb)) ((ge gf.hyps q).text)else []))).getD default)+(1:Int)=((((Zy mm (XB (if XZ (ZQ (YY Mb)) (ge gf.hyps q).text 2000 then Xp (ZQ (YY Mb)) (ge gf.hyps q).text else []))).getD default).toNat+1:Nat):Int)from by omega))) ?_)
       refine kw pm8 (kw pm8 ?_)
       refine kw pm8 (kw pm8 ?_)
       refine kw pm8 (kw pm8 ?_)
       refine kw pm8 (kw pm7 ?_)
       exact kw pm8 (ZwJ (((Zy mm (XB (if XZ (ZQ (YY Mb)) (ge gf.hyps q).text 2000 then Xp (ZQ (YY Mb)) (ge gf.hyps q).text else []))).getD default).toNat,((Zy mm (XB (if XZ (ZQ (YY Mb)) (ge gf.hyps q).text 2000 then Xp (ZQ (YY Mb)) (ge gf.hyps q).text else []))).getD default).toNat+1) (r8 []) ⟨by first | exact ZgC hb3 | exact ZjN hb4 | exact e5.2.2,oz,oz⟩)
     ·
      try simp at hb4
      refine Zb (kw pm8 (kw pm8 ?_))
      refine kw pm8 (kw pm8 ?_)
      refine kw pm8 (kw pm8 ?_)
      refine kw pm8 (kw pm7 ?_)
      exact kw pm8 (ZwJ (0,step) [0,2,3,4,5,6,7,8] ⟨by first | exact ZgC hb3 | exact ZjN hb4 | exact e5.2.2,oz,oz⟩)
    ·
     try simp at hb3
     exact Zb (ZwJ (0,step) [0,2,4,5,6,7,8,9] ⟨by first | exact ZgC hb3 | exact ZjN hb4 | exact e5.2.2,oz,oz⟩)
   ·
    rintro⟨sA,sB⟩ ⟨g3_1,g3_2,g3_3⟩
    refine Zf (qso tb hJ (r6 [7,1001]) U2 U8 ?_)
    refine Zd (lpo (ι:=Nat×BM×Value×(List (List Int))×κ) (fun(n,M2,_,pre,_)=>(sA+n≤sB)∧(pre=pre0++(Zcc (⟨d,i,ss,ts,mm⟩:Jb) gf step q Mb al sA n).1)∧(M2=(Zcc (⟨d,i,ss,ts,mm⟩:Jb) gf step q Mb al sA n).2)) (fun(_,M2,wa,pre,kk)=>(OB.var bb [.lit (.map (some mb))]::OB.map keyS sRd mb M2::OB.pt bf of (frC gf)::OB.pt bj oj [.ptr (jC d i ss ts M)]::OB.pt bs os [lI (step:Int)]::OB.var ba [.lit wa]::OB.row wa 3 1 (al.map Xe)::OB.var bY [.lit (.func (.yield l) #[] #[])]::OB.var bt [.lit (tyF bb bf of bj oj bs os ba bY bt)]::(I pre kk++R))) (fun(n,_,_,_,_)=>[(18,.int (sA+n:Nat))]) (fun(n,_,_,_,_)=>sB-(sA+n)) (r8 []) U7 (0,Mb,va,pre0,k0) ⟨oz,by rw[ZjF];simp,by rw[ZjF]⟩ ?_)
    rintro⟨n,M2,wa,pre,kk⟩ ⟨f1_1,f1_2,f1_3⟩
    refine Zf (qso tb hJ (r8 [1002]) U3 U9 ?_)
    refine cj 8 (fun hb6=>?_) fun hb6=>?_
    ·
     try simp at hb6
     have h6:1≤(ge ts (sA+n)).length∧(ge ts (sA+n)).length≤2000:=(hT.ts _ (Zp (show sA+n<ts.length by omega))).1
     have h5:1≤(ge gf.hyps q).text.length:=(hT.tx _ (Zp e2)).1
     refine Zb (nx (Zf (Zd (ZF tb hJ (r8 [1006,1007]) (V5 [.ptr [Zg (ge ts (sA+n))],_,_]) [5] U10 Y ⟨iIx Z8,U⟩ ?_))))
     refine ln 8 fun hl7=>?_
     refine Zf (ZF tb hJ (r8 [9,1018]) (V5 [.str (XB (ge ts (sA+n))),.int ((Zy mm (XB (ge ts (sA+n)))).getD default),_,_,_,_,.ptr [lS (ge (ge ts (sA+n)) 0)],_,_,_,.ptr [lS (ge ((ge gf.hyps q).text) 0)],_,_,_]) [5,6,11,15] U10 Y ⟨iFo hS hJ (Zr2 hJ (ge ts (sA+n)) (by first | exact(Zd7 hT hM (Zp oz)).1 | exact(hT.ts _ (Zp (show sA+n<ts.length by omega))).1.2) (by first | exact(Zd7 hT hM (Zp oz)).2 | exact(hT.ts _ (Zp (show sA+n<ts.length by omega))).2)) Zhl,fun _ _ hk hx hl _=>ZgI (Kd:=keyS) (f:=(fun z':Int=>AV.int z')) (L:=mm) Zbc Zca (XB (ge ts (sA+n))) Y (ZJ hH hk hx (mo 0 Y)) (hl.D 3 119 Y Y) (hl.D 5 121 Y Y) hx,gIx (k:=0) Zj (hk:=fun(hc':((!decide (((Zy mm (XB (ge ts (sA+n)))).getD default)=((sA+n:Nat):Int)))==false)=true)=>by(try simp at hc');first | omega | (simp;omega) | grind[Zp]),gIx (k:=0) Zj (hk:=fun(hc':((!decide (((Zy mm (XB (ge ts (sA+n)))).getD default)=((sA+n:Nat):Int)))==false)=true)=>by(try simp at hc');first | omega | (simp;omega) | grind[Zp]),U⟩ ?_)
     refine cj 9 (fun hb7=>?_) fun hb7=>?_
     ·
      have ho:ZnQ (⟨d,i,ss,ts,mm⟩:Jb) (ge gf.hyps q) (sA+n)=false:=(ZuV hT (show sA+n<ts.length by omega)).trans (by have h9:=congrArg (fun b'=>!b') hb7;exact h9)
      refine Zu (nx (YU tb hJ (r7 [1002]) [_,.int (sA+n+1:Nat),_] [1] U8 Y ⟨YT,U⟩ ?_))
      exact Xk ((n+1),M2,wa,pre,kk) (r8 []) ⟨oz,by first | (rw[Zc6 ho];exact f1_2) | exact(Za4 (j:=(⟨d,i,ss,ts,mm⟩:Jb)) f1_2 f1_3 g8_1 Y ho ez).1,by first | (rw[Zc6 ho];exact f1_3) | exact(if_pos hb9).symm.trans (Za4 (j:=(⟨d,i,ss,ts,mm⟩:Jb)) f1_2 f1_3 g8_1 Y ho ez).2 | exact(if_neg (by simp[hb9])).symm.trans (Za4 (j:=(⟨d,i,ss,ts,mm⟩:Jb)) f1_2 f1_3 g8_1 Y ho ez).2⟩
     ·
      have ho:ZnQ (⟨d,i,ss,ts,mm⟩:Jb) (ge gf.hyps q) (sA+n)=true:=(ZuV hT (show sA+n<ts.length by omega)).trans (by have h9:=congrArg (fun b'=>!b') hb7;exact h9)
      refine Zb (nx (Zf (qso tb hJ (r9 [1001]) U2 U10 ?_)))
      refine jnoK (ι:=BM) (fun M3=>(M3=if(ge gf.hyps q).floating then XK M2 (ge (ge gf.hyps q).text 1) ((ge ts (sA+n)).drop 1)else M2)) (fun M3=>(OB.var bb [.lit (.map (some mb))]::OB.map keyS sRd mb M3::OB.pt bf of (frC gf)::OB.pt bj oj [.ptr (jC d i ss ts M)]::OB.pt bs os [lI (step:Int)]::OB.var ba [.lit wa]::OB.row wa 3 1 (al.map Xe)::OB.var bY [.lit (.func (.yield l) #[] #[])]::OB.var bt [.lit (tyF bb bf of bj oj bs os ba bY bt)]::(I pre kk++R))) (fun _=>[(11,.ptr (hyC (ge gf.hyps q))),(2,.ptr [.ptr (jC d i ss ts M)]),(0,.at bb 0),(4,.at ba 0),(6,.at bt 0),(10,.int (q:Nat)),(13,.int (sB:Nat)),(18,.int (sA+n:Nat))]) ?_ ?_
      ·
       refine cj 9 (fun hb8=>?_) fun hb8=>?_
       ·
        try simp at hb8
        have e3:(ge gf.hyps q).text.length=2:=hT.fl _ (Zp oz) hb8
        have e4:=(hT.ts _ (Zp (show sA+n<ts.length by omega))).1
        refine tw pm1 (fun a w h=>YH (γ:=Unit) (fun ix'=>([.lit (.map (some mb)),.ptr [Zg ((ge gf.hyps q).text)],.rd (Zg ((ge gf.hyps q).text)),.ptr [lS (ge ((ge gf.hyps q).text) 1)],.str (ge ((ge gf.hyps q).text) 1),.rd (Zg (ge ts (sA+n))),.rd (Zg ((ge ts (sA+n)).drop 1)),.any]:List AV).getD ix' .any) (fun _=>true) [(11,fun _=>.ptr (hyC (ge gf.hyps q))),(2,fun _=>.ptr [.ptr (jC d i ss ts M)]),(0,fun _=>.at bb 0),(4,fun _=>.at ba 0),(6,fun _=>.at bt 0),(10,fun _=>.int (q:Nat)),(13,fun _=>.int (sB:Nat)),(18,fun _=>.int (sA+n:Nat))] (fun j' _=>match j' with | 0=>(OB.map keyS sRd mb M2::OB.var bb [.lit (.map (some mb))]::OB.pt bf of (frC gf)::OB.pt bj oj [.ptr (jC d i ss ts M)]::OB.pt bs os [lI (step:Int)]::OB.var ba [.lit wa]::OB.row wa 3 1 (al.map Xe)::OB.var bY [.lit (.func (.yield l) #[] #[])]::OB.var bt [.lit (tyF bb bf of bj oj bs os ba bY bt)]::(I pre kk++R)) | _=>(OB.map keyS sRd mb (XK M2 (ge ((ge gf.hyps q).text) 1) ((ge ts (sA+n)).drop 1))::OB.var bb [.lit (.map (some mb))]::OB.pt bf of (frC gf)::OB.pt bj oj [.ptr (jC d i ss ts M)]::OB.pt bs os [lI (step:Int)]::OB.var ba [.lit wa]::OB.row wa 3 1 (al.map Xe)::OB.var bY [.lit (.func (.yield l) #[] #[])]::OB.var bt [.lit (tyF bb bf of bj oj bs os ba bY bt)]::(I pre kk++R))) (fun _ _=>undef) [7] 0 () (fun _=>Y) h hJ Yo Y Y Y Y Y Y hsb ⟨?_,?_,?_,?_,?_,?_,?_,?_,U⟩ ⟨?e22_2_0,U⟩ ⟨.old 0 11 _,.old 1 2 _,.old 2 0 _,.old 3 4 _,.old 4 6 _,.old 5 10 _,.old 6 13 _,.old 7 18 _,U⟩ ?n22_2)
        exact fun _ O' hO'=>⟨Y,fun _ _ _ hx hl _=>Zo Zde Y (Ze hx (hO' _ (mo 1 Y))) (hl.env 2 0 _ Y Y) Y hx⟩
        exact oX Y fun hx hl=>ZG Xb Y (hl.env 0 11 _ Y Y) hx
        exact oX Y fun hx hl=>ZB Qy Y (hl.D 1 138 Y Y) hx
        exact oX Y fun hx hl=>ZM (i:=((1:Nat):Int)) Zj Y (hl.D 2 139 Y Y) (Rel.of_lit (.int .i64 1)) nnn (ZT (xs:=(ge gf.hyps q).text) (k:=1) sfz) Y hx
        exact oX Y fun hx hl=>ZB Qx Y (hl.D 3 140 Y Y) hx
        exact oX Y fun hx hl=>ZV Y (hl.env 8 19 _ Y Y) hx
        exact oX Y fun hx hl=>Zam (ys:=(ge ts (sA+n)).drop 1) (lo:=1) (hi:=(ge ts (sA+n)).length) (by rw[List.take_length]) Zj (fun _=>Y) Y (hl.D 5 142 Y Y) (Rel.of_lit (.int .i64 1)) Y sfz sfz hx
        exact Zh Y
        case e22_2_0=>exact⟨_,Y,Y,Y,Y,fun g _ w hk hx hl _=>Zl (Zkr (f:=sRd) XN hJ hJ0 (ge ((ge gf.hyps q).text) 1) ((ge ts (sA+n)).drop 1) (.inl Y) hk hx (hl.D 0 137 Y Y) (hl.D 4 141 Y Y) (hl.D 6 143 Y Y)) fun v w' ⟨_,hp⟩=>⟨g,Y,fun _ _=>rfl,fun e=>(by cases e),hp⟩⟩
        clear a w h
        intro _
        dsimp only[List.map]
        refine kw pm8 (kw pm8 ?_)
        refine kw pm8 (kw pm8 ?_)
        refine kw pm8 (kw pm8 ?_)
        refine kw pm8 (kw pm7 ?_)
        exact kw pm8 (ZwJ (XK M2 (ge ((ge gf.hyps q).text) 1) ((ge ts (sA+n)).drop 1)) (r8 []) (show(XK M2 (ge ((ge gf.hyps q).text) 1) ((ge ts (sA+n)).drop 1))=if(ge gf.hyps q).floating then XK M2 (ge (ge gf.hyps q).text 1) ((ge ts (sA+n)).drop 1)else M2 from by first | exact(if_pos hb8).symm | exact(if_neg (by simp[hb8])).symm))
       ·
        try simp at hb8
        exact Zb (ZwJ M2 (r8 []) (show M2=if(ge gf.hyps q).floating then XK M2 (ge (ge gf.hyps q).text 1) ((ge ts (sA+n)).drop 1)else M2 from by first | exact(if_pos hb8).symm | exact(if_neg (by simp[hb8])).symm))
      ·
       rintro M3 hF
       have g8_1:M3=if(ge gf.hyps q).floating then XK M2 (ge (ge gf.hyps q).text 1) ((ge ts (sA+n)).drop 1)else M2:=hF
       refine tsq (sy (.lit wa) (fun h=>Zo Q3 Y (Ze h.x (mo 5 Y)) (h.get 3 Y) Y h.x) ?_)
       refine snK 1 tb (env':=[(145,_),(144,_),(11,_),(2,_),(0,_),(4,_),(6,_),(10,_),(13,_),(18,_)]) Y (sy (.rd (Z3 ([((sA+n:Nat):Int)]))) (fun h=>YI Zw Zea Y (h.get 0 Y) (Zk hS _ h.keep h.x _ nlr) (jo hJ h.x)) ?_)
       refine kw pm6 (YD (f:=Xe) (m:=2) (s:=144) al ([((sA+n:Nat):Int)]) (fun _=>Y) Zhx hJ hJ0 Y Y Y (lb Y) Y Y (fun a w h=>(h.get 0 Y)) sfz sfz fun v2=>?_)
       refine kw pm6 (Z6 (b:=ba) (off:=0) (es:=[_]) hJ hJ0 ZaK Y Y Y (lb Y) Y (fun a w h=>⟨(h.get 7 Y),(h.get 0 Y)⟩) ?_)
       refine seK [1,4,5,6,7,8,9,10,11] U9 Y (nx (ln 0 fun hl8=>?_))
       refine tsq (sy (.lit (tyF bb bf of bj oj bs os ba bY bt)) (fun h=>Zo ZuU Y (Ze h.x (mo 8 Y)) (h.get 5 Y) Y h.x) ?_)
       refine kw pm8 (kw pm8 ?_)
       refine kw pm3 (kw pm3 ?_)
       refine kw pm8 (kw pm8 ?_)
       refine kw pm8 (kw pm8 ?_)
       refine kw pm8 (Zk8 (O:=(OB.var bb [.lit (.map (some mb))]::OB.map keyS sRd mb M3::OB.pt bf of (frC gf)::OB.pt bj oj [.ptr (jC d i ss ts M)]::OB.pt bs os [lI (step:Int)]::OB.var ba [.lit v2]::OB.row v2 3 1 ((al++([((sA+n:Nat):Int)])).map Xe)::OB.var bY [.lit (.func (.yield l) #[] #[])]::OB.var bt [.lit (tyF bb bf of bj oj bs os ba bY bt)]::I pre kk)) (R:=R) [] [.pointer (some ⟨bb,0,none⟩),.pointer (some ⟨bf,of,none⟩),.pointer (some ⟨bj,oj,none⟩),.pointer (some ⟨bs,os,none⟩),.pointer (some ⟨ba,0,none⟩),.pointer (some ⟨bY,0,none⟩),.pointer (some ⟨bt,0,none⟩)] [.at bb 0,.at bf of,.at bj oj,.at bs os,.at ba 0,.at bY 0,.at bt 0] (ih (pre':=pre) (k':=kk) (va':=v2) (M':=M3) (al':=(al++([((sA+n:Nat):Int)]))) (by simp;omega) oz (fun x' hx'=>by rcases List.mem_append.1 hx' with h | h;exact hal x' h;rw[List.mem_singleton.1 h];omega) (by rw[g8_1,f1_3];exact put_ok hT (k:=q) oz (show sA+n<ts.length by omega) (Zoe hT oz hM n)) (by rw[g8_1,f1_2,f1_3];exact ZvB (j:=(⟨d,i,ss,ts,mm⟩:Jb)) oz ho (tz_pre (j:=(⟨d,i,ss,ts,mm⟩:Jb)) hb1 oz g3_1 hp))) Zmv Y Y Y (lb Y) (fun a w h=>(h.get 0 Y).lit) (fun a w h=>Zc) (fun w=>(Za (Rel.of_lit _) (Za (Rel.of_lit _) (Za (Rel.of_lit _) (Za (Rel.of_lit _) (Za (Rel.of_lit _) (Za (Rel.of_lit _) (Za (Rel.of_lit _) Zc)))))))) (fun q=>vPan0 q) (fun s3=>?_) (fun z4=>?_))
       ·
        dsimp only[List.map,ZmG]
        have es:=s3.2
        refine snK 1 tb (env':=[(20,_),(149,_),(148,_),(146,_),(11,_),(2,_),(0,_),(4,_),(6,_),(10,_),(13,_),(18,_)]) Y (seK [0,4,5,6,7,8,9,10,11] U9 Y ?_)
        refine nx (tw pm6 (tw (fun h=>List.map_take▸Zop (m:=q) (by rw[List.length_map];exact sfz) h) ?_))
        refine tsq (sy (.lit s3.1.2.1) (fun h=>Zo Q3 Y (Ze h.x (mo 6 Y)) (h.get 4 Y) Y h.x) ?_)
        refine snK 1 tb (env':=[(151,_),(150,_),(20,_),(11,_),(2,_),(0,_),(4,_),(6,_),(10,_),(13,_),(18,_)]) Y (sy (.lit (Zaf s3.1.2.1 q)) (fun h=>Zez (m:=q) Zw Y (Ze h.x (mo 0 Y)) (by first | rfl | (rw[List.length_map];exact sfz)) (h.get 1 Y) (h.get 0 Y) h.x) ?_)
        refine kw pm6 (Z6 (b:=ba) (off:=0) (es:=[_]) hJ hJ0 ZaK Y Y Y (lb Y) Y (fun a w h=>⟨(h.get 7 Y),(h.get 0 Y)⟩) ?_)
        refine seK [3,4,5,6,7,8,9,10,11] U9 Y (nx (Zf (qso tb hJ (r9 [1001]) U2 U10 ?_)))
        refine cj 9 (fun hb9=>?_) fun hb9=>?_
        ·
         try simp at hb9
         have e3:(ge gf.hyps q).text.length=2:=hT.fl _ (Zp oz) hb9
         refine tw pm3 (fun a w h=>Zal (OB.var ba [.lit (Zaf s3.1.2.1 q)]::OB.row (Zaf s3.1.2.1 q) 3 1 ((s3.1.2.2.1.take q).map Xe)::OB.var bb [.lit (.map (some mb))]::OB.pt bf of (frC gf)::OB.pt bj oj [.ptr (jC d i ss ts M)]::OB.pt bs os [lI (step:Int)]::OB.var bY [.lit (.func (.yield l) #[] #[])]::OB.var bt [.lit (tyF bb bf of bj oj bs os ba bY bt)]::(O4 s3.1.1++R)) (γ:=Unit) (fun ix'=>([.lit (.map (some mb)),.ptr [Zg ((ge gf.hyps q).text)],.rd (Zg ((ge gf.hyps q).text)),.ptr [lS (ge ((ge gf.hyps q).text) 1)],.str (ge ((ge gf.hyps q).text) 1),.any]:List AV).getD ix' .any) (fun _=>true) [(20,fun _=>.bool false),(11,fun _=>.ptr (hyC (ge gf.hyps q))),(2,fun _=>.ptr [.ptr (jC d i ss ts M)]),(0,fun _=>.at bb 0),(4,fun _=>.at ba 0),(6,fun _=>.at bt 0),(10,fun _=>.int (q:Nat)),(13,fun _=>.int (sB:Nat)),(18,fun _=>.int (sA+n:Nat))] (fun(b:List Bool) (g:Unit)=>(bif b.getD 0 false then [OB.map keyS sRd mb (ZeP s3.1.2.2.2 (ge ((ge gf.hyps q).text) 1))]else [OB.map keyS sRd mb s3.1.2.2.2])++(OB.var ba [.lit (Zaf s3.1.2.1 q)]::OB.row (Zaf s3.1.2.1 q) 3 1 ((s3.1.2.2.1.take q).map Xe)::OB.var bb [.lit (.map (some mb))]::OB.pt bf of (frC gf)::OB.pt bj oj [.ptr (jC d i ss ts M)]::OB.pt bs os [lI (step:Int)]::OB.var bY [.lit (.func (.yield l) #[] #[])]::OB.var bt [.lit (tyF bb bf of bj oj bs os ba bY bt)]::(O4 s3.1.1++R))) (fun _ _=>undef) [5] () (fun _=>Y) h hJ Yo Y Y Y Y (fun b g p hp=>(List.mem_append_right _ hp)) ⟨?_,?_,?_,?_,?_,?_,U⟩ ⟨?e27_3_0,U⟩ ⟨.old 0 20 _,.old 1 11 _,.old 2 2 _,.old 3 0 _,.old 4 4 _,.old 5 6 _,.old 6 10 _,.old 7 13 _,.old 8 18 _,U⟩ ?n27_3)
         exact fun _ O' hO'=>⟨Y,fun _ _ _ hx hl _=>Zo Zde Y (Ze hx (hO' _ (mo 2 Y))) (hl.env 3 0 _ Y Y) Y hx⟩
         exact oX Y fun hx hl=>ZG Xb Y (hl.env 1 11 _ Y Y) hx
         exact oX Y fun hx hl=>ZB Qy Y (hl.D 1 156 Y Y) hx
         exact oX Y fun hx hl=>ZM (i:=((1:Nat):Int)) Zj Y (hl.D 2 157 Y Y) (Rel.of_lit (.int .i64 1)) nnn (ZT (xs:=(ge gf.hyps q).text) (k:=1) sfz) Y hx
         exact oX Y fun hx hl=>ZB Qx Y (hl.D 3 158 Y Y) hx
         exact Zh Y
         case e27_3_0=>exact Zhe [[false]] V Y Y Y Y ⟨fun g _ w hk hx hl _=>Zl (d_del XN hJ hJ0 (ge ((ge gf.hyps q).text) 1) Y hk hx (hl.D 0 155 Y Y) (hl.D 4 159 Y Y)) fun v w' hp=>⟨g,fun _ _=>rfl,fun e=>(by cases e),True.intro,hp.2⟩,U⟩
         clear a w h
         intro _
         dsimp only[List.map]
         refine nx (qso tb hJ [1,2,3,4,5,6,7,8,1001] U2 U9 ?_)
         refine cj 8 (fun hb10=>?_) fun hb10=>?_
         ·
          try simp at hb10
          refine qso tb hJ [1000] [_] [_] ?_
          refine tw pm8 (tw pm8 ?_)
          refine tw pm4 (tw pm4 ?_)
          refine tw pm8 (tw pm8 ?_)
          refine tw pm8 (tw pm7 ?_)
          exact tw pm8 (Zs (fun a w h=>lvP (ZK (m:=0) (.inr ⟨(s3.1.1,(Zaf s3.1.2.1 q),s3.1.2.2.1.take q,ZeP s3.1.2.2.2 (ge ((ge gf.hyps q).text) 1)),by first | exact Nat.le_of_eq hq.symm | (simp only[List.length_take];omega)⟩) Y h Y Y)))
         ·
          exact False.elim (by simp at hb10)
        ·
         try simp at hb9
         refine Zb (nx (qso tb hJ [1,2,3,4,5,6,7,8,1001] U2 U9 ?_))
         refine cj 8 (fun hb10=>?_) fun hb10=>?_
         ·
          try simp at hb10
          refine qso tb hJ [1000] [_] [_] ?_
          refine tw pm8 (tw pm8 ?_)
          refine tw pm3 (tw pm3 ?_)
          refine tw pm8 (tw pm8 ?_)
          refine tw pm8 (tw pm8 ?_)
          exact tw pm8 (Zs (fun a w h=>lvP (ZK (m:=0) (.inr ⟨(s3.1.1,(Zaf s3.1.2.1 q),s3.1.2.2.1.take q,s3.1.2.2.2),by first | exact Nat.le_of_eq hq.symm | (simp only[List.length_take];omega)⟩) Y h Y Y)))
         ·
          exact False.elim (by simp at hb10)
       dsimp only[List.map,ZmG]
       have ez:=z4.2
       refine snK 1 tb (env':=[(20,_),(149,_),(148,_),(146,_),(11,_),(2,_),(0,_),(4,_),(6,_),(10,_),(13,_),(18,_)]) Y (seK [0,4,5,6,7,8,9,10,11] U9 Y ?_)
       refine nx (tw pm6 (tw (fun h=>List.map_take▸Zop (m:=q) (by rw[List.length_map];exact sfz) h) ?_))
       refine tsq (sy (.lit z4.1.2.2.1) (fun h=>Zo Q3 Y (Ze h.x (mo 6 Y)) (h.get 4 Y) Y h.x) ?_)
       refine snK 1 tb (env':=[(151,_),(150,_),(20,_),(11,_),(2,_),(0,_),(4,_),(6,_),(10,_),(13,_),(18,_)]) Y (sy (.lit (Zaf z4.1.2.2.1 q)) (fun h=>Zez (m:=q) Zw Y (Ze h.x (mo 0 Y)) (by first | rfl | (rw[List.length_map];exact sfz)) (h.get 1 Y) (h.get 0 Y) h.x) ?_)
       refine kw pm6 (Z6 (b:=ba) (off:=0) (es:=[_]) hJ hJ0 ZaK Y Y Y (lb Y) Y (fun a w h=>⟨(h.get 7 Y),(h.get 0 Y)⟩) ?_)
       refine seK [3,4,5,6,7,8,9,10,11] U9 Y (nx (Zf (qso tb hJ (r9 [1001]) U2 U10 ?_)))
       refine cj 9 (fun hb9=>?_) fun hb9=>?_
       ·
        try simp at hb9
        have e3:(ge gf.hyps q).text.length=2:=hT.fl _ (Zp oz) hb9
        refine tw pm3 (fun a w h=>Zal (OB.var ba [.lit (Zaf z4.1.2.2.1 q)]::OB.row (Zaf z4.1.2.2.1 q) 3 1 (((al++([((sA+n:Nat):Int)])).take q).map Xe)::OB.var bb [.lit (.map (some mb))]::OB.pt bf of (frC gf)::OB.pt bj oj [.ptr (jC d i ss ts M)]::OB.pt bs os [lI (step:Int)]::OB.var bY [.lit (.func (.yield l) #[] #[])]::OB.var bt [.lit (tyF bb bf of bj oj bs os ba bY bt)]::(I z4.1.1 z4.1.2.1++R)) (γ:=Unit) (fun ix'=>([.lit (.map (some mb)),.ptr [Zg ((ge gf.hyps q).text)],.rd (Zg ((ge gf.hyps q).text)),.ptr [lS (ge ((ge gf.hyps q).text) 1)],.str (ge ((ge gf.hyps q).text) 1),.any]:List AV).getD ix' .any) (fun _=>true) [(20,fun _=>.bool true),(11,fun _=>.ptr (hyC (ge gf.hyps q))),(2,fun _=>.ptr [.ptr (jC d i ss ts M)]),(0,fun _=>.at bb 0),(4,fun _=>.at ba 0),(6,fun _=>.at bt 0),(10,fun _=>.int (q:Nat)),(13,fun _=>.int (sB:Nat)),(18,fun _=>.int (sA+n:Nat))] (fun(b:List Bool) (g:Unit)=>(bif b.getD 0 false then [OB.map keyS sRd mb (ZeP z4.1.2.2.2 (ge ((ge gf.hyps q).text) 1))]else [OB.map keyS sRd mb z4.1.2.2.2])++(OB.var ba [.lit (Zaf z4.1.2.2.1 q)]::OB.row (Zaf z4.1.2.2.1 q) 3 1 (((al++([((sA+n:Nat):Int)])).take q).map Xe)::OB.var bb [.lit (.map (some mb))]::OB.pt bf of (frC gf)::OB.pt bj oj [.ptr (jC d i ss ts M)]::OB.pt bs os [lI (step:Int)]::OB.var bY [.lit (.func (.yield l) #[] #[])]::OB.var bt [.lit (tyF bb bf of bj oj bs os ba bY bt)]::(I z4.1.1 z4.1.2.1++R))) (fun _ _=>undef) [5] () (fun _=>Y) h hJ Yo Y Y Y Y (fun b g p hp=>(List.mem_append_right _ hp)) ⟨?_,?_,?_,?_,?_,?_,U⟩ ⟨?e27_4_0,U⟩ ⟨.old 0 20 _,.old 1 11 _,.old 2 2 _,.old 3 0 _,.old 4 4 _,.old 5 6 _,.old 6 10 _,.old 7 13 _,.old 8 18 _,U⟩ ?n27_4)
        exact fun _ O' hO'=>⟨Y,fun _ _ _ hx hl _=>Zo Zde Y (Ze hx (hO' _ (mo 2 Y))) (hl.env 3 0 _ Y Y) Y hx⟩
        exact oX Y fun hx hl=>ZG Xb Y (hl.env 1 11 _ Y Y) hx
        exact oX Y fun hx hl=>ZB Qy Y (hl.D 1 156 Y Y) hx
        exact oX Y fun hx hl=>ZM (i:=((1:Nat):Int)) Zj Y (hl.D 2 157 Y Y) (Rel.of_lit (.int .i64 1)) nnn (ZT (xs:=(ge gf.hyps q).text) (k:=1) sfz) Y hx
        exact oX Y fun hx hl=>ZB Qx Y (hl.D 3 158 Y Y) hx
        exact Zh Y
        case e27_4_0=>exact Zhe [[false]] V Y Y Y Y ⟨fun g _ w hk hx hl _=>Zl (d_del XN hJ hJ0 (ge ((ge gf.hyps q).text) 1) Y hk hx (hl.D 0 155 Y Y) (hl.D 4 159 Y Y)) fun v w' hp=>⟨g,fun _ _=>rfl,fun e=>(by cases e),True.intro,hp.2⟩,U⟩
        clear a w h
        intro _
        dsimp only[List.map]
        refine nx (qso tb hJ [1,2,3,4,5,6,7,8,1001] U2 U9 ?_)
        refine cj 8 (fun hb10=>?_) fun hb10=>?_
        ·
         exact False.elim (by simp at hb10)
        ·
         try simp at hb10
         refine tw (ob2 (congrArg (fun z'=>OB.row (Zaf z4.1.2.2.1 q) 3 1 ((z').map Xe)) (show((al++([((sA+n:Nat):Int)])).take q)=al from Zux hq))) (Zb (nx (YU tb hJ (r7 [1002]) [_,.int (sA+n+1:Nat),_] [1] U8 Y ⟨YT,U⟩ ?_)))
         refine kw pm8 (kw pm8 ?_)
         refine kw pm4 (kw pm4 ?_)
         refine kw pm8 (kw pm8 ?_)
         refine kw pm8 (kw pm7 ?_)
         exact kw pm8 (Xk ((n+1),ZeP z4.1.2.2.2 (ge ((ge gf.hyps q).text) 1),(Zaf z4.1.2.2.1 q),z4.1.1,z4.1.2.1) (r8 []) ⟨oz,by first | (rw[Zc6 ho];exact f1_2) | exact(Za4 (j:=(⟨d,i,ss,ts,mm⟩:Jb)) f1_2 f1_3 g8_1 Y ho ez).1,by first | (rw[Zc6 ho];exact f1_3) | exact(if_pos hb9).symm.trans (Za4 (j:=(⟨d,i,ss,ts,mm⟩:Jb)) f1_2 f1_3 g8_1 Y ho ez).2 | exact(if_neg (by simp[hb9])).symm.trans (Za4 (j:=(⟨d,i,ss,ts,mm⟩:Jb)) f1_2 f1_3 g8_1 Y ho ez).2⟩)
       ·
        try simp at hb9
        refine Zb (nx (qso tb hJ [1,2,3,4,5,6,7,8,1001] U2 U9 ?_))
        refine cj 8 (fun hb10=>?_) fun hb10=>?_
        ·
         exact False.elim (by simp at hb10)
        ·
         try simp at hb10
         refine tw (ob1 (congrArg (fun z'=>OB.row (Zaf z4.1.2.2.1 q) 3 1 ((z').map Xe)) (show((al++([((sA+n:Nat):Int)])).take q)=al from Zux hq))) (Zb (nx (YU tb hJ (r7 [1002]) [_,.int (sA+n+1:Nat),_] [1] U8 Y ⟨YT,U⟩ ?_)))
         refine kw pm8 (kw pm8 ?_)
         refine kw pm3 (kw pm3 ?_)
         refine kw pm8 (kw pm8 ?_)
         refine kw pm8 (kw pm8 ?_)
         exact kw pm8 (Xk ((n+1),z4.1.2.2.2,(Zaf z4.1.2.2.1 q),z4.1.1,z4.1.2.1) (r8 []) ⟨oz,by first | (rw[Zc6 ho];exact f1_2) | exact(Za4 (j:=(⟨d,i,ss,ts,mm⟩:Jb)) f1_2 f1_3 g8_1 Y ho ez).1,by first | (rw[Zc6 ho];exact f1_3) | exact(if_pos hb9).symm.trans (Za4 (j:=(⟨d,i,ss,ts,mm⟩:Jb)) f1_2 f1_3 g8_1 Y ho ez).2 | exact(if_neg (by simp[hb9])).symm.trans (Za4 (j:=(⟨d,i,ss,ts,mm⟩:Jb)) f1_2 f1_3 g8_1 Y ho ez).2⟩)
    ·
     try simp at hb6
     refine Zu (nx (qso tb hJ [1000] [_] [_] ?_))
     exact Zs (fun a w h=>lvP (ZK (m:=0) (.inl ⟨(pre,kk,wa,M2),by first | exact Zej (j:=(⟨d,i,ss,ts,mm⟩:Jb)) (pre:=pre0) hb1 | exact Zob (j:=(⟨d,i,ss,ts,mm⟩:Jb)) (pre:=pre0) hb1 oz hG | exact ZfM (j:=(⟨d,i,ss,ts,mm⟩:Jb)) (pre:=pre0) hb1 oz hG | exact Zek (j:=(⟨d,i,ss,ts,mm⟩:Jb)) (pre:=pre0) hb1 oz (Zeq hb3 hb4 hb5) | exact ZhQ (j:=(⟨d,i,ss,ts,mm⟩:Jb)) (pre:=pre0) hb1 oz g3_1 oz f1_2 f1_3⟩) Y h Y Y))
theorem p_try {S:Nat→Prop} {w0:World} (hS:∀ b,w0.heap.size≤b→S b) (hJ0:J w0) {l:Nat} {κ μ σ:Type} {I:List (List Int)→κ→List OB} {pv:μ→Value} {O3:μ→List OB} {O4:σ→List OB} (bb mb:Nat) (bf of:Nat) (bj oj:Nat) (bs os:Nat) (ba bY bt:Nat) (d:Db) (i:Nat) (ss:List Stp) (ts:List (List BA)) (M:Nat) (mm:List (BA×Int)) (gf:Fr) (step:Nat) (xs:List (List Int)) (hH:Has [OB.mI M mm] S w0) (hY:YldE prog J S w0 l (fun x9=>[.rd (Z3 x9)]) xs I pv O3 O4) (hT:Zfs (⟨d,i,ss,ts,mm⟩:Jb) gf step):
 ∀(n q:Nat) (pre':List (List Int)) (k':κ) (va':Value) (M':BM) (al':List Int),gf.hyps.length-q=n→al'.length=q→q≤gf.hyps.length→(∀ x'∈al',0≤x'∧x'< (step:Int))→BmOk gf.hyps M'→pre'++(Zbk (⟨d,i,ss,ts,mm⟩:Jb) gf step q M' al').1<+:xs→FnV (ι:= { q':List (List Int)×κ×Value×BM // q'.1=pre'++(Zbk (⟨d,i,ss,ts,mm⟩:Jb) gf step q M' al').1∧q'.2.2.2=(Zbk (⟨d,i,ss,ts,mm⟩:Jb) gf step q M' al').2 } ⊕ { q':σ×Value×List Int×BM // q≤q'.2.2.1.length }) prog J S w0 102 [.at bb 0,.at bf of,.at bj oj,.at bs os,.at ba 0,.at bY 0,.at bt 0] (OB.var bb [.lit (.map (some mb))]::OB.map keyS sRd mb (M')::OB.pt bf of (frC gf)::OB.pt bj oj [.ptr (jC d i ss ts M)]::OB.pt bs os [lI (step:Int)]::OB.var ba [.lit (va')]::OB.row va' 3 1 ((al').map Xe)::OB.var bY [.lit (.func (.yield l) #[] #[])]::OB.var bt [.lit (tyF bb bf of bj oj bs os ba bY bt)]::I (pre') k') (fun i'=>.bool i'.isLeft) (ZmG (fun z'=>OB.var bb [.lit (.map (some mb))]::OB.map keyS sRd mb (z'.1.2.2.2)::OB.pt bf of (frC gf)::OB.pt bj oj [.ptr (jC d i ss ts M)]::OB.pt bs os [lI (step:Int)]::OB.var ba [.lit (z'.1.2.2.1)]::OB.row z'.1.2.2.1 3 1 ((al').map Xe)::OB.var bY [.lit (.func (.yield l) #[] #[])]::OB.var bt [.lit (tyF bb bf of bj oj bs os ba bY bt)]::I z'.1.1 z'.1.2.1) fun s'=>OB.var bb [.lit (.map (some mb))]::OB.map keyS sRd mb (s'.1.2.2.2)::OB.pt bf of (frC gf)::OB.pt bj oj [.ptr (jC d i ss ts M)]::OB.pt bs os [lI (step:Int)]::OB.var ba [.lit (s'.1.2.1)]::OB.row s'.1.2.1 3 1 ((s'.1.2.2.1).map Xe)::OB.var bY [.lit (.func (.yield l) #[] #[])]::OB.var bt [.lit (tyF bb bf of bj oj bs os ba bY bt)]::O4 s'.1.1) pv O3:=by
 intro n
 induction n with
 | zero=>
  intro q pre k va Mb al hn hq hqk hal hM hp
  exact ZuK hJ hS hJ0 bb mb bf of bj oj bs os ba bY bt d i ss ts M mm gf step va xs q Mb al hH hY pre k hT hq hqk hal hM hp fun pre' k' va' M' al' _ h2=>absurd h2 oz
 | succ n ih=>
  intro q pre k va Mb al hn hq hqk hal hM hp
  exact ZuK hJ hS hJ0 bb mb bf of bj oj bs os ba bY bt d i ss ts M mm gf step va xs q Mb al hH hY pre k hT hq hqk hal hM hp fun pre' k' va' M' al' h1 h2 h3 h4 h5=>ih (q+1) pre' k' va' M' al' oz h1 h2 h3 h4 h5
theorem ZgO (d:Db) (i:Nat) (ss:List Stp) (ts:List (List BA)) (M:Nat) (mm:List (BA×Int)) (gf:Fr) (step:Nat) (hT:Zfs (⟨d,i,ss,ts,mm⟩:Jb) gf step):Zrd prog J 101 [OB.mI M mm] [.ptr (frC gf),.ptr [.ptr (jC d i ss ts M)],.ptr [lI (step:Int)]] (fun x9=>[.rd (Z3 x9)]) (Zi9 (⟨d,i,ss,ts,mm⟩:Jb) gf step) (none):=by
 refine ZbC (N:=12) Tryz.func101 Y Y (lb Y) fun S w0 R l κ μ σ I pv O3 O4 k0 hS hJ0 hH hY=>?_
 refine YS (B:=So J S w0 12 (I ([]) k0++R) [(0,.rd (.lit (.func (.yield l) #[] #[]))),(1,.ptr (frC gf)),(2,.ptr [.ptr (jC d i ss ts M)]),(3,.ptr [lI (step:Int)])]) ?_ fun a w h=>h
 refine tsq (Zot (c:=.lit (.func (.yield l) #[] #[])) hJ Y Y Y (lb Y) (fun a w h=>(h.get 0 Y)) fun b1=>?_)
 refine seK [0,2,3,4] U4 Y (nx (tsq ?_))
 refine Zep keyS sRd hJ Y Y Y (lb Y) fun m2=>?_
 refine Zv ZmK hJ Y Y Y (lb Y) fun b3=>?_
 refine Z6 (b:=b3) (off:=0) (es:=[_]) hJ hJ0 ZmV Y Y Y (lb Y) Y (fun a w h=>⟨(h.get 0 Y),(h.get 1 Y)⟩) ?_
 refine seK [0,2,3,4,5] U5 Y (nx (tw (Yd 3 1 hJ) ?_))
 refine tsq (Zv Zn8 hJ Y Y Y (lb Y) fun b4=>?_)
 refine seK (r6 []) U6 Y (nx (tsq ?_))
 refine Zv Zn7 hJ Y Y Y (lb Y) fun b5=>?_
 refine seK (r7 []) U7 Y (nx (Zoh (m:=6) Y fun bs os=>?_))
 refine Zoh (m:=6) Y fun bj oj=>?_
 refine Zoh (m:=6) Y fun bf of=>?_
 refine tsq (sy (.lit (.func (.func 102) #[] #[.pointer (some ⟨b3,0,none⟩),.pointer (some ⟨bf,of,none⟩),.pointer (some ⟨bj,oj,none⟩),.pointer (some ⟨bs,os,none⟩),.pointer (some ⟨b4,0,none⟩),.pointer (some ⟨b1,0,none⟩),.pointer (some ⟨b5,0,none⟩)])) (fun h=>Zey (caps:=[(.tmp 5),(.tmp 1),(.tmp 2),(.tmp 3),(.tmp 6),(.tmp 4),(.tmp 7)]) Y (map_cons (h.get 5 Y).lit (map_cons (h.get 0 Y).lit (map_cons (h.get 1 Y).lit (map_cons (h.get 2 Y).lit (map_cons (h.get 4 Y).lit (map_cons (h.get 6 Y).lit (map_cons (h.get 3 Y).lit map_nil))))))) h.x) ?_)
 refine kw pm3 (Z6 (b:=b5) (off:=0) (es:=[_]) hJ hJ0 ZoB Y Y Y (lb Y) Y (fun a w h=>⟨(h.get 4 Y),(h.get 0 Y)⟩) ?_)
 refine seK [4] [_] Y (nx (ZO (sq (.lit (.func (.func 102) #[] #[.pointer (some ⟨b3,0,none⟩),.pointer (some ⟨bf,of,none⟩),.pointer (some ⟨bj,oj,none⟩),.pointer (some ⟨bs,os,none⟩),.pointer (some ⟨b4,0,none⟩),.pointer (some ⟨b1,0,none⟩),.pointer (some ⟨b5,0,none⟩)])) Y Y (lb Y) (fun _ _ h=>Zo ZuU Y (Ze h.x (mo 0 Y)) (h.get 0 Y) Y h.x) ?_)))
 refine kw pm8 (kw pm6 ?_)
 refine kw pm6 (kw pm6 ?_)
 refine kw pm6 (kw pm6 ?_)
 refine kw pm8 (kw pm8 ?_)
 refine Zk8 (O:=(OB.var b3 [.lit (.map (some m2))]::OB.map keyS sRd m2 ([]:List (BA×List BA))::OB.pt bf of (frC gf)::OB.pt bj oj [.ptr (jC d i ss ts M)]::OB.pt bs os [lI (step:Int)]::OB.var b4 [.lit (.slice none 0 0)]::OB.row (.slice none 0 0) 3 1 (([]:List Int).map Xe)::OB.var b1 [.lit (.func (.yield l) #[] #[])]::OB.var b5 [.lit (.func (.func 102) #[] #[.pointer (some ⟨b3,0,none⟩),.pointer (some ⟨bf,of,none⟩),.pointer (some ⟨bj,oj,none⟩),.pointer (some ⟨bs,os,none⟩),.pointer (some ⟨b4,0,none⟩),.pointer (some ⟨b1,0,none⟩),.pointer (some ⟨b5,0,none⟩)])]::I ([]) k0)) (R:=R) [] [.pointer (some ⟨b3,0,none⟩),.pointer (some ⟨bf,of,none⟩),.pointer (some ⟨bj,oj,none⟩),.pointer (some ⟨bs,os,none⟩),.pointer (some ⟨b4,0,none⟩),.pointer (some ⟨b1,0,none⟩),.pointer (some ⟨b5,0,none⟩)] [.at b3 0,.at bf of,.at bj oj,.at bs os,.at b4 0,.at b1 0,.at b5 0] (p_try hJ hS hJ0 b3 m2 bf of bj oj bs os b4 b1 b5 d i ss ts M mm gf step (Zi9 (⟨d,i,ss,ts,mm⟩:Jb) gf step) hH hY hT gf.hyps.length 0 [] k0 (.slice none 0 0) [] [] oz Y nzl yz bm_nil (List.prefix_refl _)) Zmv Y Y Y (lb Y) (fun a w h=>(h.get 0 Y).lit) (fun a w h=>Zc) (fun w=>(Za (Rel.of_lit _) (Za (Rel.of_lit _) (Za (Rel.of_lit _) (Za (Rel.of_lit _) (Za (Rel.of_lit _) (Za (Rel.of_lit _) (Za (Rel.of_lit _) Zc)))))))) (fun q=>ZpU q) (fun s6=>?_) (fun z7=>?_)
 ·
  dsimp only[List.map,ZmG]
  refine seK [] [] Y (kw Zz ?_)
  refine kw Zz (kw Zz ?_)
  refine kw Zz (kw Zz ?_)
  refine kw Zz (kw Zz ?_)
  refine kw Zz (kw Zz ?_)
  exact fun a w h=>ZiK s6.1.1 Y h
 dsimp only[List.map,ZmG]
 have ez:=z7.2
 refine seK [] [] Y (kw Zz ?_)
 refine kw Zz (kw Zz ?_)
 refine kw Zz (kw Zz ?_)
 refine kw Zz (kw Zz ?_)
 refine kw Zz (kw Zz ?_)
 exact fun a w h=>ZiL (Y) (ez.1) z7.1.2.1 Y h
theorem Zij (d:Db) (i:Nat) (ss:List Stp) (ts:List (List BA)) (M:Nat) (gf:Fr) (step:Nat)  :Fn prog J 76 [.ptr (jC d i ss ts M),.agg (frC gf),.int (step:Nat)] (.fn 101 [.ptr (frC gf),.ptr [.ptr (jC d i ss ts M)],.ptr [lI (step:Int)]]):=by
 refine fE Tryz.func76 fun S w0 hS hJ0=>?_
 clear hJ0
 refine hqs tb hJ [1000,1001,1002] [.ptr [.ptr (jC d i ss ts M)],.ptr (frC gf),.ptr [lI (step:Int)],_] [0,1,2] U3 Y ⟨fun _ _ hk hx hl _=>ZgJ Y (hl.env 0 0 _ Y Y) (hS _ hk.size) (js hJ hx),iBs hS hJ,fun _ _ hk hx hl _=>ZaM Y (hl.env 2 2 _ Y Y) (hS _ hk.size) (js hJ hx),U⟩ ?_
 refine hqs tb hJ [1001] [.fn 101 [.ptr (frC gf),.ptr [.ptr (jC d i ss ts M)],.ptr [lI (step:Int)]],_] [0] [_] Y ⟨fun _ _ _ hx hl _=>YR (caps:=[(.tmp 4),(.tmp 3),(.tmp 5)]) Y (Za (hl.env 1 4 _ Y Y) (Za (hl.env 0 3 _ Y Y) (Za (hl.env 2 5 _ Y Y) Zc))) hx,U⟩ ?_
 exact tRn 0 (hE:=Y)
end
end Go.Proofs.YtdfadihhfppjaaaGreatDoor
namespace Go.Proofs.YtdfadihhfppjaaaGreatDoor
section
variable {j:Jb} {g:Fr} {step:Nat}
theorem Zk0 (hm:∀ s z,Zy j.M s=some z→0≤z):∀(hs:List Hy) (M:BM) (al:List Int),(ZhG j g step hs M al).1.length≤step^hs.length
 | [],M,al=>by
  rw[ZhG];split
  · split<;>simp
  · simp
 | y::hs,M,al=>by
  rw[ZhG]
  split
  · have key:∀(l:List Nat) (q:List (List Int)×BM),(l.foldl (Zjv (ZhG j g step hs) j y al) q).1.length≤q.1.length+l.length*step^hs.length:=by
     intro l
     induction l with
     | nil=>intro q;simp
     | cons t l ih=>
      intro q
      rw[List.foldl_cons]
      refine Nat.le_trans (ih _) ?_
      have:(Zjv (ZhG j g step hs) j y al q t).1.length≤q.1.length+step^hs.length:=by
       unfold Zjv
       split
       · simp only[List.length_append]
         exact Nat.add_le_add_left (Zk0 hm hs _ _) _
       · exact Nat.le_add_right _ _
      rw[List.length_cons,Nat.add_mul]
      omega
    refine Nat.le_trans (key _ _) ?_
    have h1:=Zov (j:=j) (hs:=g.hyps) (step:=step) (h:=y) (M:=M) hm
    simp only[List.length_nil,Nat.zero_add,List.length_range',List.length_cons,Nat.pow_succ]
    rw[Nat.mul_comm (step^hs.length)]
    exact Nat.mul_le_mul_right _ oz
  · simp
theorem Zmd (hm:∀ s z,Zy j.M s=some z→0≤z):(Zi9 j g step).length≤step^g.hyps.length:=by
 have:=Zk0 (g:=g) (step:=step) hm g.hyps [] []
 simpa [Zi9,Zbk]using this
theorem pow4 {n m:Nat} (hn:n≤16) (hm:m≤4):n^m≤65536:=by
 have h1:n^m≤16^m:=Nat.pow_le_pow_left hn _
 have h2:16^m≤16^4:=Nat.pow_le_pow_right dz hm
 have:(16:Nat)^4=65536:=by decide
 omega
theorem ZwW (hm:∀ s z,Zy j.M s=some z→0≤z) (hs:step≤16):(Znt j step g).length≤65536:=by
 unfold Znt
 split
 · simp
 · rw[List.length_map]
   exact Nat.le_trans (Zmd hm) (pow4 hs oz)
theorem ZlX (hm:∀ s z,Zy j.M s=some z→0≤z) (hs:step≤16):∀(fs:List Fr),(fs.flatMap (Znt j step)).length≤fs.length*65536
 | []=>by simp
 | f::fs=>by
  rw[List.flatMap_cons,List.length_append,List.length_cons,Nat.add_mul,Nat.one_mul,Nat.add_comm]
  exact Nat.add_le_add (ZlX hm hs fs) (ZwW hm hs)
theorem ZrC:(Zc9 j step).length≤1:=by unfold Zc9;split<;>simp
def ZnH (j:Jb) (step q:Nat):List Chg:=(Zc9 j step++(j.d.frames.take q).flatMap (Znt j step)).filterMap (XW j.ss)
theorem Zmc:ZnH j step 0=(Zc9 j step).filterMap (XW j.ss):=by simp[ZnH]
theorem Ztn {q:Nat} (h:q<j.d.frames.length):ZnH j step (q+1)=ZnH j step q++(Znt j step (ge j.d.frames q)).filterMap (XW j.ss):=by
 unfold ZnH
 rw[List.take_add_one,List.getElem?_eq_getElem h,←Yj h]
 simp[List.filterMap_append,List.flatMap_append]
theorem ZqJ (hm:∀ s z,Zy j.M s=some z→0≤z) (hs:step≤16) {q:Nat} (hq:q≤16):(ZnH j step q).length≤2000000:=by
 refine Nat.le_trans (List.length_filterMap_le _ _) ?_
 rw[List.length_append]
 have h1:=ZrC (j:=j) (step:=step)
 have h2:=ZlX hm hs (j.d.frames.take q)
 have h3:(j.d.frames.take q).length≤16:=by rw[List.length_take];omega
 have h4:(j.d.frames.take q).length*65536≤16*65536:=Nat.mul_le_mul_right _ h3
 omega
theorem Zw2 {α β:Type} {f:α→Option β} {l:List α} {x:α}:(l++[x]).filterMap f=l.filterMap f++(f x).toList:=by
 rw[List.filterMap_append]
 congr 1
end
theorem ZsT {i j:Nat} {α:Type} [Inhabited α] {l:List α} (h:j<i):ge (l.take i) j=ge l j:=by
 simp only[ge,List.getD_eq_getElem?_getD,List.getElem?_take]
 rw[if_pos h]
structure JobW (j:Jb):Prop where
 ok:Okay j.ss
 l16:j.ss.length≤16
 len:j.ts.length=j.ss.length
 ts:∀ t∈j.ts,(1≤t.length∧t.length≤2000)∧∀ s∈t,s.size≤60
 m1:∀ s z,Zy j.M s=some z→0≤z∧z< (j.ts.length:Int)
 m2:∀ i,i<j.ts.length→(Zy j.M (XB (ge j.ts i))).isSome=true
 f16:j.d.frames.length≤16
 hi:j.i<j.d.frames.length
 wd:(ge j.d.frames j.i).wide.length*32≤140737488351232
 fl:∀ g∈j.d.frames,∀ h∈g.hyps,h.floating=true→h.text.length=2
 tx:∀ g∈j.d.frames,∀ h∈g.hyps,1≤h.text.length∧∀ s∈h.text,s.size≤60
 gh:∀ g∈j.d.frames,g.hyps.length≤2000
section
variable {j:Jb} {g:Fr} {step:Nat}
theorem JobW.try (h:JobW j) (hg:g∈j.d.frames) (hs:step<j.ss.length):Zfs j g step:=
 ⟨h.fl g hg,h.tx g hg,h.ts,by rw[h.len];exact hs,h.m1,h.m2,h.gh g hg,h.hi,h.wd⟩
theorem JobW.m0 (h:JobW j):∀ s z,Zy j.M s=some z→0≤z:=fun s z e=>(h.m1 s z e).1
theorem JobW.fst (h:JobW j) (hs:step<j.ss.length):0≤(Zy j.M (XB (ge j.ts step))).getD default∧(Zy j.M (XB (ge j.ts step))).getD default< (j.ss.length:Int)∧(Zy j.M (XB (ge j.ts step))).getD 0=(Zy j.M (XB (ge j.ts step))).getD default:=by
 obtain⟨z,hz⟩:=Option.isSome_iff_exists.1 (h.m2 step (by rw[h.len];exact hs))
 rw[hz]
 have:=h.m1 _ _ hz
 rw[h.len]at this
 exact⟨this.1,this.2,rfl⟩
end
end Go.Proofs.YtdfadihhfppjaaaGreatDoor
namespace Go.Proofs.YtdfadihhfppjaaaGreatDoor
open Go.RowKit
def OB.dfrs (Ds:List Nat):OB where
 blk:=fun k=>k∈Ds
 inv:=fun lo _ w=>Ds.Nodup∧∀ D∈Ds,lo≤D∧D<w.heap.size∧w.heap[D]?=some (.deferred (some []))
 mv:=fun⟨h0,h⟩ hk hb _=>⟨h0,fun D hD=>⟨(h D hD).1,by have:=hk.size;have:=(h D hD).2.1;omega,(hk.block _ (h D hD).2.1 (hb _ hD)).trans (h D hD).2.2⟩⟩
 lt:=fun⟨_,h⟩ k hk=>⟨(h k hk).1,(h k hk).2.1⟩
section
variable {N:Nat} {J:WP} {S:Nat→Prop} {O:List OB} {w0:World} {env:List (Nat×AV)} {a:Act} {w:World} {D:Nat} {Ds:List Nat}
theorem so_dfr {k:Nat}:SO S (OB.dfrs (D::Ds)::O) k↔SO S (OB.dfrs Ds::OB.dfr D::O) k:=by
 constructor
 · refine fun h=>⟨h.1,fun p hp=>?_⟩
   have h1:¬ k∈D::Ds:=h.2 (OB.dfrs (D::Ds)) yz
   rcases List.mem_cons.1 hp with rfl | hp
   · exact fun e=>h1 (List.mem_cons_of_mem _ e)
   · rcases List.mem_cons.1 hp with rfl | hp
     · exact fun(e:k=D)=>h1 (by simp[e])
     · exact h.2 p (List.mem_cons_of_mem _ hp)
 · refine fun h=>⟨h.1,fun p hp=>?_⟩
   rcases List.mem_cons.1 hp with rfl | hp
   · intro(e:k∈D::Ds)
     rcases List.mem_cons.1 e with rfl | e
     · exact h.2 (OB.dfr k) yz rfl
     · exact h.2 (OB.dfrs Ds) yz e
   · exact h.2 p (List.mem_cons_of_mem _ (List.mem_cons_of_mem _ hp))
theorem ZvK (h:So J S w0 N (OB.dfrs Ds::OB.dfr D::O) env a w):So J S w0 N (OB.dfrs (D::Ds)::O) env a w:=by
 have hp:=List.pairwise_cons.1 h.x.2.2
 have hp2:=List.pairwise_cons.1 hp.2
 obtain⟨g0,g⟩:=h.x.2.1 (OB.dfrs Ds) yz
 obtain⟨g1,g2,g3⟩:=h.x.2.1 (OB.dfr D) yz
 refine⟨h.defs,h.size,h.keep,⟨h.x.1,fun p hq=>?_,.cons (fun p hq k hk=>?_) hp2.2⟩,fun p hq=>⟨(h.env p hq).1,(h.env p hq).2.sub fun _ _ hk=>so_dfr.2 hk⟩⟩
 · rcases List.mem_cons.1 hq with rfl | hq
   · refine⟨List.nodup_cons.2 ⟨fun hm=>hp.1 (OB.dfr D) yz D hm rfl,g0⟩,fun D' hD=>?_⟩
     rcases List.mem_cons.1 hD with rfl | hD
     · exact⟨g1,g2,g3⟩
     · exact g D' hD
   · exact OB.sub (h.x.2.1 p (List.mem_cons_of_mem _ (List.mem_cons_of_mem _ hq))) fun _ _ hk=>so_dfr.2 hk
 · rcases List.mem_cons.1 hk with rfl | hk
   · exact hp2.1 p hq k rfl
   · exact hp.1 p (List.mem_cons_of_mem _ hq) k hk
theorem ZvJ (h:So J S w0 N (OB.dfrs (D::Ds)::O) env a w):So J S w0 N (OB.dfr D::OB.dfrs Ds::O) env a w:=by
 have hp:=List.pairwise_cons.1 h.x.2.2
 obtain⟨g0,g⟩:=h.x.2.1 (OB.dfrs (D::Ds)) yz
 have g1:=List.nodup_cons.1 g0
 refine Za5 (.swap _ _ _) ⟨h.defs,h.size,h.keep,⟨h.x.1,fun p hq=>?_,.cons (fun p hq k hk=>?_) (.cons (fun p hq k hk=>hp.1 p hq k (by rw[show k=D from hk];exact List.mem_cons_self)) hp.2)⟩,fun p hq=>⟨(h.env p hq).1,(h.env p hq).2.sub fun _ _ hk=>so_dfr.1 hk⟩⟩
 · rcases List.mem_cons.1 hq with rfl | hq
   · exact⟨g1.2,fun D' hD=>g D' (List.mem_cons_of_mem _ hD)⟩
   · rcases List.mem_cons.1 hq with rfl | hq
     · exact g D yz
     · exact OB.sub (h.x.2.1 p (List.mem_cons_of_mem _ hq)) fun _ _ hk=>so_dfr.1 hk
 · rcases List.mem_cons.1 hq with rfl | hq
   · exact fun e=>g1.1 (by rw[←show k=D from e];exact hk)
   · exact hp.1 p hq k (List.mem_cons_of_mem _ hk)
theorem ZvL (h:So J S w0 N O env a w):So J S w0 N (OB.dfrs []::O) env a w:=by
 have hs:∀ k,SO S O k→SO S (OB.dfrs []::O) k:=fun k hk=>⟨hk.1,fun q hq=>by
  rcases List.mem_cons.1 hq with rfl | hq
  · exact fun e=>(by cases e)
  · exact hk.2 q hq⟩
 refine⟨h.defs,h.size,h.keep,⟨h.x.1,fun q hq=>?_,.cons (fun _ _ _ e=>by cases e) h.x.2.2⟩,fun q hq=>⟨(h.env q hq).1,(h.env q hq).2.sub fun k _=>hs k⟩⟩
 rcases List.mem_cons.1 hq with rfl | hq
 · exact⟨.nil,fun D hD=>by cases hD⟩
 · exact OB.sub (h.x.2.1 q hq) fun k _=>hs k
end
section
variable {P:Program} {fid:FuncId} {Q:Exit→Act→WP} {a:Act} {w:World} {A:Act→WP}
theorem ZxV {ι:Type} {c:Code} (I:ι→Act→WP) (μ:ι→Nat) (h:∀ i a w,I i a w→Code.wpAt fid P c (Exit.then (fun a' w'=>∃ j,I j a' w'∧μ j<μ i) Q) a w) (i0:ι) (h0:I i0 a w):Code.wpAt fid P (.loop c) Q a w:=by
 intro b k cs hro hb
 have key:∀ m a w i,μ i=m→I i a w→
  ∃ e a' w',Q e a' w'∧ArrivesIn (Machine.fenced P Fence.wide) P (lone (b.atR a (.code c:: .inLoop c::k)) cs w) b k cs e a' w':=by
  intro m
  induction m using Nat.strongRecOn with
  | _ m ih=>
   intro a w i hn hI
   obtain⟨e,a₁,w₁,hq,harr⟩:=h i a w hI b (.inLoop c::k) cs hro hb
   cases e with
   | normal=>
    obtain⟨j,hj,hlt⟩:=hq
    obtain⟨e₂,a₂,w₂,hq₂,harr₂⟩:=ih (μ j) (hn▸hlt) a₁ w₁ j rfl hj
    exact⟨e₂,a₂,w₂,hq₂,.of_steps (StepsIn.trans harr (.one (fenced_calm (n:=0) trivial (Xq _) rfl) stepR_inLoop)) harr₂⟩
   | exit id=>exact⟨_,a₁,w₁,hq,.pass (x:=.inLoop c) rfl (fun _ _=>.inl yz) harr⟩
   | goto l=>exact⟨_,a₁,w₁,hq,.pass (x:=.inLoop c) rfl (fun _ _=>.inl yz) harr⟩
   | ret=>exact⟨_,a₁,w₁,hq,.pass (x:=.inLoop c) rfl (fun _ _=>.inl yz) harr⟩
   | panic ch=>exact⟨_,a₁,w₁,hq,.pass (x:=.inLoop c) rfl (fun _ _=>.inl yz) harr⟩
   | outgrown=>exact⟨_,a₁,w₁,hq,.pass (x:=.inLoop c) rfl (fun _ _=>.inl yz) harr⟩
 obtain⟨e,a',w',hq,harr⟩:=key _ a w i0 rfl h0
 exact⟨e,a',w',hq,.of_steps (.one (fenced_calm (n:=0) trivial (Xq _) rfl) stepR_loop) harr⟩
def Zuq (fid:FuncId) (ds:List Deferred) (P:Program) (A:Act→WP) (c:Code) (Q:Exit→Act→WP):Prop:=∀ a w,A a w→Code.wpAt fid P c Q (phi ds a) w
variable {ds:List Deferred}
theorem Zi3 {m:Nat} {x y:Code} (h:TrD (⟨m,none⟩:Rn) ds P A x (Exit.then (fun a w=>Code.wpAt fid P y Q a w) Q)):Zuq fid ds P A (.seq x y) Q:=fun a w ha=>Zmz (ZxU (h a w ha))
theorem al_seq {x y:Code} (h:Zuq fid ds P A x (Exit.then (fun a w=>Code.wpAt fid P y Q a w) Q)):Zuq fid ds P A (.seq x y) Q:=fun a w ha=>Zmz (h a w ha)
theorem ZmD {id:Nat} {c:Code} (h:Zuq fid ds P A c (Exit.inBlock id Q)):Zuq fid ds P A (.block id c) Q:=fun a w ha=>ZmA (h a w ha)
theorem nxL {y:Code} (h:Zuq fid ds P A y Q):∀ a w,A a w→Code.wpAt fid P y Q (phi ds a) w:=h
theorem alw {B:Act→WP} {c:Code} (hAB:∀ {a:Act} {w:World},A a w→B a w) (h:Zuq fid ds P B c Q):Zuq fid ds P A c Q:=fun a w ha=>h a w (hAB ha)
end
section
variable {N:Nat} {P:Program} {J:WP} {S:Nat→Prop} {O:List OB} {w0:World} {env:List (Nat×AV)} {fn:Func} {R:Ending→WP} {a:Act} {w:World} {D:Nat} {fid:FuncId} {Q:Exit→Act→WP} {c:Code}
theorem lpL {ι:Type} (F:ι→Prop) (O':ι→List OB) (E:ι→List (Nat×AV)) (μ:ι→Nat) (ks:List Nat) (eK:List (Nat×AV)) (i0:ι) (h0:F i0)
 (h:∀ i,F i→∀ Ds,Zuq fid (ZcI Ds) P (So J S w0 N (OB.dfrs Ds::O' i) (eK++E i)) c (Exit.then (fun a' w=>∃ j,(∃ Ds' a1,a'=phi (ZcI Ds') a1∧F j∧So J S w0 N (OB.dfrs Ds'::O' j) (eK++E j) a1 w)∧μ j<μ i) Q)) (hO:O=O' i0:=by exact rfl) (he:ks.map (env[·]?)=(eK++E i0).map some:=by exact rfl):TrA fid P (So J S w0 N O env) (.loop c) Q:=fun a w ha=>by
 refine ZxV (fun i a' w=>∃ Ds' a1,a'=phi (ZcI Ds') a1∧F i∧So J S w0 N (OB.dfrs Ds'::O' i) (eK++E i) a1 w) μ (fun i a w ⟨Ds,a1,e,hF,hs⟩=>e▸h i hF Ds a1 w hs) i0 ⟨[],a,?_,h0,ZvL (lz ks he (hO▸ha))⟩
 show a= { a with defers:=a.defers++[] }
 rw[List.append_nil]
theorem lpLE {ι:Type} {F:ι→Prop} {O':ι→List OB} {E:ι→List (Nat×AV)} {μ:ι→Nat} {m':Nat} {eK:List (Nat×AV)} {Ds:List Nat} (j:ι) (ks:List Nat) (hF:F j) (hm:μ j<m':=by(try dsimp only);first | omega | (simp;omega)) (hO:O=OB.dfrs Ds::O' j:=by exact rfl) (he:ks.map (env[·]?)=(eK++E j).map some:=by exact rfl):∀ a w,So J S w0 N O env a w→∃ j,(∃ Ds' a1,phi (ZcI Ds) a=phi (ZcI Ds') a1∧F j∧So J S w0 N (OB.dfrs Ds'::O' j) (eK++E j) a1 w)∧μ j<m':=
 fun a _ ha=>⟨j,⟨Ds,a,rfl,hF,lz ks he (hO▸ha)⟩,hm⟩
theorem jnoA {n:Rn} {y:Code} {ι:Type} (F:ι→Prop) (O':ι→List OB) (E:ι→List (Nat×AV)) (h1:Tr n P (So J S w0 N O env) c (Exit.then (fun a w=>∃ j,F j∧So J S w0 N (O' j) (E j) a w) Q)) (h2:∀ i,F i→∀ a w,So J S w0 N (O' i) (E i) a w→Exit.then (fun a w=>Code.wpAt fid P y Q a w) Q .normal a w):Tr n P (So J S w0 N O env) c (Exit.then (fun a w=>Code.wpAt fid P y Q a w) Q):=
 fun a w ha=>wpIn_mono (h1 a w ha) fun e a' w' he=>by
  cases e with
  | normal=>obtain⟨j,hF,hs⟩:=he;exact h2 j hF a' w' hs
  | _=>exact he
theorem outL (hJ:Stab J) (hJ0:J w0) (h:∀ a w,So J S w0 N O env a w→bodyPost P fn R .ret a w) (Ds:List Nat):∀ a w,So J S w0 N (OB.dfrs Ds::O) env a w→bodyPostM Fence.wide 5 P fn R .ret (phi (ZcI Ds) a) w:=by
 intro a w ha
 show LeavesInM Fence.wide 5 P fn a.tmps R (a.defers++ZcI Ds) .returning w
 rw[ha.defs]
 show LeavesInM Fence.wide 5 P fn a.tmps R (ZcI Ds) .returning w
 induction Ds generalizing w with
 | nil=>
  have:=outA (h a w (Zz ha))
  show LeavesInM Fence.wide 5 P fn a.tmps R [] .returning w
  have e:bodyPostM Fence.wide 5 P fn R .ret a w=LeavesInM Fence.wide 5 P fn a.tmps R a.defers .returning w:=rfl
  rw[e,ha.defs]at this
  exact this
 | cons D Ds ih=>
  obtain⟨h1,h2⟩:=Zoo hJ hJ0 (ZvJ ha)
  exact⟨by simp,.inl ⟨D,_,rfl,run_takeDeferred h1,ih _ h2⟩⟩
end
theorem Zs2 {P:Program} {J:WP} {f:FuncId} {Hs:List OB} {args:List AV} {res:AV} (h:FnM (ι:=Unit) P J f Hs args [] (fun _=>res) (fun _=>[])):FnR P J f Hs args res:=by
 intro S w vs hS hJ hH ha
 refine Calls.mono (h S w [] w vs hS hJ hH (Keeps.refl _ _) (ZkQ hJ) (ha.sub fun k _ hk=>⟨hk,fun q hq=>(by cases hq)⟩)) ?_
 rintro e' w' ⟨i,v,he,hv,hk,hx⟩
 exact⟨_,he,hv.sub fun k _ hs=>hs.1,hk,hx.1⟩
theorem ZdX {J:WP} {S:Nat→Prop} {N:Nat} {P:Program} {w0:World} {O:List OB} {env:List (Nat×AV)} {fn:Func} {a:Act} {w:World} {b:Nat} {cs cs':List CD} {t:TypeId} {d m q u x z k:Nat} {r1 r2 r3 r4:AV} (hr:fn.results= #[.cell d t,.tmp x,.tmp u]) (h1:Xl P t k) (h:So J S w0 N (OB.var b cs::O) env a w) (he:env[m]?=some (d,.at b 0)) (hl:cs.length=k) (hE:cs=cs') (he1:env[z]?=some (x,r1)) (hE1:r1=r2) (he2:env[q]?=some (u,r3)) (hE2:r3=r4):
 bodyPost P fn (fun e w'=>∃ v,e= .returned v∧Rel S w' (.tup [.agg cs',r2,r4]) v∧Keeps All w0 w'∧J w') .ret a w:=by
 subst hE
 subst hE1
 subst hE2
 obtain⟨h0,us,e,hb,hrd⟩:=h.x.2.1 (OB.var b cs) yz
 have hd:a.tmps.getD d undef= .pointer (some ⟨b,0,none⟩):=(h.get m he).lit
 have hrun:=Yr (P:=P) b 0 w us 0 #[] fun j u hj=>by rw[Nat.zero_add];simp[World.cell?,hb,hj]
 rw[show us.length=k by rw[hrd.length,hl]]at hrun
 have hd':a.tmps[d]?.getD undef= .pointer (some ⟨b,0,none⟩):=by rw[←Array.getD_eq_getD_getElem?];exact hd
 refine⟨h.defs,.tuple #[.agg us.toArray,a.tmps.getD x undef,a.tmps.getD u undef],by simp[results,hr,hd',asAddr,Sem.run_bind,loadVar,loadCells,h1.1 w,h1.2 w,hrun],_,rfl,?_,h.keep,h.x.1⟩
 have h2:=(h.get q he2).sub (T:=S) fun _ _ hk=>hk.1
 have h3:=(h.get z he1).sub (T:=S) fun _ _ hk=>hk.1
 simp only[Rel,RelL]
 exact⟨_,rfl,_,_,rfl,⟨us,rfl,hrd.sub fun _ _ hk=>hk.1⟩,_,_,rfl,h3,_,_,rfl,h2,rfl⟩
theorem ZsB {J:WP} {S:Nat→Prop} {N:Nat} {P:Program} {w0:World} {O:List OB} {env:List (Nat×AV)} {a:Act} {w:World} {b b2:Nat} {cs cs2:List CD} {t t2:TypeId} {fn:Func} {d m q u:Nat} {k k2:Nat} {cs' cs2':List CD} (hr:fn.results= #[.cell d t,.cell u t2]) (h1:Xl P t k) (h2:Xl P t2 k2) (h:So J S w0 N (OB.var b cs::OB.var b2 cs2::O) env a w) (he:env[m]?=some (d,.at b 0)) (he2:env[q]?=some (u,.at b2 0)) (hl:cs.length=k) (hl2:cs2.length=k2) (hE:cs=cs') (hE2:cs2=cs2'):
 bodyPost P fn (fun e w'=>∃ v,e= .returned v∧Rel S w' (.tup [.agg cs',.agg cs2']) v∧Keeps All w0 w'∧J w') .ret a w:=by
 subst hE
 subst hE2
 obtain⟨h0,us,e,hb,hrd⟩:=h.x.2.1 (OB.var b cs) yz
 obtain⟨g0,vs,e',gb,grd⟩:=h.x.2.1 (OB.var b2 cs2) yz
 have hd:a.tmps.getD d undef= .pointer (some ⟨b,0,none⟩):=(h.get m he).lit
 have hu:a.tmps.getD u undef= .pointer (some ⟨b2,0,none⟩):=(h.get q he2).lit
 have hrun:=Yr (P:=P) b 0 w us 0 #[] fun j u hj=>by rw[Nat.zero_add];simp[World.cell?,hb,hj]
 rw[show us.length=k by rw[hrd.length,hl]]at hrun
 have hrun2:=Yr (P:=P) b2 0 w vs 0 #[] fun j u hj=>by rw[Nat.zero_add];simp[World.cell?,gb,hj]
 rw[show vs.length=k2 by rw[grd.length,hl2]]at hrun2
 have hd':a.tmps[d]?.getD undef= .pointer (some ⟨b,0,none⟩):=by rw[←Array.getD_eq_getD_getElem?];exact hd
 have hu':a.tmps[u]?.getD undef= .pointer (some ⟨b2,0,none⟩):=by rw[←Array.getD_eq_getD_getElem?];exact hu
 refine⟨h.defs,.tuple #[.agg us.toArray,.agg vs.toArray],by simp[results,hr,hd',hu',asAddr,Sem.run_bind,loadVar,loadCells,h1.1 w,h1.2 w,h2.1 w,h2.2 w,hrun,hrun2],_,rfl,?_,h.keep,h.x.1⟩
 simp only[Rel,RelL]
 exact⟨_,rfl,_,_,rfl,⟨us,rfl,hrd.sub fun _ _ hk=>hk.1⟩,_,_,rfl,⟨vs,rfl,grd.sub fun _ _ hk=>hk.1⟩,rfl⟩
section
variable {n:Rn} {P:Program} {S:Nat→Prop} {X:WP}
theorem Zm4 (g:Nat→Value):(Array.range 6).map g= #[g 0,g 1,g 2,g 3,g 4,g 5]:=by apply Array.toList_inj.1;simp[List.range_succ]
theorem ZjU {t e:TypeId} {z:Value} (ht:Yp P t e 6) (hz:∀ w,(zeroValue e).run P w= .ok z w) (us:List Value) (hu:us.length=6) (w:World):
 (Instr.buildSlice t 1 #[(0,.agg us.toArray)]).run P w= .ok (.slice (some ⟨w.heap.size,0,none⟩) 1 1) (w.alloc (.cells us.toArray e)):=by
 unfold Instr.buildSlice
 match us,hu with
 | [a,b,c,d,f,g],_=>
  have hc:(Value.agg [a,b,c,d,f,g].toArray).cells= #[a,b,c,d,f,g]:=rfl
  simp[Sem.run_bind,run_underlying ht.1,ht.2 w,hz w,Instr.fill,hc,newRow,newObj,Sem.run,Zm4]
theorem Zia {cs:List CD} {o:Oper} {a:Act} {w:World} {x:Operand} {t e:TypeId} (ht:Yp P t e 6) (hz:Zc3 P e) (hc:cs.length=6) (hop:o.op= .buildSlice t 1 #[(0,x)]) (h:Rel S w (.agg cs) (a.eval x)) (hS:S w.heap.size) (hx:∀ w',Keeps All w w'→X w'):Does n P o a w (YC S X (.rd (.sl [cs])) w):=by
 obtain⟨z,hz1⟩:=hz
 simp only[Rel]at h
 obtain⟨us,hv,hr⟩:=h
 have hk':Keeps All w (w.alloc (.cells us.toArray e)):=(Keeps.refl _ _).alloc _
 refine ZS (v:=.slice (some ⟨w.heap.size,0,none⟩) 1 1) (w':=w.alloc (.cells us.toArray e)) ?_ ⟨?_,hk',hx _ hk'⟩
 · have:=ZjU ht hz1 us (by rw[hr.length,hc]) w
   rw[execOp,hop]
   simp only[List.map_toArray,List.map_cons,List.map_nil,Sem.run_bind,hv,this]
   rfl
 · simp only[Rel]
   refine Rd.of_cells (n:=6) (us:=us) nlr dz yz hS (fun r hr=>by simp at hr;subst hr;exact hc) (by simp only[List.flatten_cons,List.flatten_nil,List.append_nil];exact hr.keep hk' fun _ _ _=>trivial) fun j u hj=>QS j u hj
end
end Go.Proofs.YtdfadihhfppjaaaGreatDoor
set_option maxHeartbeats 8000000
set_option maxRecDepth 100000
namespace Go.Proofs.YtdfadihhfppjaaaGreatDoor
open Go.Proofs.Tryz (prog)
open Go.RowKit
theorem Zky:Zi prog 69:=Zm Tryz.func69 Y Y
theorem Zgw:Zup prog 37 6:=⟨(#[.int .i64 0,.int .i64 0,.string ⟨#[]⟩,.slice none 0 0,.int .i64 0,.int .i64 0]),Y,by kernel_rfl⟩
theorem ZuT:XA prog 42:=nO
theorem YO:Yp prog 42 37 6:=eO
theorem ZnS:Zc3 prog 37:=⟨.agg #[.int .i64 0,.int .i64 0,.string ⟨#[]⟩,.slice none 0 0,.int .i64 0,.int .i64 0],fun w=>by kernel_rfl⟩
theorem Zfo:Zjz prog 42 37 6 72:=Zvi (.agg #[.int .i64 0,.int .i64 0,.string ⟨#[]⟩,.slice none 0 0,.int .i64 0,.int .i64 0]) V V Y dz (fun w=>by kernel_rfl)
theorem ZoA:Xf prog 42 1:=zO
theorem Zn6:ZdG prog 42 [.lit (.slice none 0 0)]:=⟨(.slice none 0 0),fun w=>by kernel_rfl,fun S w=>(show RdL S w [.lit (.slice none 0 0)] [.slice none 0 0]from⟨.lit _ True.intro,U⟩)⟩
theorem ZmL:ZdG prog 134 [.lit .nilFunc]:=⟨(.nilFunc),fun w=>by kernel_rfl,fun S w=>(show RdL S w [.lit .nilFunc] [.nilFunc]from⟨.lit _ True.intro,U⟩)⟩
theorem ZmW:Xf prog 134 1:=zO
theorem Zpr:XA prog 134:=nO
theorem Zjc:ZdH prog 37 [.int .i64 0,.int .i64 0,.string ⟨#[]⟩,.slice none 0 0,.int .i64 0,.int .i64 0]:=⟨fun i=>(#[(0,1),(1,1),(2,1),(3,1),(4,1),(5,1)]:Array (Nat×Nat))[i]?,fun j hj=>by rcases j with _ | _ | _ | _ | _ | _ | j<;>first | rfl | (simp at hj;omega) | simp at hj,fun parts=>by kernel_rfl⟩
theorem ZqP:Zi prog 75:=Zm Tryz.func75 Y Y
theorem Zxy:Zi prog 76:=Zm Tryz.func76 Y Y
theorem Zue:Zi prog 101:=Zm Tryz.func101 Y Y
section
variable {J:WP} (hJ:Stab J)
include hJ
theorem ZuQ (bj oj bo:Nat) (d:Db) (i:Nat) (ss:List Stp) (ts:List (List BA)) (M:Nat) (c:Chg) (vo:Value) (xs:List Chg) (hok:Okay ss) (hs0:0≤c.step) (hs1:c.step< (ss.length:Int)) (hca:∀ a∈c.args,0≤a∧a<c.step) (hcl:c.args.length≤40) (hc1:c.reason=2∨1≤c.args.length) (hxl:xs.length≤3000000):FnM (ι:=Value) prog J 75 [] [.agg (chC c),.at bj oj,.at bo 0] [OB.pt bj oj [.ptr (jC d i ss ts M)],OB.var bo [.lit vo],OB.row vo 37 6 (xs.map chC)] (fun _=>.tup []) (fun i'=>[OB.pt bj oj [.ptr (jC d i ss ts M)],OB.var bo [.lit (i')],OB.row i' 37 6 ((xs++(XW ss c).toList).map chC)]):=by
 refine fEM Tryz.func75 fun S w0 R hS hJ0 hH=>?_
 refine YS (B:=So J S w0 17 (OB.pt bj oj [.ptr (jC d i ss ts M)]::OB.var bo [.lit vo]::OB.row vo 37 6 (xs.map chC)::R) [(0,.agg (chC c)),(1,.at bj oj),(2,.at bo 0)]) ?_ fun a w h=>h
 refine tw (ZjL (i:=0) (m:=1) Y Y) (ZF tb hJ [0,2,1000] [.ptr (chC c)] [0] U3 Y ⟨iBo hS hJ,U⟩ ?_)
 refine tsq (snK 2 tb Y (sy (.tup [.agg (chC (X3 ss c)),.bool (decide ((((Y6 ss c).length:Nat):Int)< ((Yh ss:Nat):Int)))]) (fun h=>ZaL (Zpa hJ d i ss ts M c (by exact hok) (by exact hs0) (by exact hs1) (by exact hca) (by exact hcl) (by exact hc1)) Zky Y (Zk hS _ h.keep h.x) (h.x.1) (Za (h.get 1 Y) (Za (h.get 0 Y) Zc)) (jo hJ h.x)) ?_))
 refine snK 3 tb Y (Qk (cs:=chC (X3 ss c)) Zgw Y Y Y (lb Y) Y Y Y dz (m:=1) Y Y (fun a w h=>Zk hS _ h.keep h.x _ nlr) (fun a w h w' hk'=>Yw hJ _ _ hk' h.x) ?_)
 refine snK 1 tb Y (seK [0,1,9] U3 Y ?_)
 refine nx (qso tb hJ [1,2,1000] [_] U3 ?_)
 refine cj 2 (fun hb1=>?_) fun hb1=>?_
 ·
  try simp at hb1
  refine ZO (sq (.lit vo) Y Y (lb Y) (fun _ _ h=>Zo ZuT Y (Ze h.x (mo 1 Y)) (h.get 1 Y) Y h.x) ?_)
  refine snK 1 tb Y (sy (.rd (Zfi ([(X3 ss c)]))) (fun h=>Zia YO ZnS Y Y (h.get 0 Y) (Zk hS _ h.keep h.x _ nlr) (jo hJ h.x)) ?_)
  refine kw pm2 (YD (f:=chC) (m:=2) (s:=13) xs ([(X3 ss c)]) (fun _=>Y) Zfo hJ hJ0 Y Y Y (lb Y) Y Y (fun a w h=>(h.get 0 Y)) (by simp;omega) (by simp;omega) fun v1=>?_)
  refine kw pm2 (Z6 (b:=bo) (off:=0) (es:=[_]) hJ hJ0 ZoA Y Y Y (lb Y) Y (fun a w h=>⟨(h.get 5 Y),(h.get 0 Y)⟩) ?_)
  refine seK [1] [_] Y (kw pm1 ?_)
  refine kw pm1 (kw pm2 ?_)
  exact kw (ob2 (congrArg (fun z'=>OB.row v1 37 6 ((z').map chC)) (show(xs++([(X3 ss c)]))=(xs++(XW ss c).toList)from by first | (rw[XW,if_pos hb1];rfl) | (rw[XW,if_neg oz];simp)))) (fun a w h=>Zkc  v1 Y h Y)
 ·
  try simp at hb1
  exact Zb (kw (ob2 (congrArg (fun z'=>OB.row vo 37 6 ((z').map chC)) (show xs=(xs++(XW ss c).toList)from by first | (rw[XW,if_pos hb1];rfl) | (rw[XW,if_neg oz];simp)))) (fun a w h=>Zkc  vo Y h Y))
theorem Zpe (d:Db) (i:Nat) (ss:List Stp) (ts:List (List BA)) (M:Nat) (mm:List (BA×Int)) (step:Nat) (hW:JobW (⟨d,i,ss,ts,mm⟩:Jb)) (hs:step<ss.length):FnM (ι:=Unit) prog J 41 [OB.mI M mm] [.ptr (jC d i ss ts M),.int (step:Nat)] [] (fun _=>.rd (Zfi (Zd4 (⟨d,i,ss,ts,mm⟩:Jb) step))) (fun _=>[]):=by
 refine Zge (N:=67) Tryz.func41 Y Y (lb Y) fun S w0 R hS hJ0 hH=>?_
 refine atw (B:=So J S w0 67 (R) [(0,.ptr (jC d i ss ts M)),(1,.int (step:Nat))]) (fun h=>h) ?_
 have hl0:ts.length=ss.length:=hW.len
 have hfst:=hW.fst hs
 have hok:Okay ss:=hW.ok
 have h16:ss.length≤16:=hW.l16
 have hf16:d.frames.length≤16:=hW.f16
 have hil:i<d.frames.length:=hW.hi
 refine Xr (m:=5) ?_
 refine YU tb hJ [1000,1001] [.ptr [.ptr (jC d i ss ts M)],.ptr [lI (step:Int)],_] [0,1] U2 Y ⟨fun _ _ hk hx hl _=>ZgJ Y (hl.env 0 0 _ Y Y) (Zk hS _ hk hx _ nlr) (jo hJ hx),fun _ _ hk hx hl _=>ZaM Y (hl.env 1 1 _ Y Y) (Zk hS _ hk hx _ nlr) (jo hJ hx),U⟩ ?_
 refine ZdV ?_
 refine Xr (m:=5) ?_
 refine tw (Yd 37 6 hJ) (ZO (Zv Zn6 hJ Y Y Y (lb Y) fun b1=>?_))
 refine seK [0,1,2] U3 Y (ZdV ?_)
 refine Xr (m:=5) ?_
 refine Zoh (m:=1) Y fun bj oj=>?_
 refine ZO (sq (.lit (.func (.func 75) #[] #[.pointer (some ⟨bj,oj,none⟩),.pointer (some ⟨b1,0,none⟩)])) Y Y (lb Y) (fun _ _ h=>Zey (caps:=[(.tmp 2),(.tmp 5)]) Y (map_cons (h.get 0 Y).lit (map_cons (h.get 1 Y).lit map_nil)) h.x) ?_)
 refine Zv ZmL hJ Y Y Y (lb Y) fun b2=>?_
 refine Z6 (b:=b2) (off:=0) (es:=[_]) hJ hJ0 ZmW Y Y Y (lb Y) Y (fun a w h=>⟨(h.get 0 Y),(h.get 1 Y)⟩) ?_
 refine seK [0,2,3,4] U4 Y (kw (ZjL (i:=1) (m:=1) Y Y) ?_)
 refine ZdV ?_
 refine Xr (m:=5) ?_
 refine ZF tb hJ [0,1,2,3,1007,1010,1013] (V9 [.ptr [Zg (ge ts step)],_,.str (XB (ge ts step)),.int ((Zy mm (XB (ge ts step))).getD default),_]) [9,11,12] U7 Y ⟨iIx Z8,iFo hS hJ (Zr2 hJ (ge ts step) (by exact(hW.ts _ (Zp (show step<ts.length by omega))).1.2) (by exact(hW.ts _ (Zp (show step<ts.length by omega))).2)) Zhl,fun _ _ hk hx hl _=>ZgI (Kd:=keyS) (f:=(fun z':Int=>AV.int z')) (L:=mm) Zbc Zca (XB (ge ts step)) Y (ZJ hH hk hx (mo 0 Y)) (hl.D 3 15 Y Y) (hl.D 11 23 Y Y) hx,U⟩ ?_
 refine ln 4 fun hl1=>?_
 refine ln 5 fun hl2=>?_
 refine qso tb hJ [0,1,2,3,6,1002] U3 U6 ?_
 refine jnoA (ι:=Value×(List Chg)) (fun(_,xj)=>(xj=ZnH (⟨d,i,ss,ts,mm⟩:Jb) step 0)) (fun(wj,xj)=>(OB.var b2 [.lit (.func (.func 75) #[] #[.pointer (some ⟨bj,oj,none⟩),.pointer (some ⟨b1,0,none⟩)])]::OB.pt bj oj [.ptr (jC d i ss ts M)]::OB.var b1 [.lit wj]::OB.row wj 37 6 (xj.map chC)::R)) (fun(_,_)=>[(2,.ptr [.ptr (jC d i ss ts M)]),(6,.at b2 0),(5,.at b1 0),(3,.ptr [lI (step:Int)])]) ?_ ?_
 refine cj 5 (fun hb1=>?_) fun hb1=>?_
 try simp at hb1
 refine ZO (sq (.lit (.func (.func 75) #[] #[.pointer (some ⟨bj,oj,none⟩),.pointer (some ⟨b1,0,none⟩)])) Y Y (lb Y) (fun _ _ h=>Zo Zpr Y (Ze h.x (mo 0 Y)) (h.get 1 Y) Y h.x) ?_)
 refine snK 2 tb (env':=[(30,_),(29,_),(28,_),(2,_),(6,_),(5,_),(3,_),(7,_),(27,_)]) Y (sy (.rd (Z3 ([((Zy mm (XB (ge ts step))).getD default)]))) (fun h=>YI Zw Zea Y (h.get 0 Y) (Zk hS _ h.keep h.x _ nlr) (jo hJ h.x)) ?_)
 refine sq (.agg (chC (⟨(1:Int),(step:Int),⟨#[]⟩,[((Zy mm (XB (ge ts step))).getD default)],0,0⟩:Chg))) Y Y (lb Y) (fun a _ h=>Y7 (ps:=[(0,a.eval (.const (.int .i64 1))),(1,a.eval (.tmp 29)),(3,a.eval (.tmp 31))]) (us:=[a.eval (.const (.int .i64 1)),a.eval (.tmp 29),.string ⟨#[]⟩,a.eval (.tmp 31),.int .i64 0,.int .i64 0]) Zjc Y yz (ZnM (lb Y) Y (ZnM (lb Y) (Rel.oneC (h.get 2 Y)) (ZnM (lb Y) (Rel.oneC (h.get 0 Y)) Zjr))) Y (Zt (Rel.of_lit (.int .i64 1)) (Zt (h.get 2 Y) (X1 (.lit _ nzl) (Zt (h.get 0 Y) (X1 (.lit _ True.intro) (X1 (.lit _ True.intro) Z0)))))) h.x) ?_
 refine kw pm3 (kw pm3 ?_)
 refine kw pm3 (ZuC (O:=[OB.pt bj oj [.ptr (jC d i ss ts M)],OB.var b1 [.lit (.slice none 0 0)],OB.row (.slice none 0 0) 37 6 (([]:List Chg).map chC)]) (R:=(OB.var b2 [.lit (.func (.func 75) #[] #[.pointer (some ⟨bj,oj,none⟩),.pointer (some ⟨b1,0,none⟩)])]::R)) [.agg (chC (⟨(1:Int),(step:Int),⟨#[]⟩,[((Zy mm (XB (ge ts step))).getD default)],0,0⟩:Chg))] [.pointer (some ⟨bj,oj,none⟩),.pointer (some ⟨b1,0,none⟩)] [.at bj oj,.at b1 0] (ZuQ hJ bj oj b1 d i ss ts M (⟨(1:Int),(step:Int),⟨#[]⟩,[((Zy mm (XB (ge ts step))).getD default)],0,0⟩:Chg) (.slice none 0 0) ([]:List Chg) (by exact hok) (by dsimp only;omega) (by dsimp only;omega) (by first | exact hcm.2.2 | (intro a ha;rw[List.mem_singleton.1 ha];exact⟨hfst.1,oz⟩)) (by first | (rw[hcm.2.1];omega) | simp) yz (by first | omega | simp)) ZqP Y Y Y (lb Y) hS hJ0 Zq (fun a w h=>(h.get 4 Y).lit) (fun a w h=>(Za (h.get 0 Y) Zc)) (fun w=>(Za (Rel.of_lit (.pointer (some ⟨bj,oj,none⟩))) (Za (Rel.of_lit (.pointer (some ⟨b1,0,none⟩))) Zc))) fun z3=>?_)
 refine seK [2,6,7,8,9] U5 Y (kw pm2 ?_)
 refine kw pm2 (kw pm2 ?_)
 exact kw pm3 (ZwJ (z3,(([]:List Chg)++(XW ss (⟨(1:Int),(step:Int),⟨#[]⟩,[((Zy mm (XB (ge ts step))).getD default)],0,0⟩:Chg)).toList)) [1,2,3,4] (show(([]:List Chg)++(XW ss (⟨(1:Int),(step:Int),⟨#[]⟩,[((Zy mm (XB (ge ts step))).getD default)],0,0⟩:Chg)).toList)=ZnH (⟨d,i,ss,ts,mm⟩:Jb) step 0 from by rw[Zmc,Zc9,if_pos (by show(Zy mm (XB (ge ts step))).getD 0<_;rw[hfst.2.2];exact hb1),hfst.2.2];simp only[List.filterMap_cons,List.filterMap_nil];cases XW ss _<;>rfl))
 try simp at hb1
 exact Zb (ZwJ ((.slice none 0 0),([]:List Chg)) [0,1,2,3] (show([]:List Chg)=ZnH (⟨d,i,ss,ts,mm⟩:Jb) step 0 from by rw[Zmc,Zc9,if_neg (by show ¬ (Zy mm (XB (ge ts step))).getD 0<_;rw[hfst.2.2];exact Int.not_lt.2 hb1)];rfl))
 rintro⟨wj,xj⟩ hF
 have g1_1:xj=ZnH (⟨d,i,ss,ts,mm⟩:Jb) step 0:=hF
 refine ZdV ?_
 refine Zrc ?_
 refine Xr (m:=5) ?_
 refine YU tb hJ [0,1,2,3,1004,1009,1010,1011] (V9 [.rd (ZaU (d.frames.take i)),.int ((d.frames.take i).length:Nat),_]) [9,10] U8 Y ⟨fun _ _ _ hx hl _=>Zam (ys:=d.frames.take i) (lo:=0) (hi:=i) List.drop_zero Yu (fun _=>Y) Y (hl.D 4 38 Y Y) Y (hl.D 8 42 Y Y) sfz sfz hx,Ym QT,U⟩ ?_
 refine ZdV ?_
 refine lnA 4 fun hl3=>?_
 refine lnA 5 fun hl4=>?_
 refine Zfr ?_
 refine lpL (ι:=Nat×(List Chg)×Value) (fun(q,out,_)=>(q≤i)∧(out=ZnH (⟨d,i,ss,ts,mm⟩:Jb) step q)) (fun(_,out,wo)=>(OB.var b2 [.lit (.func (.func 75) #[] #[.pointer (some ⟨bj,oj,none⟩),.pointer (some ⟨b1,0,none⟩)])]::OB.pt bj oj [.ptr (jC d i ss ts M)]::OB.var b1 [.lit wo]::OB.row wo 37 6 (out.map chC)::R)) (fun(q,_,_)=>[(45,.int (q:Nat))]) (fun(q,_,_)=>i-q) [0,1,2,3,5,6,7] U6 (0,xj,wj) ⟨nzl,g1_1⟩ ?_
 rintro⟨q,out,wo⟩ ⟨f1_1,f1_2⟩
 intro Ds1
 refine Zi3 (m:=5) ?_
 refine Zb8 ?_
 refine snK 1 tb (env':=[(46,_),(2,_),(6,_),(5,_),(3,_),(43,_),(44,_),(45,_)]) Y (seK (r8 []) U8 Y ?_)
 refine nxL ?_
 refine Zi3 (m:=5) ?_
 refine d_cj 0 (fun hb2=>?_) fun hb2=>?_
 try simp at hb2
 have ef:ge (d.frames.take i) q=ge d.frames q:=ZsT oz
 have hcl:=ZqJ (j:=(⟨d,i,ss,ts,mm⟩:Jb)) (step:=step) hW.m0 (show step≤16 by omega) (show q≤16 by omega)
 rw[←f1_2]at hcl
 have ex:ZnH (⟨d,i,ss,ts,mm⟩:Jb) step (q+1)=ZnH (⟨d,i,ss,ts,mm⟩:Jb) step q++(Znt (⟨d,i,ss,ts,mm⟩:Jb) step (ge (d.frames.take i) q)).filterMap (XW ss):=by rw[ef];exact Ztn (show q<d.frames.length by omega)
 refine Zu7 ?_
 refine nxL ?_
 refine al_seq ?_
 refine ZmD ?_
 refine Zi3 (m:=5) ?_
 refine Zb8 ?_
 refine sy (.ptr (frC (ge (d.frames.take i) q))) (fun h=>ZM (i:=(q:Int)) Yu Y (h.get 5 Y) (h.get 7 Y) nnn (ZT (xs:=d.frames.take i) (k:=q) sfz) Y h.x) ?_
 refine snK 1 tb (env':=[(48,_),(47,_),(46,_),(2,_),(6,_),(5,_),(3,_),(43,_),(44,_),(45,_)]) Y (Qk (cs:=frC (ge (d.frames.take i) q)) ZkT Y Y Y (lb Y) Y Y Y dz (m:=0) Y Y (fun a w h=>Zk hS _ h.keep h.x _ nlr) (fun a w h w' hk'=>Yw hJ _ _ hk' h.x) ?_)
 refine seK [0,4,5,6,7,8,9,10] U8 Y (nxL ?_)
 refine Zi3 (m:=5) ?_
 refine Zgo ?_
 refine Zb8 ?_
 refine snK 2 tb (env':=[(50,_),(49,_),(9,_),(2,_),(6,_),(5,_),(3,_),(43,_),(44,_),(45,_)]) Y (sy (.int (((ge (d.frames.take i) q).hyps).length:Nat)) (fun h=>Qw ZC Y (h.get 0 Y) h.x) ?_)
 refine snK 1 tb (env':=[(52,_),(51,_),(50,_),(49,_),(9,_),(2,_),(6,_),(5,_),(3,_),(43,_),(44,_),(45,_)]) Y (seK [0,2,4,5,6,7,8,9,10,11] U10 Y ?_)
 refine nxD ?_
 refine lnD 1 fun hl5=>?_
 refine d_cj 0 (fun hb3=>?_) fun hb3=>?_
 try simp at hb3
 have eF:Znt (⟨d,i,ss,ts,mm⟩:Jb) step (ge (d.frames.take i) q)=[]:=if_pos oz
 refine Zu9 ?_
 refine Zwt (m:=5) ?_
 refine Zb8 ?_
 refine sy (.int (q+1:Nat)) (fun h=>Znc (i:=(q:Int)) (j:=(1:Int)) Y (h.get 9 Y) (Rel.of_lit (.int .i64 1)) sfz sfz h.x) ?_
 refine snK 1 tb (env':=[(45,_),(65,_),(52,_),(50,_),(9,_),(2,_),(6,_),(5,_),(3,_),(43,_),(44,_)]) Y (seK [0,5,6,7,8,9,10] U7 Y ?_)
 exact lpLE (q+1,out,wo) [1,2,3,4,5,6,0] ⟨oz,by rw[ex,eF,←f1_2];first | (simp;done) | exact r1_⟩
 try simp at hb3
 have eF:Znt (⟨d,i,ss,ts,mm⟩:Jb) step (ge (d.frames.take i) q)=(Zi9 (⟨d,i,ss,ts,mm⟩:Jb) (ge (d.frames.take i) q) step).map fun al=>(⟨2,step,(ge (d.frames.take i) q).label,al,0,0⟩:Chg):=if_neg oz
 refine Zu7 ?_
 refine nxL ?_
 refine Zi3 (m:=5) ?_
 refine Zb8 ?_
 refine snK 3 tb (env':=[(55,_),(54,_),(53,_),(52,_),(50,_),(9,_),(2,_),(6,_),(5,_),(3,_),(43,_),(44,_),(45,_)]) Y (sy (.fn 101 [.ptr (frC (ge (d.frames.take i) q)),.ptr [.ptr (jC d i ss ts M)],.ptr [lI (step:Int)]]) (fun h=>ZaL (Zij hJ d i ss ts M (ge (d.frames.take i) q) step) Zxy Y (Zk hS _ h.keep h.x) (h.x.1) (Za (h.get 2 Y) (Za (h.get 1 Y) (Za (h.get 0 Y) Zc))) (jo hJ h.x)) ?_)
 refine seK [0,6,7,8,9,10,11,12,13] U9 Y (nxL ?_)
 refine ZmD ?_
 refine alw (fun h=>XC (p:=(out=out++(([]:List (List Int)).map fun al=>(⟨2,step,(ge (d.frames.take i) q).label,al,0,0⟩:Chg)).filterMap (XW ss))) yz h) ?_
 refine ZrI (m:=5) (κ:=Value×(List Chg)) (μ:=Empty) (σ:=Empty) (ZgO hJ d i ss ts M mm (ge (d.frames.take i) q) step (by rw[ef];exact hW.try (Zp (show q<d.frames.length by omega)) hs)) Zue hJ hS hJ0 hH (fun pre (wv,ys)=>[OB.fct (ys=out++(pre.map fun al=>(⟨2,step,(ge (d.frames.take i) q).label,al,0,0⟩:Chg)).filterMap (XW ss)),OB.dfrs Ds1,OB.var b2 [.lit (.func (.func 75) #[] #[.pointer (some ⟨bj,oj,none⟩),.pointer (some ⟨b1,0,none⟩)])],OB.pt bj oj [.ptr (jC d i ss ts M)],OB.var b1 [.lit wv],OB.row wv 37 6 (ys.map chC)]) (fun q':Empty=>undef) (fun q'=>[]) (fun s'=>[]) (wo,out) (fun x9=>[(10,.rd (Z3 x9)),(57,.rd (Z3 x9)),(9,.ptr (frC (ge (d.frames.take i) q))),(2,.ptr [.ptr (jC d i ss ts M)]),(6,.at b2 0),(5,.at b1 0),(3,.ptr [lI (step:Int)]),(43,.rd (ZaU (d.frames.take i))),(44,.int ((d.frames.take i).length:Nat)),(45,.int (q:Nat))]) (lb Y) Tryz.func41 ?_ ?_ ?_ ?_ ?_ ?_ ?_
 · exact fun a w h=>Zew (h.get 0 Y)
 rintro m9 l9 R' pre x9 ⟨wv,ys⟩ K9 hK9
 refine ZO (snK 1 tb (env':=[(10,_),(57,_),(56,_),(9,_),(2,_),(6,_),(5,_),(3,_),(43,_),(44,_),(45,_)]) Y (seK [0,1,3,4,5,6,7,8,9,10] U10 Y ?_))
 exact hK9
 rintro m9 l9 R' pre x9 ⟨wv,ys⟩ hpre
 refine ZhV fun hF=>?_
 have r1_:ys=out++(pre.map fun al=>(⟨2,step,(ge (d.frames.take i) q).label,al,0,0⟩:Chg)).filterMap (XW ss):=hF
 have hcm:=Zd5 (j:=(⟨d,i,ss,ts,mm⟩:Jb)) (g:=ge (d.frames.take i) q) (step:=step) hW.m0 (x:=x9) (hpre.subset (List.mem_append_right _ (List.mem_singleton.2 Y)))
 have hyl:ys.length≤2100000:=by have h1:=List.length_filterMap_le (XW ss) (pre.map fun al=>(⟨2,step,(ge (d.frames.take i) q).label,al,0,0⟩:Chg));have h2:=hpre.length_le;have h3:=Zmd (j:=(⟨d,i,ss,ts,mm⟩:Jb)) (g:=ge (d.frames.take i) q) (step:=step) hW.m0;have h4:=pow4 (n:=step) (m:=(ge (d.frames.take i) q).hyps.length) oz oz;rw[r1_,List.length_append];rw[List.length_map]at h1;simp only[List.length_append,List.length_cons]at h2;omega
 refine ln 0 fun hl6=>?_
 refine Zd (ZO (sq (.lit (.func (.func 75) #[] #[.pointer (some ⟨bj,oj,none⟩),.pointer (some ⟨b1,0,none⟩)])) Y Y (lb Y) (fun _ _ h=>Zo Zpr Y (Ze h.x (mo 1 Y)) (h.get 4 Y) Y h.x) ?_))
 refine snK 4 tb (env':=[(62,_),(61,_),(60,_),(59,_),(58,_),(10,_),(57,_),(9,_),(2,_),(6,_),(5,_),(3,_),(43,_),(44,_),(45,_)]) Y (sq (.agg (chC (⟨(2:Int),(step:Int),(ge (d.frames.take i) q).label,x9,0,0⟩:Chg))) Y Y (lb Y) (fun a _ h=>Y7 (ps:=[(0,a.eval (.const (.int .i64 2))),(1,a.eval (.tmp 59)),(2,a.eval (.tmp 61)),(3,a.eval (.tmp 62))]) (us:=[a.eval (.const (.int .i64 2)),a.eval (.tmp 59),a.eval (.tmp 61),a.eval (.tmp 62),.int .i64 0,.int .i64 0]) Zjc Y yz (ZnM (lb Y) Y (ZnM (lb Y) (Rel.oneC (h.get 3 Y)) (ZnM (lb Y) (Rel.oneC (h.get 1 Y)) (ZnM (lb Y) (Rel.oneC (h.get 0 Y)) Zjr)))) Y (Zt (Rel.of_lit (.int .i64 2)) (Zt (h.get 3 Y) (Zt (h.get 1 Y) (Zt (h.get 0 Y) (X1 (.lit _ True.intro) (X1 (.lit _ True.intro) Z0)))))) h.x) ?_)
 refine kw pm1 (kw pm1 ?_)
 refine kw pm4 (kw pm4 ?_)
 refine kw pm4 (ZuC (O:=[OB.pt bj oj [.ptr (jC d i ss ts M)],OB.var b1 [.lit wv],OB.row wv 37 6 (ys.map chC)]) (R:=(OB.dfrs Ds1::OB.var b2 [.lit (.func (.func 75) #[] #[.pointer (some ⟨bj,oj,none⟩),.pointer (some ⟨b1,0,none⟩)])]::R')) [.agg (chC (⟨(2:Int),(step:Int),(ge (d.frames.take i) q).label,x9,0,0⟩:Chg))] [.pointer (some ⟨bj,oj,none⟩),.pointer (some ⟨b1,0,none⟩)] [.at bj oj,.at b1 0] (ZuQ hJ bj oj b1 d i ss ts M (⟨(2:Int),(step:Int),(ge (d.frames.take i) q).label,x9,0,0⟩:Chg) wv ys (by exact hok) (by dsimp only;omega) (by dsimp only;omega) (by first | exact hcm.2.2 | (intro a ha;rw[List.mem_singleton.1 ha];exact⟨hfst.1,oz⟩)) (by first | (rw[hcm.2.1];omega) | simp) yz (by first | omega | simp)) ZqP Y Y Y (lb Y) hS hJ0 Zq (fun a w h=>(h.get 5 Y).lit) (fun a w h=>(Za (h.get 0 Y) Zc)) (fun w=>(Za (Rel.of_lit (.pointer (some ⟨bj,oj,none⟩))) (Za (Rel.of_lit (.pointer (some ⟨b1,0,none⟩))) Zc))) fun z4=>?_)
 refine seK [9,10,11,12,13,14,15,16] U8 Y (kw pm2 ?_)
 refine kw pm2 (kw pm2 ?_)
 refine kw pm4 (kw pm4 ?_)
 exact kw (fun h=>XC (p:=((ys++(XW ss (⟨(2:Int),(step:Int),(ge (d.frames.take i) q).label,x9,0,0⟩:Chg)).toList)=out++((pre++[x9]).map fun al=>(⟨2,step,(ge (d.frames.take i) q).label,al,0,0⟩:Chg)).filterMap (XW ss))) (by simp only[List.map_append,List.map_cons,List.map_nil];rw[Zw2,←List.append_assoc,←r1_]) h) (fun a w h=>⟨(z4,(ys++(XW ss (⟨(2:Int),(step:Int),(ge (d.frames.take i) q).label,x9,0,0⟩:Chg)).toList)),h.keep,h.x⟩)
 rintro hfl ⟨wv,ys⟩ D
 refine kw pm1 (ZhY fun hF=>?_)
 have r1_:ys=out++((Zi9 (⟨d,i,ss,ts,mm⟩:Jb) (ge (d.frames.take i) q) step).map fun al=>(⟨2,step,(ge (d.frames.take i) q).label,al,0,0⟩:Chg)).filterMap (XW ss):=hF
 refine kw pm1 (kw ZvK ?_)
 refine Zwt (m:=5) ?_
 refine Zb8 ?_
 refine sy (.int (q+1:Nat)) (fun h=>Znc (i:=(q:Int)) (j:=(1:Int)) Y (h.get 8 Y) (Rel.of_lit (.int .i64 1)) sfz sfz h.x) ?_
 refine snK 1 tb (env':=[(45,_),(65,_),(56,_),(9,_),(2,_),(6,_),(5,_),(3,_),(43,_),(44,_)]) Y (seK [0,4,5,6,7,8,9] U7 Y ?_)
 exact lpLE (q+1,ys,wv) [1,2,3,4,5,6,0] ⟨oz,by rw[ex,eF,←f1_2];first | (simp;done) | exact r1_⟩
 · exact fun s=>s.elim
 · exact fun v h=>by cases h
 · exact fun q=>q.elim
 try simp at hb2
 refine Zu9 ?_
 refine Zwt (m:=5) ?_
 refine Zgo ?_
 refine Zb8 ?_
 refine sy (.lit wo) (fun h=>Zo ZuT Y (Ze h.x (mo 3 Y)) (h.get 3 Y) Y h.x) ?_
 refine snK 1 tb (env':=[(4,_),(66,_),(46,_),(2,_),(6,_),(5,_),(3,_),(43,_),(44,_),(45,_)]) Y (seK [0] [_] Y ?_)
 refine nxD ?_
 refine Zqs ?_
 refine outL hJ hJ0 ?_ _
 refine kw pm3 (kw (fun h=>Ya hS h (m:=0) (s:=4) Y) ?_)
 refine kw Zz (kw Zz ?_)
 exact kw Zz (fun a w h=>ZK  (m:=0) () Y h Y (congrArg (fun z=>AV.rd (Zfi z)) (show out=(Zd4 (⟨d,i,ss,ts,mm⟩:Jb) step)from by rw[f1_2,show q=i by omega];rfl)))
theorem Zf4 (d:Db) (i:Nat) (ss:List Stp) (ts:List (List BA)) (M:Nat) (mm:List (BA×Int)) (step:Nat) (hW:JobW (⟨d,i,ss,ts,mm⟩:Jb)) (hs:step<ss.length):FnR prog J 41 [OB.mI M mm] [.ptr (jC d i ss ts M),.int (step:Nat)] (.rd (Zfi (Zd4 (⟨d,i,ss,ts,mm⟩:Jb) step))):=Zs2 (Zpe hJ d i ss ts M mm step hW hs)
end
end Go.Proofs.YtdfadihhfppjaaaGreatDoor
namespace Go.Proofs.YtdfadihhfppjaaaGreatDoor
section
variable {d:Db} {z:Int} {ss:List Stp}
theorem ZhS (h:ZD d z ss=0):(Yq d z ss).1.length=ss.length∧∀ t∈(Yq d z ss).1,(1≤t.length∧t.length≤2000)∧∀ s∈t,s.size≤60:=by
 obtain⟨h1,h2⟩:=QN h
 obtain⟨ha,hf⟩:=Zfj h1
 obtain⟨hck,hz0,hz1⟩:=Zc1 ha
 have hi:z.toNat<d.frames.length:=by omega
 have hj:=(ZfB h).1
 refine⟨hj.len,fun t ht=>⟨?_,fun s hs=>ZhW (Zhk hck) s (hj.sy t ht s hs)⟩⟩
 have h3:Yq d z ss=Zoc d z.toNat ss:=if_pos h1
 have h4:∀ q,q<ss.length→erG d z.toNat ss q=0:=by
  rw[h3]at h2
  unfold Zoc at h2
  split at h2
  · rename_i k hk
    have h5:=List.find?_some hk
    exact absurd h2 (of_decide_eq_true h5)
  · rename_i hk
    intro q hq
    have h5:=List.find?_eq_none.1 hk q (List.mem_range.2 hq)
    simpa using h5
 have h5:(Yq d z ss).1=fmG d z.toNat ss ss.length:=by rw[h3,ZkX h4]
 rw[h5]at ht
 exact Zhb hck hi ss.length (fun q hq=>h4 q hq) t ht
theorem Zg6 (h:ZD d z ss=0) (h16:ss.length≤16) (hf:d.frames.length≤16) (hw:∀ f∈d.frames,f.wide.length*32≤140737488351232):JobW (jbG d z ss):=by
 obtain⟨h1,h2⟩:=QN h
 obtain⟨ha,_⟩:=Zfj h1
 obtain⟨hck,hz0,hz1⟩:=Zc1 ha
 have hi:z.toNat<d.frames.length:=by omega
 obtain⟨hl,ht⟩:=ZhS h
 have hg:=ZcT hck
 exact⟨(ZfB h).2,h16,hl,ht,fun s q e=>(ZiX e).imp_right (·.1),fun i hi'=>by obtain⟨q,hq,_⟩:=Zkp hi';exact Option.isSome_iff_exists.2 ⟨q,hq⟩,hf,hi,hw _ (Zp hi),
  fun g hg'=>(hg g hg').1.2,fun g hg' y hy=>⟨((hg g hg').2.2 y (List.mem_append_left _ hy)).1,fun s hs=>ZhW (Zhk hck) s ((ZqF hck g hg').1 y (List.mem_append_left _ hy) s hs)⟩,fun g hg'=>(hg g hg').1.1⟩
theorem Zs5 {ts:List (List BA)} {pre:List (Nat×List BA)} {x:Nat×List BA} (h:(pre++[x])<+:ZfD ts):pre.length<ts.length∧ZaX ts (pre++[x]).length=XK (ZaX ts pre.length) (XB x.2) ((x.1:Nat):Int)∧x.2∈ts:=by
 obtain⟨h1,h2,h3⟩:=bw_at h
 refine⟨?_,?_,?_⟩
 · omega
 · rw[List.length_append,List.length_singleton,ZaX,h3,h2]
 · rw[h3];exact Zp oz
end
end Go.Proofs.YtdfadihhfppjaaaGreatDoor
set_option maxHeartbeats 8000000
set_option maxRecDepth 100000
namespace Go.Proofs.YtdfadihhfppjaaaGreatDoor
open Go.Proofs.Tryz (prog)
open Go.RowKit
theorem ZkE:Zi prog 27:=Zm Tryz.func27 Y Y
theorem ZxB:Zi prog 61:=Zm Tryz.func61 Y Y
theorem Zjd:Zvk prog 92:=fun _ _ _ _ _ _ _ _ _ _=>by kernel_rfl
theorem Zco:ZdG prog 77 [.lit (.pointer none)]:=⟨(.pointer none),fun w=>by kernel_rfl,fun S w=>(show RdL S w [.lit (.pointer none)] [.pointer none]from⟨.lit _ True.intro,U⟩)⟩
theorem Zox:Xf prog 77 1:=zO
theorem ZxA:Zi prog 63:=Zm Tryz.func63 Y Y
theorem Zxq:Zi prog 90:=Zm Tryz.func90 Y Y
theorem Zbi:Zi prog 32:=Zm Tryz.func32 Y Y
theorem ZqV:Zi prog 41:=Zm Tryz.func41 Y Y
section
variable {J:WP} (hJ:Stab J)
include hJ
theorem ZdQ (d:Db) (z:Int) (ss:List Stp) (hw:∀ f∈d.frames,f.wide.length*32≤140737488351232) (hG:Xm J) (hr:¬ ZD d z ss=0):Fn prog J 32 [.agg (dbC d),.int z,.agg (pfC ss)] (.tup [.rd (.lit (.pointer none)),.int (ZD d z ss)]):=by
 refine ZcP (N:=60) Tryz.func32 Y Y (lb Y) fun S w0 hS hJ0=>?_
 refine atw Z4 ?_
 refine Xr (m:=5) ?_
 refine YU tb hJ [1,1000,1001] [.ptr (dbC d),.ptr (pfC ss),_,_] [0,1] U3 Y ⟨iBo hS hJ,iBo hS hJ,U⟩ ?_
 refine ZdV ?_
 refine Xr (m:=5) ?_
 refine ZF tb hJ [0,1,2,1004] (V3 [.int (ZfC d z ss),_]) [3] U4 Y ⟨iFo hS hJ (ZgV hJ d z ss (by exact hw) (by exact hG)) ZkA,U⟩ ?_
 refine qso tb hJ [0,1,2,3,1001] U2 U5 ?_
 refine cj 4 (fun hb1=>?_) fun hb1=>?_
 try simp at hb1
 refine qso tb hJ [1001,1002] U3 U2 ?_
 refine Zs (Zwo ?_)
 exact fun a w h=>Yz (m:=0) (k:=1) Y (ZY h) Y Y Y (eI (by first | exact absurd hb1 hb2 | (simp[ZD, *];done)))
 try simp at hb1
 refine Zb (ZdV ?_)
 refine Xr (m:=5) ?_
 refine ZO (snK 3 tb Y (sy (.tup [.rd (Yc ((Yq d z ss).1)),.agg (vdC ((Yq d z ss).2)),.int (ZfC d z ss)]) (fun h=>ZaL (ZgQ hJ d z ss (by exact hw) (by exact hG)) ZkE Y (Zk hS _ h.keep h.x) (h.x.1) (Za (h.get 2 Y) (Za (h.get 1 Y) (Za (h.get 0 Y) Zc))) (jo hJ h.x)) ?_))
 refine snK 4 tb Y (Zv ZbI hJ Y Y Y (lb Y) fun b1=>?_)
 refine snK 1 tb Y (Zn (b:=b1) (off:=0) (es:=U2) (news:=U2) hJ hJ0 QX Y Y Y (lb Y) Y (fun a w h=>⟨(h.get 1 Y),(h.get 3 Y)⟩) ?_)
 refine snK 1 tb Y (kw (fun h=>ZP hS h (m:=2) (s:=10) Y) ?_)
 refine seK [0,1,2,5,11,12,13] U7 Y (ZdV ?_)
 refine lnA 2 fun hl1=>?_
 refine Xr (m:=5) ?_
 refine Zd (qso tb hJ [0,1,2,4,5,6,1002] U3 U7 ?_)
 refine cj 6 (fun hb2=>?_) fun hb2=>?_
 try simp at hb2
 refine qso tb hJ [1001,1002] U3 U2 ?_
 refine Zs (Zwo ?_)
 exact fun a w h=>Yz (m:=0) (k:=1) Y (ZY h) Y Y Y (eI (by first | exact absurd hb1 hb2 | (simp[ZD, *];done)))
 try simp at hb2
 refine qso tb hJ [2,3,4,5,1003] U4 U5 ?_
 refine cj 4 (fun hb3=>?_) fun hb3=>?_
 try simp at hb3
 refine qso tb hJ [1000,1001] U2 U2 ?_
 refine Zs (Zwo ?_)
 exact fun a w h=>Yz (m:=0) (k:=1) Y (ZY h) Y Y Y (eI (by first | exact absurd hb1 hb2 | (simp[ZD, *];done)))
 try simp at hb3
 exact False.elim (hr (by simp[ZD, *]))
theorem ZeB (d:Db) (z:Int) (ss:List Stp) (hw:∀ f∈d.frames,f.wide.length*32≤140737488351232) (hG:Xm J) (hr:ZD d z ss=0):FnM (ι:=Nat) prog J 32 [] [.agg (dbC d),.int z,.agg (pfC ss)] [] (fun i'=>.tup [.ptr [Zg d.consts,Zg d.vars,ZaU d.frames,lI (z.toNat:Int),Yv ss,Yc ((Yq d z ss).1),lI (((Yh ss):Nat):Int),.lit (.map (some (i')))],.int 0]) (fun i'=>[OB.mI (i') (ZaX (Yq d z ss).1 (Yq d z ss).1.length)]):=by
 refine Zge (N:=60) Tryz.func32 Y Y (lb Y) fun S w0 R hS hJ0 hH=>?_
 refine atw (B:=So J S w0 60 (R) [(0,.agg (dbC d)),(1,.int z),(2,.agg (pfC ss))]) (fun h=>h) ?_
 have hts:=ZhS hr
 have hok:=(ZfB hr).2
 have hl0:=hok.1
 have hl1:=hok.2.1
 have hz0:=(Zc1 (Zfj (QN hr).1).1).2.1
 refine Xr (m:=5) ?_
 refine YU tb hJ [1,1000,1001] [.ptr (dbC d),.ptr (pfC ss),_,_] [0,1] U3 Y ⟨iBo hS hJ,iBo hS hJ,U⟩ ?_
 refine ZdV ?_
 refine Xr (m:=5) ?_
 refine ZF tb hJ [0,1,2,1004] (V3 [.int (ZfC d z ss),_]) [3] U4 Y ⟨iFo hS hJ (ZgV hJ d z ss (by exact hw) (by exact hG)) ZkA,U⟩ ?_
 refine qso tb hJ [0,1,2,3,1001] U2 U5 ?_
 refine cj 4 (fun hb1=>?_) fun hb1=>?_
 ·
  try simp at hb1
  exact False.elim (hb1 (QN hr).1)
 ·
  try simp at hb1
  refine Zb (ZdV ?_)
  refine Xr (m:=5) ?_
  refine ZO (snK 3 tb Y (sy (.tup [.rd (Yc ((Yq d z ss).1)),.agg (vdC ((Yq d z ss).2)),.int (ZfC d z ss)]) (fun h=>ZaL (ZgQ hJ d z ss (by exact hw) (by exact hG)) ZkE Y (Zk hS _ h.keep h.x) (h.x.1) (Za (h.get 2 Y) (Za (h.get 1 Y) (Za (h.get 0 Y) Zc))) (jo hJ h.x)) ?_))
  refine snK 4 tb Y (Zv ZbI hJ Y Y Y (lb Y) fun b1=>?_)
  refine snK 1 tb Y (Zn (b:=b1) (off:=0) (es:=U2) (news:=U2) hJ hJ0 QX Y Y Y (lb Y) Y (fun a w h=>⟨(h.get 1 Y),(h.get 3 Y)⟩) ?_)
  refine snK 1 tb Y (kw (fun h=>ZP hS h (m:=2) (s:=10) Y) ?_)
  refine seK [0,1,2,5,11,12,13] U7 Y (kw (sa 4 Y (congrArg AV.int (show z=(z.toNat:Int)from by omega))) ?_)
  refine ZdV ?_
  refine lnA 2 fun hl1=>?_
  refine Xr (m:=5) ?_
  refine Zd (qso tb hJ [0,1,2,4,5,6,1002] U3 U7 ?_)
  refine cj 6 (fun hb2=>?_) fun hb2=>?_
  ·
   try simp at hb2
   exact False.elim (hb2 (QN hr).1)
  ·
   try simp at hb2
   refine qso tb hJ [2,3,4,5,1003] U4 U5 ?_
   refine cj 4 (fun hb3=>?_) fun hb3=>?_
   ·
    try simp at hb3
    exact False.elim (hb3 (QN hr).2)
   ·
    try simp at hb3
    refine Zb (ZdV ?_)
    refine Xr (m:=5) ?_
    refine fun a w h=>Zal (R) (γ:=Nat×Value×Nat×Nat) (fun ix'=>([.agg (dbC d),.int (z.toNat:Nat),.agg (pfC ss),.rd (Yc ((Yq d z ss).1)),.agg (pfC ss),.rd (Zgt (Y8 ss)),.int (Zfg (Y8 ss):Nat),.any,.any,.any,.any,.any]:List AV).getD ix' .any) (fun _=>true) [(9,fun _=>.rd (Yc ((Yq d z ss).1))),(12,fun g=>.at g.2.2.2 0)] (fun(b:List Bool) (g:Nat×Value×Nat×Nat)=>(bif b.getD 4 false then [OB.var g.2.2.2 [.lit (.pointer (some ⟨g.2.2.1,0,none⟩))]]else(bif b.getD 3 false then [OB.var g.2.2.2 [.lit (.pointer none)]]else []))++((bif b.getD 2 false then [OB.var g.2.2.1 [Zg d.consts,Zg d.vars,ZaU d.frames,lI (z.toNat:Int),Yv ss,Yc ((Yq d z ss).1),lI ((Zfg (Y8 ss):Nat):Int),.lit (.map (some g.1))]]else(bif b.getD 1 false then [Zvo [Zg d.consts,Zg d.vars,ZaU d.frames,lI (z.toNat:Int),Yv ss,Yc ((Yq d z ss).1),lI ((Zfg (Y8 ss):Nat):Int),.lit (.map (some g.1))] g.2.1]else []))++((bif b.getD 0 false then [OB.mI g.1 ([]:List (BA×Int))]else [])++(R)))) (fun k' g=>match k' with | 0=>(.map (some g.1)) | 1=>g.2.1 | 2=>(.pointer (some ⟨g.2.2.1,0,none⟩)) | 3=>(.pointer (some ⟨g.2.2.2,0,none⟩)) | _=>undef) [7,8,9,10,11] (0,undef,0,0) (fun _=>Y) h hJ Yo Y Y Y Y (fun b g p hp=>(List.mem_append_right _ (List.mem_append_right _ (List.mem_append_right _ hp)))) ⟨?_,?_,?_,?_,?_,?_,?_,?_,?_,?_,?_,?_,U⟩ ⟨?e9_1_0,?e9_1_1,?e9_1_2,?e9_1_3,?e9_1_4,U⟩ ⟨.old 0 9 _,.eff 3 10 12 (fun(g:Nat×Value×Nat×Nat)=>(.pointer (some ⟨g.2.2.2,0,none⟩))) Y Y (fun _=>Y) (fun _=>True.intro),U⟩ ?n9_1
    exact oX Y fun hx hl=>QG ZhD Y (hl.env 2 3 _ Y Y) nlr hx
    exact oX Y fun hx hl=>ZV Y (hl.env 1 1 _ Y Y) hx
    exact oX Y fun hx hl=>QG Z5 Y (hl.env 3 5 _ Y Y) nlr hx
    exact oX Y fun hx hl=>ZV Y (hl.env 0 9 _ Y Y) hx
    exact oX Y fun hx hl=>QG Z5 Y (hl.env 3 5 _ Y Y) nlr hx
    exact oY Y fun hk hx hl=>ZaL (Zlw hJ ss (by exact hok)) ZqS Y (Zk hS _ hk hx) (hx.1) (Za (hl.D 4 42 Y Y) Zc) (jo hJ hx)
    exact oY Y fun hk hx hl=>ZaL (Zwd hJ (Y8 ss)) ZxB Y (Zk hS _ hk hx) (hx.1) (Za (hl.D 5 43 Y Y) Zc) (jo hJ hx)
    exact Zh Y
    exact Zh Y
    exact Zh Y
    exact Zh Y
    exact Zh Y
    case e9_1_0=>exact Zhe [[false,false,false,false,false],[false,false,false,true,false]] V Y Y Y Y ⟨fun g _ w hk hx _ _=>Zl (d_map keyS (fun z':Int=>AV.int z') hJ Y hk hx) fun v w' ⟨b',hv,hp⟩=>⟨(b',g.2.1,g.2.2.1,g.2.2.2),(fun k' hk'=>by rcases k' with _ | _ | _ | _ | _ | k'<;>first | rfl | cases hk'),fun _=>hv,True.intro,hp⟩,fun g _ w hk hx _ _=>Zl (d_map keyS (fun z':Int=>AV.int z') hJ rfl hk hx) fun v w' ⟨b',hv,hp⟩=>⟨(b',g.2.1,g.2.2.1,g.2.2.2),(fun k' hk'=>by rcases k' with _ | _ | _ | _ | _ | k'<;>first | rfl | cases hk'),fun _=>hv,True.intro,XT (.refl _) (YX (A:=[OB.var g.2.2.2 [.lit (.pointer none)]])).symm hp⟩,U⟩
    case e9_1_1=>exact Zhe [[true,false,false,false,false],[true,false,false,true,false]] V Y Y Y Y ⟨fun g _ w hk hx hl hs=>Zl (Zl6 (cs:=[Zg d.consts,Zg d.vars,ZaU d.frames,lI (z.toNat:Int),Yv ss,Yc ((Yq d z ss).1),lI ((Zfg (Y8 ss):Nat):Int),.lit (.map (some g.1))]) hk (Zlr Zjd Y (hl.D 0 38 Y Y) (hl.D 1 39 Y Y) (hl.D 2 40 Y Y) (hl.D 3 41 Y Y) (hl.D 6 44 Y Y) (hs 0 7 _ 45 Y Y Y Y) hx)) fun v w' hp=>⟨(g.1,v,g.2.2.1,g.2.2.2),(fun k' hk'=>by rcases k' with _ | _ | _ | _ | _ | k'<;>first | rfl | cases hk'),fun _=>rfl,True.intro,hp⟩,fun g _ w hk hx hl hs=>Zl (Zl6 (cs:=[Zg d.consts,Zg d.vars,ZaU d.frames,lI (z.toNat:Int),Yv ss,Yc ((Yq d z ss).1),lI ((Zfg (Y8 ss):Nat):Int),.lit (.map (some g.1))]) hk (Zlr Zjd Y (hl.D 0 38 Y Y) (hl.D 1 39 Y Y) (hl.D 2 40 Y Y) (hl.D 3 41 Y Y) (hl.D 6 44 Y Y) (hs 0 7 _ 45 Y Y Y Y) hx)) fun v w' hp=>⟨(g.1,v,g.2.2.1,g.2.2.2),(fun k' hk'=>by rcases k' with _ | _ | _ | _ | _ | k'<;>first | rfl | cases hk'),fun _=>rfl,True.intro,XT (.refl _) (YX (A:=[OB.var g.2.2.2 [.lit (.pointer none)]])).symm hp⟩,U⟩
    case e9_1_2=>exact Zhe [[true,true,false,false,false],[true,true,false,true,false]] V Y Y Y Y ⟨fun g _ w hk hx _ hs=>Zl (Zva (cs:=[Zg d.consts,Zg d.vars,ZaU d.frames,lI (z.toNat:Int),Yv ss,Yc ((Yq d z ss).1),lI ((Zfg (Y8 ss):Nat):Int),.lit (.map (some g.1))]) hJ Y (hs 1 8 _ 46 Y Y Y Y) hk hx) fun v w' ⟨b',hv,hp⟩=>⟨(g.1,g.2.1,b',g.2.2.2),(fun k' hk'=>by rcases k' with _ | _ | _ | _ | _ | k'<;>first | rfl | cases hk'),fun _=>hv,True.intro,hp⟩,fun g _ w hk hx _ hs=>Zl (Zva (cs:=[Zg d.consts,Zg d.vars,ZaU d.frames,lI (z.toNat:Int),Yv ss,Yc ((Yq d z ss).1),lI ((Zfg (Y8 ss):Nat):Int),.lit (.map (some g.1))]) hJ Y (hs 1 8 _ 46 Y Y Y Y) hk (YK (YX (A:=[OB.var g.2.2.2 [.lit (.pointer none)]])) hx)) fun v w' ⟨b',hv,hp⟩=>⟨(g.1,g.2.1,b',g.2.2.2),(fun k' hk'=>by rcases k' with _ | _ | _ | _ | _ | k'<;>first | rfl | cases hk'),fun _=>hv,True.intro,XT (YX (A:=[OB.var g.2.2.2 [.lit (.pointer none)]])).symm (YX (A:=[OB.var g.2.2.2 [.lit (.pointer none)]])).symm hp⟩,U⟩
    case e9_1_3=>exact Zhe [[false,false,false,false,false],[true,false,false,false,false],[true,true,false,false,false],[true,true,true,false,false]] V Y Y Y Y ⟨fun g _ w hk hx _ _=>Zl (Qs Zco hJ Y hk hx) fun v w' ⟨b',hv,hp⟩=>⟨(g.1,g.2.1,g.2.2.1,b'),(fun k' hk'=>by rcases k' with _ | _ | _ | _ | _ | k'<;>first | rfl | cases hk'),fun _=>hv,True.intro,hp⟩,fun g _ w hk hx _ _=>Zl (Qs Zco hJ rfl hk hx) fun v w' ⟨b',hv,hp⟩=>⟨(g.1,g.2.1,g.2.2.1,b'),(fun k' hk'=>by rcases k' with _ | _ | _ | _ | _ | k'<;>first | rfl | cases hk'),fun _=>hv,True.intro,hp⟩,fun g _ w hk hx _ _=>Zl (Qs Zco hJ rfl hk hx) fun v w' ⟨b',hv,hp⟩=>⟨(g.1,g.2.1,g.2.2.1,b'),(fun k' hk'=>by rcases k' with _ | _ | _ | _ | _ | k'<;>first | rfl | cases hk'),fun _=>hv,True.intro,hp⟩,fun g _ w hk hx _ _=>Zl (Qs Zco hJ rfl hk hx) fun v w' ⟨b',hv,hp⟩=>⟨(g.1,g.2.1,g.2.2.1,b'),(fun k' hk'=>by rcases k' with _ | _ | _ | _ | _ | k'<;>first | rfl | cases hk'),fun _=>hv,True.intro,hp⟩,U⟩
    case e9_1_4=>exact Zhe [[true,true,true,true,false]] V Y Y Y Y ⟨fun g _ w hk hx _ hs=>Zl (ZcS (S':=S) (off:=0) (es:=[_]) (c:=.lit (.pointer (some ⟨g.2.2.1,0,none⟩))) hJ hJ0 Zox Y hk hx (ZcA (hs 3 10 _ 12 Y Y Y Y)) (by rw[(hs 2 9 _ 47 Y Y Y Y)];exact Rel.of_lit _) (lb Y) Y) fun v w' hp=>⟨g,fun _ _=>rfl,fun e=>(by cases e),True.intro,hp⟩,U⟩
    clear a w h
    rintro⟨m2,x3,b4,b5⟩
    dsimp only[List.map]
    refine ZdV ?_
    refine lnA 0 fun hl2=>?_
    refine Zrc ?_
    refine Xr (m:=5) ?_
    refine YU tb hJ [1,1001] [_,.fn 90 [.ptr [Yc ((Yq d z ss).1)]]] [1] U2 Y ⟨iFo hS hJ (Zsj hJ ((Yq d z ss).1)) ZxA,U⟩ ?_
    refine ZdV ?_
    refine Zfr ?_
    refine atw (fun h=>XC (p:=(([])=ZaX (Yq d z ss).1 ([]:List (Nat×List BA)).length)) (Y) h) ?_
    refine Zlm (m:=5) (κ:=(List (BA×Int))) (μ:=Empty) (σ:=Empty) (Zpk hJ (Yq d z ss).1 oz) Zxq hJ hS hJ0 Zq (fun pre (L:(List (BA×Int)))=>[OB.fct (L=ZaX (Yq d z ss).1 pre.length),OB.var b5 [.lit (.pointer (some ⟨b4,0,none⟩))],OB.var b4 [Zg d.consts,Zg d.vars,ZaU d.frames,lI (z.toNat:Int),Yv ss,Yc ((Yq d z ss).1),lI ((Zfg (Y8 ss):Nat):Int),.lit (.map (some m2))],OB.mI m2 L]) (fun q':Empty=>undef) (fun q'=>[]) (fun s'=>[]) ([]) (fun x9=>[(12,.at b5 0),(13,.int (x9.1:Nat)),(14,.rd (Zg x9.2))]) (lb Y) (lb Y) Tryz.func32 ?_ ?_ ?_ ?_ ?_ ?_ ?_
    · exact fun a w h=>Zew (h.get 1 Y)
    ·
     rintro m9 l9 R' pre x9 L K9 hK9
     refine qso tb hJ [0,2,1000] [_] U3 ?_
     refine ln 0 fun hl3=>?_
     refine qpo tb hJ [1,2,1000] [_] U3 ?_
     exact hK9
    ·
     rintro m9 l9 R' pre x9 L hpre
     refine ZhV fun hF=>?_
     have r1_:L=ZaX (Yq d z ss).1 pre.length:=hF
     have hfs:=Zs5 hpre
     refine ln 2 fun hl4=>?_
     refine Zd (tw pm2 (fun a w h=>YH (γ:=Unit) (fun ix'=>([.at b4 0,.at b4 0,.at b4 7,.lit (.map (some m2)),.rd (Zg x9.2),.str (XB x9.2),.int (x9.1:Nat),.any]:List AV).getD ix' .any) (fun _=>true) [(12,fun _=>.at b5 0)] (fun j' _=>match j' with | 0=>(OB.mI m2 L::OB.var b5 [.lit (.pointer (some ⟨b4,0,none⟩))]::OB.var b4 [Zg d.consts,Zg d.vars,ZaU d.frames,lI (z.toNat:Int),Yv ss,Yc ((Yq d z ss).1),lI ((Zfg (Y8 ss):Nat):Int),.lit (.map (some m2))]::R') | _=>(OB.mI m2 (XK L (XB x9.2) (x9.1:Int))::OB.var b5 [.lit (.pointer (some ⟨b4,0,none⟩))]::OB.var b4 [Zg d.consts,Zg d.vars,ZaU d.frames,lI (z.toNat:Int),Yv ss,Yc ((Yq d z ss).1),lI ((Zfg (Y8 ss):Nat):Int),.lit (.map (some m2))]::R')) (fun _ _=>undef) [7] 0 () (fun _=>Y) h hJ Yo Y Y Y Y Y Y hsb ⟨?_,?_,?_,?_,?_,?_,?_,?_,U⟩ ⟨?e13_2_0,U⟩ ⟨.old 0 12 _,U⟩ ?n13_2))
     exact fun _ O' hO'=>⟨Y,fun _ _ _ hx hl _=>Zo ZlE Y (Ze hx (hO' _ (mo 1 Y))) (hl.env 0 12 _ Y Y) Y hx⟩
     exact oX Y fun hx hl=>Z9 Y (hl.D 0 52 Y Y) hx
     exact oX Y fun hx hl=>Zx Znw Y (hl.D 1 53 Y Y) hx
     exact fun _ O' hO'=>⟨Y,fun _ _ _ hx hl _=>Zo one_90 Y (Ze hx (hO' _ (mo 2 Y))) (hl.D 2 54 Y Y) Y hx⟩
     exact oX Y fun hx hl=>ZV Y (hl.env 2 14 _ Y Y) hx
     exact oY Y fun hk hx hl=>ZaL (Zr2 hJ x9.2 (by exact(hts.2 _ hfs.2.2).1.2) (by exact(hts.2 _ hfs.2.2).2)) Zhl Y (Zk hS _ hk hx) (hx.1) (Za (hl.D 4 56 Y Y) Zc) (jo hJ hx)
     exact oX Y fun hx hl=>ZV Y (hl.env 1 13 _ Y Y) hx
     exact Zh Y
     case e13_2_0=>exact⟨_,Y,Y,Y,Y,fun g _ w hk hx hl _=>Zl (Zkr (f:=(fun z':Int=>AV.int z')) Zbc hJ hJ0 (XB x9.2) (x9.1:Int) (.inl Y) hk hx (hl.D 3 55 Y Y) (hl.D 5 57 Y Y) (hl.D 6 58 Y Y)) fun v w' ⟨_,hp⟩=>⟨g,Y,fun _ _=>rfl,fun e=>(by cases e),hp⟩⟩
     clear a w h
     intro _
     dsimp only[List.map]
     refine kw pm2 (kw pm2 ?_)
     exact kw (fun h=>XC (p:=((XK L (XB x9.2) (x9.1:Int))=ZaX (Yq d z ss).1 (pre++[x9]).length)) (by rw[hfs.2.1,←r1_]) h) (fun a w h=>⟨(XK L (XB x9.2) (x9.1:Int)),h.keep,h.x⟩)
    ·
     rintro hfl L D
     refine kw pm1 (ZhY fun hF=>?_)
     have r1_:L=ZaX (Yq d z ss).1 (ZfD (Yq d z ss).1).length:=hF
     refine Zwt (m:=5) ?_
     refine Zgo ?_
     refine Zb8 ?_
     refine sy (.at b4 0) (fun h=>Zo ZlE Y (Ze h.x (mo 1 Y)) (h.get 0 Y) Y h.x) ?_
     refine snK 2 tb Y (seK [0,1] U2 Y ?_)
     refine nxD ?_
     refine Zqs ?_
     refine outD hJ hJ0 ?_
     refine kw pm1 (kw (fun h=>ZP hS h (m:=1) (s:=6) Y) ?_)
     refine kw Zz (kw (ob0 (congrArg (fun z'=>OB.mI m2 (z')) (show L=(ZaX (Yq d z ss).1 (Yq d z ss).1.length)from by rw[r1_,Zja]))) ?_)
     exact fun a w h=>ZwF  (m:=0) (k:=1) m2 Y h Y Y (tup2 (show(.ptr [Zg d.consts,Zg d.vars,ZaU d.frames,lI (z.toNat:Int),Yv ss,Yc ((Yq d z ss).1),lI ((Zfg (Y8 ss):Nat):Int),.lit (.map (some m2))]:AV)= .ptr [Zg d.consts,Zg d.vars,ZaU d.frames,lI (z.toNat:Int),Yv ss,Yc ((Yq d z ss).1),lI (((Yh ss):Nat):Int),.lit (.map (some m2))]from by rfl) (eI (by rfl)))
    · exact fun s=>s.elim
    · exact fun v h=>by cases h
    · exact fun q=>q.elim
theorem Zpj (d:Db) (z:Int) (ss:List Stp) (step:Nat) (hw:∀ f∈d.frames,f.wide.length*32≤140737488351232) (hG:Xm J) (hr:ZD d z ss=0) (h16:ss.length≤16) (hf16:d.frames.length≤16) (hs:step<ss.length):Fn prog J 15 [.agg (dbC d),.int z,.agg (pfC ss),.int (step:Nat)] (.tup [.rd (Zfi (Zd4 (jbG d z ss) step)),.int 0]):=by
 refine fE Tryz.func15 fun S w0 hS hJ0=>?_
 refine tw Z4 (ZF tb hJ [1,3,1000,1001] [.ptr (dbC d),.ptr (pfC ss),_,_] [0,1] U4 Y ⟨iBo hS hJ,iBo hS hJ,U⟩ ?_)
 refine tsq (snK 3 tb (env':=[(15,_),(14,_),(13,_),(1,_),(3,_),(4,_),(6,_)]) Y (QK (O:=[]) (R:=[]) (ZeB hJ d z ss (by exact hw) (by exact hG) (by exact hr)) Zbi Y Y Y (lb Y) hS hJ0 Zq (fun a w h=>(Za (h.get 2 Y) (Za (h.get 1 Y) (Za (h.get 0 Y) Zc)))) fun z1=>?_))
 refine snK 5 tb (env':=[(11,_),(10,_),(18,_),(17,_),(12,_),(16,_),(15,_),(14,_),(13,_),(1,_),(3,_),(4,_),(6,_)]) Y (seK [0,1,10,12] U4 Y ?_)
 refine nx (Zf (qso tb hJ [0,1,2,3,1001] U2 U5 ?_))
 refine cj 4 (fun hb1=>?_) fun hb1=>?_
 ·
  exact False.elim (by simp at hb1)
 ·
  refine Zb (nx (Zf (ZF tb hJ [1,2,1008] (V6 [.int (ss.length:Nat),_,_]) [6] U3 Y ⟨Ym ZN,U⟩ ?_)))
  refine cj 2 (fun hb2=>?_) fun hb2=>?_
  ·
   exact False.elim (by simp at hb2;omega)
  ·
   refine Zb (nx (ZF tb hJ [1002,1003,1004] [_,_,.rd (Zfi (Zd4 (⟨d,z.toNat,ss,((Yq d z ss).1),(ZaX (Yq d z ss).1 (Yq d z ss).1.length)⟩:Jb) step)),_,_] [2] U3 Y ⟨fun _ _ hk hx hl _=>Y3 (Zf4 hJ d z.toNat ss ((Yq d z ss).1) z1 (ZaX (Yq d z ss).1 (Yq d z ss).1.length) step (by exact Zg6 hr h16 hf16 hw) (by exact hs)) ZqV Y (Zk hS _ hk hx) (hx.1) (ZH (Ze hx (mo 0 Y)) Zq) (Za (hl.D 0 31 Y Y) (Za (hl.D 1 32 Y Y) Zc)) (jo hJ hx),U⟩ ?_))
   refine ln 0 fun hl1=>?_
   exact Zs (fun a w h=>Yz (m:=1) (k:=2) Y (ZY h) Y Y (congrArg (fun z=>AV.rd (Zfi z)) (show(Zd4 (⟨d,z.toNat,ss,((Yq d z ss).1),(ZaX (Yq d z ss).1 (Yq d z ss).1.length)⟩:Jb) step)=(Zd4 (jbG d z ss) step)from by rfl)) (eI (by rfl)))
end
end Go.Proofs.YtdfadihhfppjaaaGreatDoor
namespace Go.Proofs.YtdfadihhfppjaaaGreatDoor
def ZhJ (x y:Int):Int:=if x<y then-1 else if y<x then 1 else 0
def cmpC (a b:Chg):Int:=orI [ZhJ a.after b.after,ZhJ a.step b.step]
theorem ZqD {a b:Chg}:decide (cmpC a b<0)=ltK a b:=by
 unfold cmpC ZhJ ltK orI
 by_cases h1:a.after<b.after
 · simp[h1]
 · by_cases h2:b.after<a.after
   · have:¬ a.after=b.after:=by omega
     simp[h1,h2,this]
   · have h3:a.after=b.after:=by omega
     by_cases h4:a.step<b.step
     · simp[h3,h4]
     · by_cases h5:b.step<a.step
       · simp[h3,h4,h5]
       · simp[h3,h4,h5]
def Ys:List Chg→Chg×Bool
 | []=>(⟨0,0,⟨#[]⟩,[],0,0⟩,false)
 | c::cs=>(Xd c cs,true)
theorem ZeT:∀(l:List Chg) (c x:Chg),Xd c (l++[x])=if ltK x (Xd c l)then x else Xd c l
 | [],c,x=>rfl
 | y::l,c,x=>by rw[List.cons_append,Xd,ZeT l,Xd]
def Zsz (xs:List Chg) (k:Nat):Chg:=Xd (ge xs 0) ((xs.take k).drop 1)
section
variable {xs:List Chg} {k:Nat}
theorem lstP_one:Zsz xs 1=ge xs 0:=by
 unfold Zsz
 rw[List.drop_eq_nil_of_le (by rw[List.length_take];omega),Xd]
theorem ZiD (h1:1≤k) (h:k<xs.length):Zsz xs (k+1)=if ltK (ge xs k) (Zsz xs k)then ge xs k else Zsz xs k:=by
 unfold Zsz
 rw[List.take_add_one,List.getElem?_eq_getElem h,←Yj h,List.drop_append_of_le_length (by rw[List.length_take];omega)]
 exact ZeT _ _ _
theorem Zg3 (h:1≤xs.length):Zsz xs xs.length=(Ys xs).1∧(Ys xs).2=true:=by
 cases xs with
 | nil=>simp at h
 | cons c cs=>
  unfold Zsz
  rw[List.take_length]
  exact⟨rfl,rfl⟩
end
end Go.Proofs.YtdfadihhfppjaaaGreatDoor
set_option maxHeartbeats 8000000
set_option maxRecDepth 100000
namespace Go.Proofs.YtdfadihhfppjaaaGreatDoor
open Go.Proofs.Tryz (prog)
open Go.RowKit
theorem ZqO:Zi prog 78:=Zm Tryz.func78 Y Y
theorem ZqU:Zi prog 45:=Zm Tryz.func45 Y Y
theorem ZxG:Zi prog 43:=Zm Tryz.func43 Y Y
theorem YP:prog.underlying 42=some (.slice 37):=by kernel_rfl
theorem Zxx:Zi prog 77:=Zm Tryz.func77 Y Y
section
variable {J:WP} (hJ:Stab J)
include hJ
theorem Zlx (x:Int)  :Fn prog J 78 [.int x] (.bool false):=by
 refine fE Tryz.func78 fun S w0 hS hJ0=>?_
 clear hJ0
 refine qs tb hJ [0] [_] [_] ?_
 refine qs tb hJ [1003] U4 [_] ?_
 exact tRn 0 (hE:=eB yz)
theorem ZuP (x y:Int)  :Fn prog J 45 [.int x,.int y] (.int (ZhJ x y)):=by
 refine fE Tryz.func45 fun S w0 hS hJ0=>?_
 clear hJ0
 refine qs tb hJ [0,1] [_] U2 ?_
 refine hqs tb hJ [0,1,1002] [_,.bool false,_] [1] U3 Y ⟨iFn hS hJ (Zlx hJ x) ZqO,U⟩ ?_
 refine hqs tb hJ [0,1,2,1002] [_,.bool false,_] [1] U4 Y ⟨iFn hS hJ (Zlx hJ y) ZqO,U⟩ ?_
 refine Zf (qs tb hJ [0,1,3,1000] [_] U4 ?_)
 refine cj 3 (fun hb1=>?_) fun hb1=>?_
 ·
  exact False.elim (by cases hb1)
 ·
  refine Zb (nx (Zf (qs tb hJ [0,1,1000] [_] U3 ?_)))
  refine cj 2 (fun hb3=>?_) fun hb3=>?_
  ·
   exact False.elim (by cases hb3)
  ·
   refine Zb (nx (Zf (qs tb hJ [0,1,1002] U3 U3 ?_)))
   refine cj 2 (fun hb4=>?_) fun hb4=>?_
   ·
    try simp at hb4
    refine qs tb hJ [1000] [_] [_] ?_
    exact tRn 0 (hE:=eI (by first | (simp_all[ZhJ];done) | grind[ZhJ]))
   ·
    try simp at hb4
    refine Zb (nx (Zf (qs tb hJ [1002] U3 [_] ?_)))
    refine cj 0 (fun hb5=>?_) fun hb5=>?_
    ·
     try simp at hb5
     refine qs tb hJ [1000] [_] [_] ?_
     exact tRn 0 (hE:=eI (by first | (simp_all[ZhJ];done) | grind[ZhJ]))
    ·
     try simp at hb5
     refine Zb (nx (qs tb hJ [1000] [_] [_] ?_))
     exact tRn 0 (hE:=eI (by first | (simp_all[ZhJ];done) | grind[ZhJ]))
theorem Zv9 (a':Chg) (b':Chg)  :Fn prog J 43 [.agg (chC (a')),.agg (chC (b'))] (.int (cmpC a' b')):=by
 refine fE Tryz.func43 fun S w0 hS hJ0=>?_
 clear hJ0
 refine hqs tb hJ [1000,1001] [.ptr (chC (a')),.ptr (chC (b')),_] [0,1] U2 Y ⟨iBs hS hJ,iBs hS hJ,U⟩ ?_
 refine hqs tb hJ [1010,1012] (V4 [.int (ZhJ ((a').after) ((b').after)),_,_,_,_,.int (ZhJ ((a').step) ((b').step)),.rd (Z3 ([ZhJ ((a').after) ((b').after),ZhJ ((a').step) ((b').step)]:List Int)),.int (orI ([ZhJ ((a').after) ((b').after),ZhJ ((a').step) ((b').step)]:List Int)),_]) [4,9,10,11] U2 Y ⟨iFn hS hJ (ZuP hJ ((a').after) ((b').after)) ZqU,iFn hS hJ (ZuP hJ ((a').step) ((b').step)) ZqU,fun a _ hk hx hl _=>Zan (k:=2) (us:=[a.eval (.tmp 9),a.eval (.tmp 14)]) Zw Zec Y yz (Zt (hl.D 4 9 Y Y) (Zt (hl.D 9 14 Y Y) Z0)) Y dz dz (hS _ hk.size) (js hJ hx),iFn hS hJ (p_OrI hJ ([ZhJ ((a').after) ((b').after),ZhJ ((a').step) ((b').step)]:List Int)) ZkC,U⟩ ?_
 refine ln 0 fun hl1=>?_
 exact tRn 1 (hE:=eI (Y))
theorem Zph (xs:List Chg) (hx1:1≤xs.length):Fn prog J 77 [.rd (Zfi xs),.fn 43 []] (.agg (chC ((Ys xs).1))):=by
 refine fE Tryz.func77 fun S w0 hS hJ0=>?_
 refine tw Z4 (ln 0 fun hl1=>?_)
 refine tsq (Zv Y0 hJ Y Y Y (lb Y) fun b1=>?_)
 refine seK [0,1,2] U3 Y (nx (Zf (ZF tb hJ [0,1,2,1002] [_,.int (xs.length:Nat),_] [1] U4 Y ⟨Ym YP,U⟩ ?_)))
 refine cj 3 (fun hb1=>?_) fun hb1=>?_
 ·
  try simp at hb1
  exact False.elim oz
 ·
  try simp at hb1
  refine Zb (nx (tsq (snK 1 tb Y (sy (.ptr (chC (ge xs 0))) (fun h=>ZM (i:=((0:Nat):Int)) YO Y (h.get 0 Y) (Rel.of_lit (.int .i64 0)) nnn (ZT (xs:=xs) (k:=0) sfz) Y h.x) ?_))))
  refine snK 1 tb Y (Zv Y0 hJ Y Y Y (lb Y) fun b2=>?_)
  refine Zn (b:=b2) (off:=0) (es:=U6) (news:=U6) hJ hJ0 Qb Y Y Y (lb Y) Y (fun a w h=>⟨(h.get 0 Y),(h.get 1 Y)⟩) ?_
  refine seK [0,4,5,6] U4 Y (nx (Zf (qso tb hJ [0,1,2,3,1000] [_] U5 ?_)))
  refine Zd (lpo (ι:=Nat×Chg) (fun(k,cm)=>(1≤k)∧(k≤xs.length)∧(cm=Zsz xs k)) (fun(_,cm)=>[OB.var b2 (chC cm),OB.var b1 [lI 0,lI 0,lS (⟨#[]⟩:BA),Z3 ([]:List Int),lI 0,lI 0]]) (fun(k,_)=>[(6,.int (k:Nat))]) (fun(k,_)=>xs.length-k) (r5 []) U4 (1,(ge xs 0)) ⟨Nat.le_refl _,hx1,lstP_one.symm⟩ ?_)
  rintro⟨k,cm⟩ ⟨f1_1,f1_2,f1_3⟩
  refine Zf (ZF tb hJ (r5 [1003]) [_,_,.int (xs.length:Nat),_] [2] U6 Y ⟨Ym YP,U⟩ ?_)
  refine cj 5 (fun hb2=>?_) fun hb2=>?_
  ·
   try simp at hb2
   refine Zb (nx (Zf (Zd (ZF tb hJ (r5 [1007]) (V3 [.ptr (chC (ge xs k)),_,.agg (chC cm),.int (cmpC (ge xs k) cm),_]) [3,5,6] U6 Y ⟨iIx YO,fun _ _ _ hx hl _=>Yb (ds:=[lI cm.reason,lI cm.step,lS cm.label,Z3 cm.args,lI cm.before,lI cm.after]) Qh Y (Ze hx (mo 0 Y)) (hl.env 0 5 _ Y Y) Y Y hx,fun _ _ hk hx hl _=>Zax ((Zv9 hJ (ge xs k) cm).rr) ZxG Y (hl.D 0 20 Y Y) (Zk hS _ hk hx) (hx.1) Zq (Za (hl.D 4 24 Y Y) (Za (hl.D 5 25 Y Y) Zc)) (jo hJ hx),U⟩ ?_))))
   refine cj 5 (fun hb3=>?_) fun hb3=>?_
   ·
    try simp at hb3
    refine ZO (snK 2 tb Y (sy (.ptr (chC (ge xs k))) (fun h=>ZM (i:=(k:Int)) YO Y (h.get 1 Y) (h.get 0 Y) nnn (ZT (xs:=xs) (k:=k) sfz) Y h.x) ?_))
    refine snK 1 tb Y (Zn (b:=b2) (off:=0) (es:=U6) (news:=U6) hJ hJ0 Qb Y Y Y (lb Y) Y (fun a w h=>⟨(h.get 4 Y),(h.get 0 Y)⟩) ?_)
    refine seK [4,5,6,7,8] U5 Y (nx (YU tb hJ [0,1,2,3,1002] [_,.int (k+1:Nat),_] [1] U5 Y ⟨YT,U⟩ ?_))
    exact Xk ((k+1),(ge xs k)) (r5 []) ⟨oz,oz,by rw[ZiD f1_1 oz,←ZqD,←f1_3];first | rw[if_pos (decide_eq_true hb3)] | rw[if_neg (by simp;omega)]⟩
   ·
    try simp at hb3
    refine Zb (nx (YU tb hJ [0,1,2,3,1002] [_,.int (k+1:Nat),_] [1] U5 Y ⟨YT,U⟩ ?_))
    exact Xk ((k+1),cm) (r5 []) ⟨oz,oz,by rw[ZiD f1_1 oz,←ZqD,←f1_3];first | rw[if_pos (decide_eq_true hb3)] | rw[if_neg (by simp;omega)]⟩
  ·
   try simp at hb2
   refine Zu (nx (tsq (sy (.agg (chC cm)) (fun h=>Yb (ds:=[lI cm.reason,lI cm.step,lS cm.label,Z3 cm.args,lI cm.before,lI cm.after]) Qh Y (Ze h.x (mo 0 Y)) (h.get 0 Y) Y Y h.x) ?_)))
   refine kw pm1 (Zn (b:=b1) (off:=0) (es:=U6) (news:=U6) hJ hJ0 Qb Y Y Y (lb Y) Y (fun a w h=>⟨(h.get 2 Y),(h.get 0 Y)⟩) ?_)
   exact seK [2] [_] Y (nx (Zs (fun a w h=>Zb7 (m:=0) Y Qh h Y Y (show(_:List CD)=[lI (((Ys xs).1).reason),lI (((Ys xs).1).step),lS (((Ys xs).1).label),Z3 (((Ys xs).1).args),lI (((Ys xs).1).before),lI (((Ys xs).1).after)]from by(rw[←(Zg3 hx1).1,f1_3,show k=xs.length by omega])<;>rfl))))
theorem p_best (xs:List Chg)  :Fn prog J 42 [.rd (Zfi xs),.fn 43 []] (.tup [.agg (chC ((Ys xs).1)),.bool ((Ys xs).2)]):=by
 refine fE Tryz.func42 fun S w0 hS hJ0=>?_
 refine tw Z4 (ln 0 fun hl1=>?_)
 refine tsq (Zv Y0 hJ Y Y Y (lb Y) fun b1=>?_)
 refine snK 1 tb Y (seK [1,2,3] U3 Y ?_)
 refine nx (tsq (Zv Y0 hJ Y Y Y (lb Y) fun b2=>?_))
 refine seK [0,1,2,3] U4 Y (nx (Zf (ZF tb hJ [0,1,2,3,1002] [_,.int (xs.length:Nat),_] [1] U5 Y ⟨Ym YP,U⟩ ?_)))
 refine cj 4 (fun hb1=>?_) fun hb1=>?_
 ·
  try simp at hb1
  have eb:Ys xs=(⟨0,0,⟨#[]⟩,[],0,0⟩,false):=by rw[hb1];rfl
  refine tsq (sy (.agg [lI 0,lI 0,lS (⟨#[]⟩:BA),Z3 ([]:List Int),lI 0,lI 0]) (fun h=>Yb (ds:=[lI 0,lI 0,lS (⟨#[]⟩:BA),Z3 ([]:List Int),lI 0,lI 0]) Qh Y (Ze h.x (mo 0 Y)) (h.get 0 Y) Y Y h.x) ?_)
  refine kw pm1 (Zn (b:=b1) (off:=0) (es:=U6) (news:=U6) hJ hJ0 Qb Y Y Y (lb Y) Y (fun a w h=>⟨(h.get 2 Y),(h.get 0 Y)⟩) ?_)
  refine snK 1 tb Y (seK [0,3] U2 Y ?_)
  exact nx (Zs (fun a w h=>Zay (m:=1) (q:=0) Y Qh h Y Y (show(_:List CD)=[lI (((Ys xs).1).reason),lI (((Ys xs).1).step),lS (((Ys xs).1).label),Z3 (((Ys xs).1).args),lI (((Ys xs).1).before),lI (((Ys xs).1).after)]from by(first | rw[eb] | rfl)<;>rfl) Y (eB (by first | (rw[eb];done) | exact(Zg3 hx1).2.symm))))
 ·
  try simp at hb1
  have hx1:1≤xs.length:=by cases xs with | nil=>exact absurd rfl hb1 | cons=>simp
  refine Zb (nx (tsq (snK 2 tb Y (sy (.agg (chC ((Ys xs).1))) (fun h=>ZaL (Zph hJ xs (by exact hx1)) Zxx Y (Zk hS _ h.keep h.x) (h.x.1) (Za (h.get 1 Y) (Za (h.get 0 Y) Zc)) (jo hJ h.x)) ?_))))
  refine kw pm1 (Zn (b:=b1) (off:=0) (es:=U6) (news:=U6) hJ hJ0 Qb Y Y Y (lb Y) Y (fun a w h=>⟨(h.get 4 Y),(h.get 0 Y)⟩) ?_)
  refine snK 1 tb Y (seK [0,5] U2 Y ?_)
  exact nx (Zs (fun a w h=>Zay (m:=1) (q:=0) Y Qh h Y Y (show(_:List CD)=[lI (((Ys xs).1).reason),lI (((Ys xs).1).step),lS (((Ys xs).1).label),Z3 (((Ys xs).1).args),lI (((Ys xs).1).before),lI (((Ys xs).1).after)]from by(first | rw[eb] | rfl)<;>rfl) Y (eB (by first | (rw[eb];done) | exact(Zg3 hx1).2.symm))))
end
end Go.Proofs.YtdfadihhfppjaaaGreatDoor
namespace Go.Proofs.YtdfadihhfppjaaaGreatDoor
section
variable {j:Jb} {step:Nat} {c:Chg}
theorem Ztm (h:JobW j) (hs:step<j.ss.length) (hc:c∈Zd4 j step):c.step=(step:Int)∧(∀ a∈c.args,0≤a∧a<c.step)∧c.args.length≤40∧(c.reason=2∨1≤c.args.length):=by
 obtain⟨c0,h0,hg⟩:=List.mem_filterMap.1 hc
 have e:c=X3 j.ss c0:=by
  unfold XW at hg
  split at hg
  · exact(Option.some.inj hg).symm
  · cases hg
 have key:c0.step=(step:Int)∧(∀ a∈c0.args,0≤a∧a<c0.step)∧c0.args.length≤40∧(c0.reason=2∨1≤c0.args.length):=by
  rcases List.mem_append.1 h0 with h0 | h0
  · unfold Zc9 at h0
    split at h0
    · rename_i hz
      obtain rfl:=List.mem_singleton.1 h0
      have hf:=h.fst hs
      refine⟨rfl,fun a ha=>?_,by simp,.inr yz⟩
      rw[List.mem_singleton.1 ha]
      exact⟨by rw[hf.2.2];exact hf.1,hz⟩
    · cases h0
  · obtain⟨g,_,h1⟩:=List.mem_flatMap.1 h0
    unfold Znt at h1
    split at h1
    · cases h1
    · rename_i hy
      obtain⟨al,ha,rfl⟩:=List.mem_map.1 h1
      obtain⟨_,h2,h3⟩:=Zd5 h.m0 ha
      exact⟨rfl,h3,by show al.length≤40;omega,.inl rfl⟩
 rw[e]
 exact key
theorem ZmB (h:JobW j) (hc:c∈Zb3 j):0≤c.step∧c.step< (j.ss.length:Int)∧(∀ a∈c.args,0≤a∧a<c.step)∧c.args.length≤40∧(c.reason=2∨1≤c.args.length):=by
 obtain⟨s,hs,h1⟩:=List.mem_flatMap.1 hc
 have hs:=List.mem_range.1 hs
 obtain⟨e,g2,g3,g4⟩:=Ztm h hs h1
 exact⟨by rw[e];exact Int.natCast_nonneg _,by rw[e];exact Int.ofNat_lt.2 hs,g2,g3,g4⟩
theorem ZqE (h:JobW j) (hs:step<j.ss.length):(Zd4 j step).length≤2000000:=
 ZqJ (j:=j) (step:=step) h.m0 (by have:=h.l16;omega) (q:=j.i) (by have:=h.hi;have:=h.f16;omega)
end
def Zx6 (j:Jb) (q:Nat):List Chg:=(List.range q).flatMap (Zd4 j)
theorem Zjq {j:Jb} {q:Nat}:Zx6 j (q+1)=Zx6 j q++Zd4 j q:=by
 unfold Zx6
 rw[List.range_succ,List.flatMap_append]
 simp
theorem ZmC {j:Jb} (h:JobW j):∀ q,q≤j.ss.length→(Zx6 j q).length≤q*2000000
 | 0,_=>by simp[Zx6]
 | q+1,hq=>by
  have h1:=ZmC h q oz
  have h2:=ZqE h (step:=q) oz
  rw[Zjq,List.length_append,Nat.add_mul]
  omega
theorem Zmw {xs:List Chg} (h:(Ys xs).2=true):(Ys xs).1∈xs:=by
 cases xs with
 | nil=>cases h
 | cons c cs=>
  show Xd c cs∈c::cs
  rcases ZaQ cs c with h | h<;>simp[h]
section
variable {R:List Stp→Int} {A:List Stp→List Chg} {k:Nat} {ss:List Stp} {l:List Chg}
theorem ml_end (h:(Ys (A ss)).2=false):Zb2 R A k ss l=(ss,l,0):=by
 cases k with
 | zero=>rfl
 | succ k=>
  rw[Zb2]
  cases e:A ss with
  | nil=>rfl
  | cons c cs=>rw[e]at h;cases h
theorem ml_ok (h:(Ys (A ss)).2=true) (h0:R (Y6 ss (Ys (A ss)).1)=0):Zb2 R A (k+1) ss l=Zb2 R A k (Y6 ss (Ys (A ss)).1) (l++[(Ys (A ss)).1]):=by
 rw[Zb2]
 cases e:A ss with
 | nil=>rw[e]at h;cases h
 | cons c cs=>
  rw[e]at h0
  exact if_pos h0
theorem ml_bad (h:(Ys (A ss)).2=true) (h0:¬ R (Y6 ss (Ys (A ss)).1)=0):Zb2 R A (k+1) ss l=([],[],R (Y6 ss (Ys (A ss)).1)):=by
 rw[Zb2]
 cases e:A ss with
 | nil=>rw[e]at h;cases h
 | cons c cs=>
  rw[e]at h0
  exact if_neg h0
end
end Go.Proofs.YtdfadihhfppjaaaGreatDoor
set_option maxHeartbeats 8000000
set_option maxRecDepth 100000
namespace Go.Proofs.YtdfadihhfppjaaaGreatDoor
open Go.RowKit
theorem Za0:ZdH Tryz.prog 28 [.slice none 0 0]:=⟨fun i=>(#[(0,1)]:Array (Nat×Nat))[i]?,fun j hj=>by rcases j with _ | j<;>first | rfl | (simp at hj;omega) | simp at hj,fun parts=>by kernel_rfl⟩
theorem ZxH:Zi Tryz.prog 42:=Zm Tryz.func42 Y Y
theorem ZrD {xs:List Stp} {k:Nat}:xs.set k (⟨(ge xs k).label,(ge xs k).args⟩:Stp)=xs:=by
 rcases Nat.lt_or_ge k xs.length with h | h
 · rw[show(⟨(ge xs k).label,(ge xs k).args⟩:Stp)=xs[k]from Yj h]
   exact List.set_getElem_self h
 · exact List.set_eq_of_length_le h
theorem Zj3 {J:WP} (hJ:Stab J) (d:Db) (z:Int) (ss:List Stp) (most:Nat) (hw:∀ f∈d.frames,f.wide.length*32≤140737488351232) (hG:Xm J) (hr:¬ ZD d z ss=0):Fn Tryz.prog J 14 [.agg (dbC d),.int z,.agg (pfC ss),.int (most:Nat)] (.tup [.agg (pfC ([]:List Stp)),.rd (Zfi ([]:List Chg)),.int (ZD d z ss)]):=by
 refine fE Tryz.func14 fun S w0 hS hJ0=>?_
 refine tw Z4 (tsq ?_)
 refine sy (.ptr (dbC d)) (fun h=>Q1 Y (h.get 0 Y) (Zk hS _ h.keep h.x _ nlr) (jo hJ h.x)) ?_
 refine sy (.ptr (pfC ss)) (fun h=>Q1 Y (h.get 3 Y) (Zk hS _ h.keep h.x _ nlr) (jo hJ h.x)) ?_
 refine Zv XS hJ Y Y Y (lb Y) fun b1=>?_
 refine snK 2 tb Y (seK [2,3,4,6,8] U5 Y ?_)
 refine nx (Zgz (ZF tb hJ (r5 [1007,1008]) (V3 [.tup [.rd (.lit (.pointer none)),.int (ZD d z ss)],_,_,_,_,_]) [3] U7 Y ⟨iFo hS hJ (ZdQ hJ d z ss (by exact hw) (by exact hG) (by exact hr)) Zbi,U⟩ ?_))
 refine Zf (qso tb hJ (r7 [1001]) U2 U8 ?_)
 refine cj 7 (fun hb1=>?_) fun hb1=>?_
 ·
  refine tsq (sy (.agg (pfC ([]:List Stp))) (fun h=>Y7 (ps:=[]) (us:=[.slice none 0 0]) Za0 Y yz Zjr Y (X1 (.nil _ _ nzl) Z0) h.x) ?_)
  refine snK 1 tb Y (Zn (b:=b1) (off:=0) (es:=[_]) (news:=[_]) hJ hJ0 Yt Y Y Y (lb Y) Y (fun a w h=>⟨(h.get 2 Y),(h.get 1 Y)⟩) ?_)
  refine snK 2 tb Y (seK [0,1,4] U3 Y ?_)
  exact nx (tw (fun h=>Xx h (m:=1) (s:=9) Y) (Zs (fun a w h=>ZdX (cs:=[Yv ([]:List Stp)]) (m:=2) (q:=1) (z:=0) Y Z5 h Y Y Y Y Y Y Y)))
 ·
  exact False.elim (hr (by simpa using hb1))
theorem Zj2 {J:WP} (hJ:Stab J) (d:Db) (z:Int) (ss:List Stp) (most:Nat) (hw:∀ f∈d.frames,f.wide.length*32≤140737488351232) (hG:Xm J) (hr:ZD d z ss=0) (h16:ss.length≤16) (hf16:d.frames.length≤16) (hm:most≤300):Fn Tryz.prog J 14 [.agg (dbC d),.int z,.agg (pfC ss),.int (most:Nat)] (.tup [.agg (pfC ((Y5 d z ss most).1)),.rd (Zfi ((Y5 d z ss most).2.1)),.int ((Y5 d z ss most).2.2)]):=by
 refine fE Tryz.func14 fun S w0 hS hJ0=>?_
 refine tw Z4 ?_
 have hok:=(ZfB hr).2
 have hl0:=hok.1
 have hl1:=hok.2.1
 refine tsq (sy (.ptr (dbC d)) (fun h=>Q1 Y (h.get 0 Y) (Zk hS _ h.keep h.x _ nlr) (jo hJ h.x)) ?_)
 refine Zcf (cs:=[Yv ss]) hJ Y Y Y (lb Y) (fun a w h=>(h.get 3 Y)) fun b1=>?_
 refine Zv XS hJ Y Y Y (lb Y) fun b2=>?_
 refine snK 2 tb (env':=[(10,_),(9,_),(8,_),(6,_),(4,_),(0,_),(1,_),(2,_),(3,_)]) Y (seK [2,3,4,6,8] U5 Y ?_)
 refine nx (Zgz (tsq (snK 2 tb (env':=[(22,_),(21,_),(8,_),(6,_),(4,_),(1,_),(3,_)]) Y (sy (.agg (pfC ss)) (fun h=>Yb (ds:=[Yv ss]) Z5 Y (Ze h.x (mo 1 Y)) (h.get 3 Y) Y Y h.x) ?_))))
 refine QK (O:=[]) (R:=[OB.var b2 [Yv ([]:List Stp)],OB.var b1 [Yv ss]]) (ZeB hJ d z ss (by exact hw) (by exact hG) (by first | exact hr2 | exact hr)) Zbi Y Y Y (lb Y) hS hJ0 Zq (fun a w h=>(Za (h.get 2 Y) (Za (h.get 1 Y) (Za (h.get 0 Y) Zc)))) fun z3=>?_
 refine snK 5 tb (env':=[(12,_),(11,_),(26,_),(25,_),(20,_),(24,_),(23,_),(22,_),(21,_),(8,_),(6,_),(4,_),(1,_),(3,_)]) Y (seK [0,1,9,10,11,12,13] U7 Y ?_)
 refine nx (Zf (qso tb hJ (r7 [1001]) U2 U8 ?_))
 refine cj 7 (fun hb1=>?_) fun hb1=>?_
 ·
  exact False.elim (by simp at hb1)
 ·
  refine Zb (nx (tsq (sy (.at b1 0) (fun h=>Zx YF Y (h.get 3 Y) h.x) ?_)))
  refine sy (.rd (Yv ss)) (fun h=>Zo ZaO Y (Ze h.x (mo 2 Y)) (h.get 0 Y) Y h.x) ?_
  refine QK (O:=[]) (R:=[OB.mI z3 (ZaX (Yq d z ss).1 (Yq d z ss).1.length),OB.var b2 [Yv ([]:List Stp)],OB.var b1 [Yv ss]]) (Zir hJ ss oz) ZqW Y Y Y (lb Y) hS hJ0 Zq (fun a w h=>(Za (h.get 0 Y) Zc)) fun z4=>?_
  refine sq (.agg [.lit z4]) Y Y (lb Y) (fun a _ h=>XR (us:=[a.eval (.tmp 33)]) Zdp Y yz (Zt (h.get 0 Y) Z0) Y h.x) ?_
  refine kw pm3 (Zn (b:=b1) (off:=0) (es:=[_]) (news:=[_]) hJ hJ0 Yt Y Y Y (lb Y) Y (fun a w h=>⟨(h.get 7 Y),(h.get 0 Y)⟩) ?_)
  refine seK [2,5,6,7,8,9,10] U7 Y (nx (ln 0 fun hl1=>?_))
  refine Zf (ZsP tb hJ [1,2,3,4,5,6,1001,1002,1003] [.at b1 0,.lit z4,.int (ss.length:Nat),_] [0,1,2] U9 Y ⟨fun _ _ _ hx hl _=>Zx YF Y (hl.env 3 6 _ Y Y) hx,fun _ _ _ hx hl _=>Zo ZaO Y (ZcF hx (mo 0 Y)) (hl.D 0 35 Y Y) Y hx,fun _ _ _ hx hl _=>Qw ZN Y (XY hS hx (mo 1 Y) (hl.D 1 36 Y Y)) hx,U⟩ ?_)
  refine Zd (lpo (ι:=Nat×(List Stp)) (fun(q,out)=>(q≤ss.length)∧(out=ss)) (fun(_,out)=>[OB.var b1 [.lit z4],OB.row z4 88 2 (out.map spC),OB.mI z3 (ZaX (Yq d z ss).1 (Yq d z ss).1.length),OB.var b2 [Yv ([]:List Stp)]]) (fun(q,_)=>[(38,.int (q:Nat))]) (fun(q,_)=>ss.length-q) (r9 []) U8 (0,ss) ⟨nzl,Y⟩ ?_)
  rintro⟨q,out⟩ ⟨f1_1,f1_2⟩
  refine qso tb hJ (r9 [1000]) [_] U10 ?_
  refine cjS 9 (fun hb2=>?_) fun hb2=>?_
  ·
   try simp at hb2
   have e0:=ZgW hok (show q<ss.length by omega)
   rw[←f1_2]at e0
   have hol:out.length=ss.length:=by rw[f1_2]
   refine Zb (nx (Zf (Zd (tsq (snK 1 tb (env':=[(40,_),(11,_),(8,_),(6,_),(4,_),(1,_),(3,_),(36,_),(37,_),(38,_),(39,_)]) Y (sy (.lit (YG z4 (q*2))) (fun h=>ZU (i:=(q:Int)) Z1 Y (Ze h.x (mo 1 Y)) (h.get 7 Y) (h.get 9 Y) nnn (by rw[List.length_map];exact Int.ofNat_lt.2 sfz) h.x) ?_))))))
   refine sy (.agg (spC (ge out q))) (fun h=>XL (i:=q) Zc2 Y (Ze h.x (mo 1 Y)) (h.get 0 Y) (Qc (xs:=out) (k:=q) sfz) Y h.x) ?_
   refine Zv X4 hJ Y Y Y (lb Y) fun b5=>?_
   refine snK 1 tb (env':=[(13,_),(14,_),(42,_),(41,_),(40,_),(11,_),(8,_),(6,_),(4,_),(1,_),(3,_),(36,_),(37,_),(38,_),(39,_)]) Y (Zn (b:=b5) (off:=0) (es:=U2) (news:=U2) hJ hJ0 Qa Y Y Y (lb Y) Y (fun a w h=>⟨(h.get 1 Y),(h.get 2 Y)⟩) ?_)
   refine kw (fun h=>ZP hS h (m:=1) (s:=14) Y) (seK [0,1,5,6,7,8,9,10,11,12,13] U11 Y ?_)
   refine nx (fun a w h=>YH (γ:=Value) (fun ix'=>([.at b1 0,.lit z4,.int (q:Nat),.ptr [Z3 ((ge out q).args)],.rd (Z3 ((ge out q).args)),.any,.lit (YG z4 (q*2)),.lit (YG z4 (q*2+1)),.any]:List AV).getD ix' .any) (fun _=>true) [(11,fun _=>.ptr [Zg d.consts,Zg d.vars,ZaU d.frames,lI (z.toNat:Int),Yv ss,Yc ((Yq d z ss).1),lI (((Yh ss):Nat):Int),.lit (.map (some z3))]),(8,fun _=>.at b2 0),(6,fun _=>.at b1 0),(4,fun _=>.ptr (dbC d)),(1,fun _=>.int z),(3,fun _=>.int (most:Nat)),(36,fun _=>.lit z4),(37,fun _=>.int (ss.length:Nat)),(38,fun _=>.int (q:Nat))] (fun j' g=>match j' with | 0=>[OB.var b1 [.lit z4],OB.row z4 88 2 (out.map spC),OB.mI z3 (ZaX (Yq d z ss).1 (Yq d z ss).1.length),OB.var b2 [Yv ([]:List Stp)]] | 1=>[OB.row g 3 1 (((ge out q).args).map Xe),OB.var b1 [.lit z4],OB.row z4 88 2 (out.map spC),OB.mI z3 (ZaX (Yq d z ss).1 (Yq d z ss).1.length),OB.var b2 [Yv ([]:List Stp)]] | _=>[OB.row g 3 1 (((ge out q).args).map Xe),OB.var b1 [.lit z4],OB.row z4 88 2 ((out.map spC).set q ((spC (ge out q)).set 1 (.lit g))),OB.mI z3 (ZaX (Yq d z ss).1 (Yq d z ss).1.length),OB.var b2 [Yv ([]:List Stp)]]) (fun k' g=>match k' with | 0=>g | _=>undef) [5,8] 1 (.slice none 0 0) (fun _=>Y) h hJ Yo Y Y Y Y Y Y hsb ⟨?_,?_,?_,?_,?_,?_,?_,?_,?_,U⟩ ⟨?e8_1_0,?e8_1_1,U⟩ ⟨.old 2 11 _,.old 3 8 _,.old 4 6 _,.old 5 4 _,.old 6 1 _,.old 7 3 _,.old 8 36 _,.old 9 37 _,.old 10 38 _,U⟩ ?n8_1)
   exact oX Y fun hx hl=>Zx YF Y (hl.env 4 6 _ Y Y) hx
   exact fun _ O' hO'=>⟨Y,fun _ _ _ hx hl _=>Zo ZaO Y (Ze hx (hO' _ (mo 0 Y))) (hl.D 0 43 Y Y) Y hx⟩
   exact oX Y fun hx hl=>ZV Y (hl.env 1 13 _ Y Y) hx
   exact oX Y fun hx hl=>ZG Qq Y (hl.env 0 14 _ Y Y) hx
   exact oX Y fun hx hl=>ZB Q3 Y (hl.D 3 46 Y Y) hx
   exact Zh Y
   exact fun _ O' hO'=>⟨Y,fun _ _ _ hx hl _=>ZU (i:=(q:Int)) Z1 Y (Ze hx (hO' _ (mo 1 Y))) (hl.D 1 44 Y Y) (hl.D 2 45 Y Y) nnn (by rw[List.length_map];exact Int.ofNat_lt.2 sfz) hx⟩
   exact fun _ O' hO'=>⟨Y,fun _ _ _ hx hl _=>Zdc Qq Y (Ze hx (hO' _ (mo 1 Y))) (by rw[List.length_map];exact Nat.lt_of_le_of_lt (Nat.zero_le q) sfz) (hl.D 6 49 Y Y) hx⟩
   exact Zh Y
   case e8_1_0=>exact⟨_,Y,Y,Y,Y,fun _ _ w hk hx hl _=>Zl (Zu8 (O:=[]) (R:=[OB.var b1 [.lit z4],OB.row z4 88 2 (out.map spC),OB.mI z3 (ZaX (Yq d z ss).1 (Yq d z ss).1.length),OB.var b2 [Yv ([]:List Stp)]]) (ZdS hJ ((ge out q).args) sfz) Zhn Y hS hJ0 Zq hk hx (Za (hl.D 4 47 Y Y) Zc)) fun v w' ⟨i,hp,hv⟩=>⟨i,Y,fun k' hk'=>absurd hk' (Nat.not_lt_zero _),fun _=>hv.lit,hp⟩⟩
   case e8_1_1=>exact⟨_,Y,Y,Y,Y,fun g _ w hk hx hl hs=>Zl (Zi4 (i:=q) (j:=1) (c:=.lit g) hJ hJ0 ZaK Y hk (YK (YX (A:=[OB.row g 3 1 (((ge out q).args).map Xe),OB.var b1 [.lit z4]])) hx) (hl.D 7 50 Y Y) (by rw[(hs 0 5 _ 48 oz Y Y Y)];exact Rel.of_lit _ (Zbr (hx.2.1 _ (mo 0 Y)))) (Qc (xs:=out) (k:=q) sfz) (lb Y)) fun v w' hp=>⟨g,Y,fun _ _=>rfl,fun e=>(by cases e),XT (YX (A:=[OB.row g 3 1 (((ge out q).args).map Xe),OB.var b1 [.lit z4]])).symm (YX (A:=[OB.row g 3 1 (((ge out q).args).map Xe),OB.var b1 [.lit z4]])).symm hp⟩⟩
   clear a w h
   intro z6
   dsimp only[List.map]
   refine nx (tw pm2 (tw pm1 ?_))
   refine tw (fun h=>Zcu (rows':=(out.set q (⟨(ge out q).label,((ge out q).args)⟩:Stp)).map spC) (i:=q) (j:=1) hS (ZgF (xs:=out) (k:=q) sfz) Y (by rw[List.map_set,List.set_set];rfl) h) (YU tb hJ (r8 [1001]) [.int (q+1:Nat),_] [0] U9 Y ⟨YT,U⟩ ?_)
   refine kw pm3 (kw pm3 ?_)
   refine kw pm2 (kw pm3 ?_)
   exact Xk (q+1,out.set q (⟨(ge out q).label,((ge out q).args)⟩:Stp)) (r9 []) ⟨oz,by rw[ZrD];exact f1_2⟩
  ·
   try simp at hb2
   refine tw (ob1 (congrArg (fun z'=>OB.row z4 88 2 ((z').map spC)) (show out=ss from f1_2))) (Zu (nx (tw pm1 ?_)))
   refine tw (fun h=>Xn (j:=0) (cs':=[Yv ss]) hS Y Y h) (qso tb hJ (r6 [1000]) [_] U7 ?_)
   refine Zf (Zk2 (nx (Zf (Zd (tw (Yd 37 6 hJ) (lpo (ι:=(List Stp)×(List Chg)×Value×Nat) (fun(cur,dn,_,_)=>(ZD d z cur=0)∧(cur.length≤16)∧(dn.length≤most)∧(Zb2 (ZD d z) (fun s=>Zb3 (jbG d z s)) most ss []=Zb2 (ZD d z) (fun s=>Zb3 (jbG d z s)) (most-dn.length) cur dn)) (fun(cur,dn,wd,mj)=>[OB.row wd 37 6 (dn.map chC),OB.var b1 [Yv cur],OB.mI mj (ZaX (Yq d z cur).1 (Yq d z cur).1.length),OB.var b2 [Yv ([]:List Stp)]]) (fun(cur,_,wd,mj)=>[(15,.lit wd),(11,.ptr [Zg d.consts,Zg d.vars,ZaU d.frames,lI (z.toNat:Int),Yv cur,Yc ((Yq d z cur).1),lI (((Yh cur):Nat):Int),.lit (.map (some mj))])]) (fun(_,dn,_,_)=>most-dn.length) [1,2,3,4,5,6,0] U5 (ss,[],(.slice none 0 0),z3) ⟨hr,h16,nzl,Y⟩ ?_))))))
   rintro⟨cur,dn,wd,mj⟩ ⟨f2_1,f2_2,f2_3,f2_4⟩
   refine Zf (ZsP tb hJ (r7 [1003]) [_,.int (dn.length:Nat),_,_] [1] U8 Y ⟨fun _ _ _ hx hl _=>Qw YP Y (XY hS hx (mo 0 Y) (hl.D 0 52 Y Y)) hx,U⟩ ?_)
   refine cj 7 (fun hb3=>?_) fun hb3=>?_
   ·
    try simp at hb3
    have hW2:JobW (jbG d z cur):=Zg6 f2_1 f2_2 hf16 hw
    refine Zb (nx (Zd (qso tb hJ (r7 [1000]) [_] U8 ?_)))
    refine Zf (ZF tb hJ (r8 [1004,1005,1006]) (V5 [.int (cur.length:Nat),_]) [5] U11 Y ⟨Ym ZN,U⟩ ?_)
    refine ln 8 fun hl2=>?_
    refine Zd (tw (Yd 37 6 hJ) (lpo (ι:=Nat×Value×(List Chg)) (fun(q,_,ys)=>(q≤cur.length)∧(ys=Zx6 (jbG d z cur) q)) (fun(_,wy,ys)=>[OB.row wy 37 6 (ys.map chC),OB.row wd 37 6 (dn.map chC),OB.var b1 [Yv cur],OB.mI mj (ZaX (Yq d z cur).1 (Yq d z cur).1.length),OB.var b2 [Yv ([]:List Stp)]]) (fun(q,wy,_)=>[(62,.int (q:Nat)),(16,.lit wy)]) (fun(q,_,_)=>cur.length-q) (r7 [9,10,7]) U8 (0,(.slice none 0 0),([]:List Chg)) ⟨nzl,Y⟩ ?_))
    rintro⟨q,wy,ys⟩ ⟨f3_1,f3_2⟩
    refine qso tb hJ (r10 [1000]) [_] U11 ?_
    refine cjS 10 (fun hb4=>?_) fun hb4=>?_
    ·
     try simp at hb4
     have hal:=ZmC hW2 q (show q≤cur.length by omega)
     rw[←f3_2]at hal
     have hcl2:=ZqE hW2 (step:=q) (show q<cur.length by omega)
     have hcl3:(Zd4 (⟨d,z.toNat,cur,(Yq d z cur).1,ZaX (Yq d z cur).1 (Yq d z cur).1.length⟩:Jb) q).length≤2000000:=hcl2
     refine Zb (nx (Zf (Zd (qso tb hJ (r10 [1001]) U2 U11 ?_))))
     refine ZO (snK 3 tb (env':=[(67,_),(66,_),(65,_),(8,_),(6,_),(4,_),(1,_),(3,_),(15,_),(11,_),(61,_),(62,_),(16,_),(17,_)]) Y (sy (.rd (Zfi (Zd4 (⟨d,z.toNat,cur,((Yq d z cur).1),(ZaX (Yq d z cur).1 (Yq d z cur).1.length)⟩:Jb) q))) (fun h=>Y3 (Zf4 hJ d z.toNat cur ((Yq d z cur).1) mj (ZaX (Yq d z cur).1 (Yq d z cur).1.length) q (by exact hW2) (by show q<cur.length;omega)) ZqV Y (Zk hS _ h.keep h.x) (h.x.1) (ZH (Ze h.x (mo 3 Y)) Zq) (Za (h.get 1 Y) (Za (h.get 0 Y) Zc)) (jo hJ h.x)) ?_))
     refine YD (f:=chC) (m:=3) (s:=65) ys (Zd4 (⟨d,z.toNat,cur,((Yq d z cur).1),(ZaX (Yq d z cur).1 (Yq d z cur).1.length)⟩:Jb) q) (fun _=>Y) Zfo hJ hJ0 Y Y Y (lb Y) Y Y (fun a w h=>(h.get 0 Y)) sfz sfz fun v7=>?_
     refine snK 1 tb (env':=[(16,_),(69,_),(68,_),(67,_),(66,_),(65,_),(8,_),(6,_),(4,_),(1,_),(3,_),(15,_),(11,_),(61,_),(62,_),(17,_)]) Y (seK [0,2,6,7,8,9,10,11,12,13,14] U11 Y ?_)
     refine nx (ln 1 fun hl3=>?_)
     refine YU tb hJ [0,2,3,4,5,6,7,8,9,1001] [.int (q+1:Nat),_] [0] U10 Y ⟨YT,U⟩ ?_
     exact Xk (q+1,v7,ys++(Zd4 (⟨d,z.toNat,cur,((Yq d z cur).1),(ZaX (Yq d z cur).1 (Yq d z cur).1.length)⟩:Jb) q)) [1,2,3,4,5,6,7,8,9,0] ⟨oz,by rw[Zjq,←f3_2];rfl⟩
    ·
     try simp at hb4
     have eA:ys=Zb3 (jbG d z cur):=by rw[f3_2,show q=cur.length by omega];rfl
     refine Zu (nx (tw (fun h=>Ya hS h (m:=9) (s:=16) Y) (tsq ?_)))
     refine snK 1 tb (env':=[(72,_),(16,_),(8,_),(6,_),(4,_),(1,_),(3,_),(15,_),(11,_),(61,_),(62,_),(63,_)]) Y (sy (.tup [.agg (chC ((Ys ys).1)),.bool ((Ys ys).2)]) (fun h=>ZaL (p_best hJ ys) ZxH Y (Zk hS _ h.keep h.x) (h.x.1) (Za (h.get 0 Y) (Za (Qt 43) Zc)) (jo hJ h.x)) ?_)
     refine snK 3 tb (env':=[(75,_),(74,_),(71,_),(73,_),(72,_),(16,_),(8,_),(6,_),(4,_),(1,_),(3,_),(15,_),(11,_),(61,_),(62,_),(63,_)]) Y (Qk (cs:=chC ((Ys ys).1)) Zgw Y Y Y (lb Y) Y Y Y dz (m:=1) Y Y (fun a w h=>Zk hS _ h.keep h.x _ nlr) (fun a w h w' hk'=>Yw hJ _ _ hk' h.x) ?_)
     refine snK 1 tb (env':=[(19,_),(18,_),(75,_),(74,_),(71,_),(73,_),(72,_),(16,_),(8,_),(6,_),(4,_),(1,_),(3,_),(15,_),(11,_),(61,_),(62,_),(63,_)]) Y (seK [0,1,6,7,8,9,10,11,12,13,14] U11 Y ?_)
     refine nx (ln 2 fun hl4=>?_)
     refine Zf (qso tb hJ [1,4,5,6,7,8,9,10,1001] U2 U9 ?_)
     refine cj 8 (fun hb5=>?_) fun hb5=>?_
     ·
      try simp at hb5
      have eE:Y5 d z ss most=(cur,dn,0):=by rw[Y5,if_pos hr,f2_4];exact ml_end (by(try dsimp only);rw[←eA];exact hb5)
      refine Zu (nx (tsq (sy (.agg (pfC cur)) (fun h=>Yb (ds:=[Yv cur]) Z5 Y (Ze h.x (mo 1 Y)) (h.get 2 Y) Y Y h.x) ?_)))
      refine snK 1 tb (env':=[(100,_),(99,_),(18,_),(8,_),(6,_),(4,_),(1,_),(3,_),(15,_),(11,_),(77,_)]) Y (kw pm3 ?_)
      refine Zn (b:=b2) (off:=0) (es:=[_]) (news:=[_]) hJ hJ0 Yt Y Y Y (lb Y) Y (fun a w h=>⟨(h.get 3 Y),(h.get 1 Y)⟩) ?_
      refine snK 2 tb (env':=[(10,_),(9,_),(100,_),(99,_),(18,_),(8,_),(6,_),(4,_),(1,_),(3,_),(15,_),(11,_),(77,_)]) Y (seK [0,1,5] U3 Y ?_)
      refine nx (tw pm1 (tw (fun h=>Ya hS h (m:=1) (s:=9) Y) ?_))
      exact Zs (fun a w h=>ZdX (cs:=[Yv cur]) (m:=2) (q:=1) (z:=0) Y Z5 h Y Y (show(_:List CD)=[Yv ((Y5 d z ss most).1)]from by(rw[eE])<;>rfl) Y (congrArg (fun z=>AV.rd (Zfi z)) (show dn=((Y5 d z ss most).2.1)from by rw[eE])) Y (congrArg AV.int (show(0:Int)=(Y5 d z ss most).2.2 from by rw[eE])))
     ·
      try simp at hb5
      have hbt:(Ys ((fun s=>Zb3 (jbG d z s)) cur)).2=true:=by(try dsimp only);rw[←eA];exact hb5
      have hk:most-dn.length=(most-dn.length-1)+1:=by omega
      have hca:=ZmB hW2 (c:=(Ys ys).1) (by rw[←eA];exact Zmw hb5)
      refine Zb (nx (Zf (tw pm1 (fun a w h=>YH (γ:=Unit) (fun ix'=>([.ptr [Zg d.consts,Zg d.vars,ZaU d.frames,lI (z.toNat:Int),Yv cur,Yc ((Yq d z cur).1),lI (((Yh cur):Nat):Int),.lit (.map (some mj))],.ptr [Zg d.consts,Zg d.vars,ZaU d.frames,lI (z.toNat:Int),Yv cur,Yc ((Yq d z cur).1),lI (((Yh cur):Nat):Int),.lit (.map (some mj))],.ptr [Yv cur,Yc ((Yq d z cur).1),lI (((Yh cur):Nat):Int),.lit (.map (some mj))],.agg (pfC cur),.agg (chC ((Ys ys).1)),.agg (pfC (Y6 cur ((Ys ys).1))),.any]:List AV).getD ix' .any) (fun _=>true) [(18,fun _=>.ptr (chC ((Ys ys).1))),(8,fun _=>.at b2 0),(6,fun _=>.at b1 0),(4,fun _=>.ptr (dbC d)),(1,fun _=>.int z),(3,fun _=>.int (most:Nat)),(15,fun _=>.lit wd)] (fun j' _=>match j' with | 0=>[OB.var b1 [Yv cur],OB.row wd 37 6 (dn.map chC),OB.mI mj (ZaX (Yq d z cur).1 (Yq d z cur).1.length),OB.var b2 [Yv ([]:List Stp)]] | _=>[OB.var b1 [Yv (Y6 cur ((Ys ys).1))],OB.row wd 37 6 (dn.map chC),OB.mI mj (ZaX (Yq d z cur).1 (Yq d z cur).1.length),OB.var b2 [Yv ([]:List Stp)]]) (fun _ _=>undef) [6] 0 () (fun _=>Y) h hJ Yo Y Y Y Y Y Y hsb ⟨?_,?_,?_,?_,?_,?_,?_,U⟩ ⟨?e20_2_0,U⟩ ⟨.old 0 18 _,.old 1 8 _,.old 2 6 _,.old 3 4 _,.old 4 1 _,.old 5 3 _,.old 6 15 _,U⟩ ?n20_2))))
      exact oX Y fun hx hl=>ZV Y (hl.env 7 11 _ Y Y) hx
      exact oX Y fun hx hl=>YE Y (hl.D 0 78 Y Y) hx
      exact oX Y fun hx hl=>ZG Zgf Y (hl.D 1 79 Y Y) hx
      exact oX Y fun hx hl=>QG (k:=1) Z5 Y (hl.D 2 80 Y Y) (lb Y) hx
      exact oX Y fun hx hl=>QG Qh Y (hl.env 0 18 _ Y Y) nlr hx
      exact oY Y fun hk hx hl=>ZaL (ZeD hJ cur ((Ys ys).1) (by exact(ZfB f2_1).2) (by exact hca.1) (by exact hca.2.1) (by exact hca.2.2.1) (by exact hca.2.2.2.1) (by exact hca.2.2.2.2)) ZkD Y (Zk hS _ hk hx) (hx.1) (Za (hl.D 3 81 Y Y) (Za (hl.D 4 82 Y Y) Zc)) (jo hJ hx)
      exact Zh Y
      case e20_2_0=>exact⟨_,Y,Y,Y,Y,fun g _ w hk hx hl _=>(by obtain⟨us2,hv2,hr3⟩:=Q0 (hl.D 5 83 Y Y);exact Zl (Xz (off:=0) (news:=[_]) (es:=[_]) (us:=us2) hJ hJ0 Yt Y hk hx (hl.env 2 6 _ Y Y) (by rw[hv2];rfl) hr3 (lb Y) Y) fun v w' hp=>⟨g,Y,fun _ _=>rfl,fun e=>(by cases e),hp⟩)⟩
      clear a w h
      intro _
      dsimp only[List.map]
      refine nx (tsq (snK 2 tb (env':=[(85,_),(84,_),(18,_),(8,_),(6,_),(4,_),(1,_),(3,_),(15,_)]) Y (sy (.rd (Zfi ([((Ys ys).1)]))) (fun h=>Zia YO ZnS Y Y (h.get 0 Y) (Zk hS _ h.keep h.x _ nlr) (jo hJ h.x)) ?_)))
      refine kw pm1 (YD (f:=chC) (m:=2) (s:=84) dn ([((Ys ys).1)]) (fun _=>Y) Zfo hJ hJ0 Y Y Y (lb Y) Y Y (fun a w h=>(h.get 0 Y)) sfz sfz fun v8=>?_)
      refine snK 1 tb (env':=[(15,_),(87,_),(86,_),(85,_),(84,_),(18,_),(8,_),(6,_),(4,_),(1,_),(3,_)]) Y (seK [0,2,6,7,8,9,10] U7 Y ?_)
      refine nx (ln 1 fun hl5=>?_)
      refine Zf ?_
      by_cases hr2:ZD d z (Y6 cur (Ys ys).1)=0
      ·
       refine ZO (snK 2 tb (env':=[(90,_),(89,_),(15,_),(86,_),(8,_),(6,_),(4,_),(1,_),(3,_)]) Y (sy (.agg (pfC (Y6 cur ((Ys ys).1)))) (fun h=>Yb (ds:=[Yv (Y6 cur ((Ys ys).1))]) Z5 Y (Ze h.x (mo 1 Y)) (h.get 5 Y) Y Y h.x) ?_))
       refine QK (O:=[]) (R:=[OB.row v8 37 6 ((dn++([((Ys ys).1)])).map chC),OB.var b1 [Yv (Y6 cur ((Ys ys).1))],OB.mI mj (ZaX (Yq d z cur).1 (Yq d z cur).1.length),OB.var b2 [Yv ([]:List Stp)]]) (ZeB hJ d z (Y6 cur ((Ys ys).1)) (by exact hw) (by exact hG) (by first | exact hr2 | exact hr)) Zbi Y Y Y (lb Y) hS hJ0 Zq (fun a w h=>(Za (h.get 2 Y) (Za (h.get 1 Y) (Za (h.get 0 Y) Zc)))) fun z9=>?_
       refine snK 5 tb (env':=[(12,_),(11,_),(94,_),(93,_),(88,_),(92,_),(91,_),(90,_),(89,_),(15,_),(86,_),(8,_),(6,_),(4,_),(1,_),(3,_)]) Y (seK [0,1,9,11,12,13,14,15] U8 Y ?_)
       refine nx (qso tb hJ (r8 [1001]) U2 U9 ?_)
       refine cj 8 (fun hb6=>?_) fun hb6=>?_
       ·
        exact False.elim (by simp at hb6)
       ·
        refine Zb (kw pm3 (kw Zz ?_))
        refine kw pm3 (kw pm1 ?_)
        refine kw pm3 (kw pm3 ?_)
        exact Xk ((Y6 cur ((Ys ys).1)),dn++([((Ys ys).1)]),v8,z9) [3,4,5,6,7,2,1] ⟨by exact hr2,by(try dsimp only);have h8:=Zkv (d:=d) (z:=z) cur (Ys ys).1 (by rw[←eA];exact Zmw hb5);have h9:=Zcw cur;omega,by simp;omega,by rw[f2_4,hk,ml_ok hbt (show ZD d z (Y6 cur (Ys ((fun s=>Zb3 (jbG d z s)) cur)).1)=0 by(try dsimp only);rw[←eA];exact hr2)];(try dsimp only);rw[←eA,List.length_append,List.length_singleton,Nat.sub_add_eq]⟩
      ·
       have eE:Y5 d z ss most=([],[],ZD d z (Y6 cur (Ys ys).1)):=by rw[Y5,if_pos hr,f2_4,hk,eA];exact ml_bad hbt (by(try dsimp only);rw[←eA];exact hr2)
       refine YU tb hJ [0,2,3,4,5,6,1007,1008] [_,_,.agg (pfC (Y6 cur ((Ys ys).1))),.tup [.rd (.lit (.pointer none)),.int (ZD d z (Y6 cur ((Ys ys).1)))],_,_,_,_,_] [2,3] U8 Y ⟨fun _ _ _ hx hl _=>Yb (ds:=[Yv (Y6 cur ((Ys ys).1))]) Z5 Y (Ze hx (mo 1 Y)) (hl.env 3 6 _ Y Y) Y Y hx,iFo hS hJ (ZdQ hJ d z (Y6 cur ((Ys ys).1)) (by exact hw) (by exact hG) (by exact hr2)) Zbi,U⟩ ?_
       refine nx (qso tb hJ (r8 [1001]) U2 U9 ?_)
       refine cj 8 (fun hb6=>?_) fun hb6=>?_
       ·
        refine tsq (sy (.agg (pfC ([]:List Stp))) (fun h=>Y7 (ps:=[]) (us:=[.slice none 0 0]) Za0 Y yz Zjr Y (X1 (.nil _ _ nzl) Z0) h.x) ?_)
        refine snK 1 tb (env':=[(98,_),(97,_),(15,_),(8,_),(6,_),(4,_),(1,_),(3,_),(11,_),(12,_),(96,_)]) Y (kw pm3 ?_)
        refine Zn (b:=b2) (off:=0) (es:=[_]) (news:=[_]) hJ hJ0 Yt Y Y Y (lb Y) Y (fun a w h=>⟨(h.get 3 Y),(h.get 1 Y)⟩) ?_
        refine snK 2 tb (env':=[(10,_),(9,_),(98,_),(97,_),(15,_),(8,_),(6,_),(4,_),(1,_),(3,_),(11,_),(12,_),(96,_)]) Y (seK [0,1,5] U3 Y ?_)
        exact nx (tw (fun h=>Xx h (m:=1) (s:=9) Y) (Zs (fun a w h=>ZdX (cs:=[Yv ([]:List Stp)]) (m:=2) (q:=1) (z:=0) Y Z5 h Y Y (show(_:List CD)=[Yv ((Y5 d z ss most).1)]from by(rw[eE])<;>rfl) Y (congrArg (fun z=>AV.rd (Zfi z)) (show([]:List Chg)=((Y5 d z ss most).2.1)from by rw[eE])) Y (congrArg AV.int (show ZD d z (Y6 cur ((Ys ys).1))=(Y5 d z ss most).2.2 from by rw[eE])))))
       ·
        exact False.elim (hr2 (by simpa using hb6))
   ·
    try simp at hb3
    have eE:Y5 d z ss most=(cur,dn,0):=by rw[Y5,if_pos hr,f2_4,show most-dn.length=0 by omega];rfl
    refine Zu (nx (tsq (sy (.agg (pfC cur)) (fun h=>Yb (ds:=[Yv cur]) Z5 Y (Ze h.x (mo 1 Y)) (h.get 1 Y) Y Y h.x) ?_)))
    refine snK 1 tb (env':=[(100,_),(99,_),(8,_),(6,_),(4,_),(1,_),(3,_),(15,_),(11,_),(55,_)]) Y (kw pm3 ?_)
    refine Zn (b:=b2) (off:=0) (es:=[_]) (news:=[_]) hJ hJ0 Yt Y Y Y (lb Y) Y (fun a w h=>⟨(h.get 2 Y),(h.get 1 Y)⟩) ?_
    refine snK 2 tb (env':=[(10,_),(9,_),(100,_),(99,_),(8,_),(6,_),(4,_),(1,_),(3,_),(15,_),(11,_),(55,_)]) Y (seK [0,1,4] U3 Y ?_)
    refine nx (tw pm1 (tw (fun h=>Ya hS h (m:=1) (s:=9) Y) ?_))
    exact Zs (fun a w h=>ZdX (cs:=[Yv cur]) (m:=2) (q:=1) (z:=0) Y Z5 h Y Y (show(_:List CD)=[Yv ((Y5 d z ss most).1)]from by(rw[eE])<;>rfl) Y (congrArg (fun z=>AV.rd (Zfi z)) (show dn=((Y5 d z ss most).2.1)from by rw[eE])) Y (congrArg AV.int (show(0:Int)=(Y5 d z ss most).2.2 from by rw[eE])))
end Go.Proofs.YtdfadihhfppjaaaGreatDoor
namespace Go.Proofs.YtdfadihhfppjaaaGreatDoor
def Zs8 (f:Fr):Bool:=decide ((12:Int)< ((f.hyps.length:Nat):Int))||decide ((40:Int)< ((f.text.length:Nat):Int))||decide ((60:Int)< ((f.proof.length:Nat):Int))
def fewN (d:Db) (ss:List Stp):Bool:=decide (((ss.length:Nat):Int)≤16)&&decide (((d.frames.length:Nat):Int)≤16)&& !d.frames.any Zs8
theorem Zs7 {d:Db} {ss:List Stp} (h:fewN d ss=true):ss.length≤16∧d.frames.length≤16:=by
 simp only[fewN,Bool.and_eq_true,decide_eq_true_eq]at h
 omega
end Go.Proofs.YtdfadihhfppjaaaGreatDoor
set_option maxHeartbeats 8000000
set_option maxRecDepth 100000
namespace Go.Proofs.YtdfadihhfppjaaaGreatDoor
open Go.RowKit
theorem ZxK:Zi Tryz.prog 29:=Zm Tryz.func29 Y Y
theorem ZxL:Zi Tryz.prog 28:=Zm Tryz.func28 Y Y
section
variable {J:WP} (hJ:Stab J)
include hJ
theorem w_few1 (f:Fr)  :Fn Tryz.prog J 29 [.agg (frC f)] (.bool (Zs8 f)):=by
 refine fE Tryz.func29 fun S w0 hS hJ0=>?_
 clear hJ0
 refine hqs tb hJ [1000] [.ptr (frC f),_] [0] [_] Y ⟨iBs hS hJ,U⟩ ?_
 refine hqs tb hJ [1001,1016] [_,_,.int (f.hyps.length:Nat),_,_,_,_,.int (f.text.length:Nat),_,_,_,_,_,.int (f.proof.length:Nat),_,_,_] [2,7,13] U2 Y ⟨Ym ZC,Ym ZA,Ym ZA,U⟩ ?_
 refine ln 0 fun hl1=>?_
 exact tRn 1 (hE:=eB (Y))
theorem w_few (d:Db) (ss:List Stp)  :Fn Tryz.prog J 8 [.agg (dbC d),.agg (pfC ss)] (.bool (fewN d ss)):=by
 refine fE Tryz.func8 fun S w0 hS hJ0=>?_
 clear hJ0
 refine hqs tb hJ [1000,1001] [.ptr (dbC d),.ptr (pfC ss),_] [0,1] U2 Y ⟨iBs hS hJ,iBs hS hJ,U⟩ ?_
 refine hqs tb hJ [1001,1016] [_,_,.int (ss.length:Nat),_,_,_,_,.int (d.frames.length:Nat),_,_,_,_,_,.bool (d.frames.any Zs8),_,_,_] [2,7,13] U2 Y ⟨Ym ZN,Ym QT,fun _ _ hk hx hl hc=>Y3 (ZeH hJ d.frames 29 [] [] Zs8 (fun q'=>(w_few1 hJ q').rr) (ZxK)) ZxL Y (nm hS hk) (hx) Zq (Za (hl.D 12 17 Y hc) (Za (Qt 29) Zc)) (js hJ hx),U⟩ ?_
 refine ln 0 fun hl1=>?_
 exact tRn 1 (hE:=eB (Y))
theorem Zj4 (d:Db) (z:Int) (ss:List Stp) (most:Nat) (hw:∀ f∈d.frames,f.wide.length*32≤140737488351232) (hG:Xm J) (h16:ss.length≤16) (hf16:d.frames.length≤16) (hm:most≤300):Fn Tryz.prog J 14 [.agg (dbC d),.int z,.agg (pfC ss),.int (most:Nat)] (.tup [.agg (pfC (Y5 d z ss most).1),.rd (Zfi (Y5 d z ss most).2.1),.int (Y5 d z ss most).2.2]):=by
 by_cases hr:ZD d z ss=0
 · exact Zj2 hJ d z ss most hw hG hr h16 hf16 hm
 · have e:Y5 d z ss most=([],[],ZD d z ss):=if_neg hr
   rw[e]
   exact Zj3 hJ d z ss most hw hG hr
end
end Go.Proofs.YtdfadihhfppjaaaGreatDoor
set_option maxHeartbeats 8000000
set_option maxRecDepth 100000
namespace Go.Proofs.YtdfadihhfppjaaaGreatDoor
open Go.Proofs.Tryz (prog)
open Go.RowKit
theorem QF:ZdG prog 72 [lS ⟨#[]⟩,lB false,.sl [],.sl [],.sl [],.sl [],.sl [],.sl []]:=⟨(.agg #[.string ⟨#[]⟩,.bool false,.slice none 0 0,.slice none 0 0,.slice none 0 0,.slice none 0 0,.slice none 0 0,.slice none 0 0]),fun w=>by kernel_rfl,fun S w=>(show RdL S w [lS ⟨#[]⟩,lB false,.sl [],.sl [],.sl [],.sl [],.sl [],.sl []] [.string ⟨#[]⟩,.bool false,.slice none 0 0,.slice none 0 0,.slice none 0 0,.slice none 0 0,.slice none 0 0,.slice none 0 0]from⟨.lit _ nzl,.lit _ True.intro,.nil _ _ nzl,.nil _ _ nzl,.nil _ _ nzl,.nil _ _ nzl,.nil _ _ nzl,.nil _ _ nzl,U⟩)⟩
theorem Zeb:ZfF prog 9 1:=⟨(.string ⟨#[]⟩),fun w=>by kernel_rfl,Y,by simp[Value.cells,Value.oneCell']⟩
theorem Zq0:ZdH prog 72 [.string ⟨#[]⟩,.bool false,.slice none 0 0,.slice none 0 0,.slice none 0 0,.slice none 0 0,.slice none 0 0,.slice none 0 0]:=⟨fun i=>(#[(0,1),(1,1),(2,1),(3,1),(4,1),(5,1),(6,1),(7,1)]:Array (Nat×Nat))[i]?,fun j hj=>by rcases j with _ | _ | _ | _ | _ | _ | _ | _ | j<;>first | rfl | (simp at hj;omega) | simp at hj,fun parts=>by kernel_rfl⟩
theorem Zer:Xf prog 72 8:=zO
theorem Zrm:Zc3 prog 119:=⟨.agg #[.string ⟨#[]⟩,.bool false,.slice none 0 0],fun w=>by kernel_rfl⟩
theorem Zfl:Zi prog 60:=Zm Tryz.func60 Y Y
theorem Zcb:ZdG prog 25 [.sl [],.sl [],.sl []]:=⟨(.agg #[.slice none 0 0,.slice none 0 0,.slice none 0 0]),fun w=>by kernel_rfl,fun S w=>(show RdL S w [.sl [],.sl [],.sl []] [.slice none 0 0,.slice none 0 0,.slice none 0 0]from⟨.nil _ _ nzl,.nil _ _ nzl,.nil _ _ nzl,U⟩)⟩
theorem ZnK:Zrg prog 25:=fun ad ad' k c k' c'=>by kernel_rfl
theorem Zes:Xf prog 25 3:=zO
def Qi (l to:BA) (fr:List BA):Fr:=⟨l,false,fr.map fun s=>⟨l++s,false,[⟨#[124,45]⟩,s]⟩,[],[⟨#[124,45]⟩,to],[],[],[]⟩
theorem ZaF {J:WP} (hJ:Stab J) (l to:BA) (fr:List BA) (hf:fr.length≤10) (hl:l.size≤10) (hs:∀ s∈fr,s.size≤10):Fn prog J 60 [.str l,.str to,.rd (Zg fr)] (.agg (frC (Qi l to fr))):=by
 refine fE Tryz.func60 fun S w0 hS hJ0=>?_
 refine tw Z4 (ln 2 fun hl1=>?_)
 refine tsq (Zv QF hJ Y Y Y (lb Y) fun b1=>?_)
 refine seK [0,1,2,3] U4 Y (nx (tw (Yd 119 3 hJ) ?_))
 refine tsq (snK 2 tb Y (sq (.rd (Zg ([(⟨#[124,45]⟩:BA),to]:List BA))) Y Y (lb Y) (fun a _ h=>Zan (k:=2) (us:=[a.eval (.const (.string { data:= #[124,45] })),a.eval (.tmp 11)]) Zj Zeb Y yz (Zt (Rel.of_lit (.string { data:= #[124,45] }) (lb Y)) (Zt (h.get 0 Y) Z0)) Y dz dz (Zk hS _ h.keep h.x _ nlr) (jo hJ h.x)) ?_))
 refine sq (.agg [lS l,lB false,.lit (.slice none 0 0),X8 ([]:List Pr),Zg ([(⟨#[124,45]⟩:BA),to]:List BA),XQ ([]:List Hy),X8 ([]:List Pr),Zg ([]:List BA)]) Y Y (lb Y) (fun a _ h=>Y7 (ps:=[(0,a.eval (.tmp 10)),(4,a.eval (.tmp 12))]) (us:=[a.eval (.tmp 10),.bool false,.slice none 0 0,.slice none 0 0,a.eval (.tmp 12),.slice none 0 0,.slice none 0 0,.slice none 0 0]) Zq0 Y yz (ZnM (lb Y) (Rel.oneC (h.get 2 Y)) (ZnM (lb Y) (Rel.oneC (h.get 0 Y)) Zjr)) Y (Zt (h.get 2 Y) (X1 (.lit _ True.intro) (X1 (.lit _ True.intro) (X1 (.nil _ _ nzl) (Zt (h.get 0 Y) (X1 (.nil _ _ nzl) (X1 (.nil _ _ nzl) (X1 (.nil _ _ nzl) Z0)))))))) h.x) ?_
 refine Zv QF hJ Y Y Y (lb Y) fun b2=>?_
 refine Zn (b:=b2) (off:=0) (es:=U8) (news:=U8) hJ hJ0 Zer Y Y Y (lb Y) Y (fun a w h=>⟨(h.get 0 Y),(h.get 1 Y)⟩) ?_
 refine seK [0,2,5,6,8] U5 Y (nx (ln 1 fun hl2=>?_))
 refine Zf (ZF tb hJ [0,2,3,1000,1001,1002] [_,.int (fr.length:Nat),_] [1] U6 Y ⟨Ym ZA,U⟩ ?_)
 refine Zd (lpo (ι:=Nat×(List Hy)×Value) (fun(q,hy,_)=>(q≤fr.length)∧(hy=(fr.take q).map fun s=>(⟨l++s,false,[⟨#[124,45]⟩,s]⟩:Hy))) (fun(_,hy,wh)=>[OB.var b2 [lS l,lB false,.lit wh,X8 ([]:List Pr),Zg ([(⟨#[124,45]⟩:BA),to]),XQ ([]:List Hy),X8 ([]:List Pr),Zg ([]:List BA)],OB.row wh 119 3 (hy.map hyC),OB.var b1 [lS (⟨#[]⟩:BA),lB false,XQ ([]:List Hy),X8 ([]:List Pr),Zg ([]:List BA),XQ ([]:List Hy),X8 ([]:List Pr),Zg ([]:List BA)]]) (fun(q,_,_)=>[(16,.int (q:Nat))]) (fun(q,_,_)=>fr.length-q) (r6 []) U5 (0,[],(.slice none 0 0)) ⟨nzl,Y⟩ ?_)
 rintro⟨q,hy,wh⟩ ⟨f1_1,f1_2⟩
 refine qso tb hJ (r6 [1000]) [_] U7 ?_
 refine cjS 6 (fun hb1=>?_) fun hb1=>?_
 ·
  try simp at hb1
  have hsq:=hs (ge fr q) (Zp oz)
  have hyl:hy.length=q:=by rw[f1_2,List.length_map,List.length_take];omega
  refine Zb (nx (Zf (Zd (ZF tb hJ (r6 [1002]) [.ptr [lS (ge fr q)],_,_] [0] U7 Y ⟨iIx Zj,U⟩ ?_))))
  refine ZO (sq (.at b2 2) Y Y (lb Y) (fun _ _ h=>Zx Zdn Y (h.get 0 Y) h.x) ?_)
  refine sy (.lit wh) (fun h=>Zo Zpp Y (Ze h.x (mo 0 Y)) (h.get 0 Y) Y h.x) ?_
  refine snK 2 tb Y (sy (.str (l++(ge fr q))) (fun h=>r_addS Y (h.get 1 Y) (h.get 0 Y) sfz h.x) ?_)
  refine snK 1 tb Y (sq (.rd (Zg ([(⟨#[124,45]⟩:BA),(ge fr q)]:List BA))) Y Y (lb Y) (fun a _ h=>Zan (k:=2) (us:=[a.eval (.const (.string { data:= #[124,45] })),a.eval (.tmp 25)]) Zj Zeb Y yz (Zt (Rel.of_lit (.string { data:= #[124,45] }) (lb Y)) (Zt (h.get 0 Y) Z0)) Y dz dz (Zk hS _ h.keep h.x _ nlr) (jo hJ h.x)) ?_)
  refine sq (.agg (hyC (⟨(l++(ge fr q)),false,([(⟨#[124,45]⟩:BA),(ge fr q)]:List BA)⟩:Hy))) Y Y (lb Y) (fun a _ h=>Y7 (ps:=[(0,a.eval (.tmp 24)),(2,a.eval (.tmp 26))]) (us:=[a.eval (.tmp 24),.bool false,a.eval (.tmp 26)]) Zgs Y yz (ZnM (lb Y) (Rel.oneC (h.get 2 Y)) (ZnM (lb Y) (Rel.oneC (h.get 0 Y)) Zjr)) Y (Zt (h.get 2 Y) (X1 (.lit _ True.intro) (Zt (h.get 0 Y) Z0))) h.x) ?_
  refine sy (.rd (XQ ([(⟨(l++(ge fr q)),false,([(⟨#[124,45]⟩:BA),(ge fr q)]:List BA)⟩:Hy)]))) (fun h=>ZcD ZI Zrm dz Y Y (h.get 0 Y) (Zk hS _ h.keep h.x _ nlr) (jo hJ h.x)) ?_
  refine kw pm1 (YD (f:=hyC) (m:=7) (s:=21) hy ([(⟨(l++(ge fr q)),false,([(⟨#[124,45]⟩:BA),(ge fr q)]:List BA)⟩:Hy)]) (fun _=>Y) ZbX hJ hJ0 Y Y Y (lb Y) Y Y (fun a w h=>(h.get 0 Y)) sfz sfz fun v3=>?_)
  refine sy (.at b2 2) (fun h=>Zx Zdn Y (h.get 10 Y) h.x) ?_
  refine kw pm1 (Z6 (b:=b2) (off:=2) (es:=U8) hJ hJ0 Zh1 Y Y Y (lb Y) Y (fun a w h=>⟨(h.get 0 Y),(h.get 1 Y)⟩) ?_)
  refine seK [2,4,11,12,13,14,15,16] U8 Y (nx (ln 0 fun hl3=>?_))
  refine ln 1 fun hl4=>?_
  refine YU tb hJ [2,3,4,5,6,1001] [.int (q+1:Nat),_] [0] U6 Y ⟨YT,U⟩ ?_
  exact Xk (q+1,hy++([(⟨(l++(ge fr q)),false,([(⟨#[124,45]⟩:BA),(ge fr q)]:List BA)⟩:Hy)]),v3) (r6 []) ⟨oz,by rw[List.take_add_one,List.getElem?_eq_getElem oz,←Yj oz,List.map_append,←f1_2];rfl⟩
 ·
  try simp at hb1
  refine Zu (nx (tw pm1 (tw (fun h=>Xn (j:=2) (cs':=[lS l,lB false,XQ hy,X8 ([]:List Pr),Zg ([(⟨#[124,45]⟩:BA),to]),XQ ([]:List Hy),X8 ([]:List Pr),Zg ([]:List BA)]) hS Y Y h) ?_)))
  refine tsq (sy (.agg [lS l,lB false,XQ hy,X8 ([]:List Pr),Zg ([(⟨#[124,45]⟩:BA),to]),XQ ([]:List Hy),X8 ([]:List Pr),Zg ([]:List BA)]) (fun h=>Yb (ds:=[lS l,lB false,XQ hy,X8 ([]:List Pr),Zg ([(⟨#[124,45]⟩:BA),to]),XQ ([]:List Hy),X8 ([]:List Pr),Zg ([]:List BA)]) ZbY Y (Ze h.x (mo 0 Y)) (h.get 0 Y) Y Y h.x) ?_)
  refine kw pm1 (Zn (b:=b1) (off:=0) (es:=U8) (news:=U8) hJ hJ0 Zer Y Y Y (lb Y) Y (fun a w h=>⟨(h.get 2 Y),(h.get 0 Y)⟩) ?_)
  exact seK [2] [_] Y (nx (Zs (fun a w h=>Zb7 (m:=0) Y ZbY h Y Y (show(_:List CD)=[lS ((Qi l to fr).label),lB ((Qi l to fr).thm),XQ ((Qi l to fr).hyps),X8 ((Qi l to fr).apart),Zg ((Qi l to fr).text),XQ ((Qi l to fr).dummies),X8 ((Qi l to fr).wide),Zg ((Qi l to fr).proof)]from by(rw[f1_2,show q=fr.length by omega,List.take_length];rfl)<;>rfl))))
theorem ZnX {J:WP} (hJ:Stab J)   :Fn prog J 30 [] (.tup [.agg (dbC exDb),.agg (pfC ZhH)]):=by
 refine fE Tryz.func30 fun S w0 hS hJ0=>?_
 refine tw Z4 (tsq ?_)
 refine Zv Zcb hJ Y Y Y (lb Y) fun b1=>?_
 refine Zv XS hJ Y Y Y (lb Y) fun b2=>?_
 refine seK [0,1] U2 Y (nx (qso tb hJ [0,1,1000] [_] U3 ?_))
 refine tsq (snK 1 tb Y (sy (.agg (frC (Qi (⟨#[116]⟩:BA) (⟨#[113]⟩:BA) ([]:List BA)))) (fun h=>Zax ((ZaF hJ (⟨#[116]⟩:BA) (⟨#[113]⟩:BA) ([]:List BA) dz dz dz).rr) Zfl Y (h.get 0 Y) (Zk hS _ h.keep h.x) (h.x.1) Zq (Za (Rel.of_lit (.string { data:= #[116] }) (lb Y)) (Za (Rel.of_lit (.string { data:= #[113] }) (lb Y)) (Za (ZgX (Rel.of_lit (.slice none 0 0))) Zc))) (jo hJ h.x)) ?_))
 refine Zv QF hJ Y Y Y (lb Y) fun b3=>?_
 refine Zn (b:=b3) (off:=0) (es:=U8) (news:=U8) hJ hJ0 Zer Y Y Y (lb Y) Y (fun a w h=>⟨(h.get 0 Y),(h.get 1 Y)⟩) ?_
 refine seK [0,3,4,5] U4 Y (nx (tsq ?_))
 refine sy (.at b3 1) (fun h=>Zx ZnB Y (h.get 0 Y) h.x) ?_
 refine Z6 (b:=b3) (off:=1) (es:=U8) hJ hJ0 ZbK Y Y Y (lb Y) Y (fun a w h=>⟨(h.get 0 Y),(Rel.of_lit (.bool true))⟩) ?_
 refine seK [1,2,3,4] U4 Y (nx (tw (ob0 (show OB.var b3 [lS ((Qi (⟨#[116]⟩:BA) (⟨#[113]⟩:BA) ([]:List BA)).label),lB true,XQ ((Qi (⟨#[116]⟩:BA) (⟨#[113]⟩:BA) ([]:List BA)).hyps),X8 ((Qi (⟨#[116]⟩:BA) (⟨#[113]⟩:BA) ([]:List BA)).apart),Zg ((Qi (⟨#[116]⟩:BA) (⟨#[113]⟩:BA) ([]:List BA)).text),XQ ((Qi (⟨#[116]⟩:BA) (⟨#[113]⟩:BA) ([]:List BA)).dummies),X8 ((Qi (⟨#[116]⟩:BA) (⟨#[113]⟩:BA) ([]:List BA)).wide),Zg ((Qi (⟨#[116]⟩:BA) (⟨#[113]⟩:BA) ([]:List BA)).proof)]=OB.var b3 (frC ({ Qi ⟨#[116]⟩ ⟨#[113]⟩ []with thm:=true }:Fr))from Y)) ?_))
 refine Zf (fun a w h=>Zal [OB.var b3 (frC ({ Qi ⟨#[116]⟩ ⟨#[113]⟩ []with thm:=true }:Fr)),OB.var b2 [Yv ([]:List Stp)],OB.var b1 [Zg ([]:List BA),Zg ([]:List BA),ZaU ([]:List Fr)]] (γ:=Nat) (fun ix'=>([.rd (Zg ([(⟨#[124,45]⟩:BA),(⟨#[112]⟩:BA),(⟨#[113]⟩:BA),(⟨#[114]⟩:BA)]:List BA)),.fn 60 [],.agg (frC (Qi (⟨#[97]⟩:BA) (⟨#[112]⟩:BA) ([]:List BA))),.fn 60 [],.rd (Zg ([(⟨#[112]⟩:BA)])),.agg (frC (Qi (⟨#[98]⟩:BA) (⟨#[113]⟩:BA) ([(⟨#[112]⟩:BA)]))),.fn 60 [],.rd (Zg ([(⟨#[113]⟩:BA)])),.agg (frC (Qi (⟨#[99]⟩:BA) (⟨#[114]⟩:BA) ([(⟨#[113]⟩:BA)]))),.fn 60 [],.rd (Zg ([(⟨#[114]⟩:BA)])),.agg (frC (Qi (⟨#[100]⟩:BA) (⟨#[113]⟩:BA) ([(⟨#[114]⟩:BA)]))),.agg (frC ({ Qi ⟨#[116]⟩ ⟨#[113]⟩ []with thm:=true }:Fr)),.rd (ZaU ([(Qi (⟨#[97]⟩:BA) (⟨#[112]⟩:BA) ([]:List BA)),(Qi (⟨#[98]⟩:BA) (⟨#[113]⟩:BA) ([(⟨#[112]⟩:BA)])),(Qi (⟨#[99]⟩:BA) (⟨#[114]⟩:BA) ([(⟨#[113]⟩:BA)])),(Qi (⟨#[100]⟩:BA) (⟨#[113]⟩:BA) ([(⟨#[114]⟩:BA)])),({ Qi ⟨#[116]⟩ ⟨#[113]⟩ []with thm:=true }:Fr)])),.agg (dbC (⟨([(⟨#[124,45]⟩:BA),(⟨#[112]⟩:BA),(⟨#[113]⟩:BA),(⟨#[114]⟩:BA)]:List BA),[],[(Qi (⟨#[97]⟩:BA) (⟨#[112]⟩:BA) ([]:List BA)),(Qi (⟨#[98]⟩:BA) (⟨#[113]⟩:BA) ([(⟨#[112]⟩:BA)])),(Qi (⟨#[99]⟩:BA) (⟨#[114]⟩:BA) ([(⟨#[113]⟩:BA)])),(Qi (⟨#[100]⟩:BA) (⟨#[113]⟩:BA) ([(⟨#[114]⟩:BA)])),({ Qi ⟨#[116]⟩ ⟨#[113]⟩ []with thm:=true }:Fr)]⟩:Db)),.any,.any]:List AV).getD ix' .any) (fun _=>true) [(1,fun _=>.at b2 0),(0,fun _=>.at b1 0),(4,fun g=>.at g 0)] (fun(b:List Bool) (g:Nat)=>(bif b.getD 1 false then [OB.var g (dbC (⟨([(⟨#[124,45]⟩:BA),(⟨#[112]⟩:BA),(⟨#[113]⟩:BA),(⟨#[114]⟩:BA)]:List BA),[],[(Qi (⟨#[97]⟩:BA) (⟨#[112]⟩:BA) ([]:List BA)),(Qi (⟨#[98]⟩:BA) (⟨#[113]⟩:BA) ([(⟨#[112]⟩:BA)])),(Qi (⟨#[99]⟩:BA) (⟨#[114]⟩:BA) ([(⟨#[113]⟩:BA)])),(Qi (⟨#[100]⟩:BA) (⟨#[113]⟩:BA) ([(⟨#[114]⟩:BA)])),({ Qi ⟨#[116]⟩ ⟨#[113]⟩ []with thm:=true }:Fr)]⟩:Db))]else(bif b.getD 0 false then [OB.var g [Zg ([]:List BA),Zg ([]:List BA),ZaU ([]:List Fr)]]else []))++([OB.var b3 (frC ({ Qi ⟨#[116]⟩ ⟨#[113]⟩ []with thm:=true }:Fr)),OB.var b2 [Yv ([]:List Stp)],OB.var b1 [Zg ([]:List BA),Zg ([]:List BA),ZaU ([]:List Fr)]])) (fun k' g=>match k' with | 0=>(.pointer (some ⟨g,0,none⟩)) | _=>undef) [15,16] 0 (fun _=>Y) h hJ Yo Y Y Y Y (fun b g p hp=>(List.mem_append_right _ hp)) ⟨?_,?_,?_,?_,?_,?_,?_,?_,?_,?_,?_,?_,?_,?_,?_,?_,?_,U⟩ ⟨?e4_1_0,?e4_1_1,U⟩ ⟨.old 1 1 _,.old 2 0 _,.eff 0 15 4 (fun(g:Nat)=>(.pointer (some ⟨g,0,none⟩))) Y Y (fun _=>Y) (fun _=>True.intro),U⟩ ?n4_1)
 exact fun _ O' _=>⟨Y,fun a _ hk hx _ _=>Zan (k:=4) (us:=[a.eval (.const (.string { data:= #[124,45] })),a.eval (.const (.string { data:= #[112] })),a.eval (.const (.string { data:= #[113] })),a.eval (.const (.string { data:= #[114] }))]) Zj Zeb Y yz (Zt (Rel.of_lit (.string { data:= #[124,45] }) (lb Y)) (Zt (Rel.of_lit (.string { data:= #[112] }) (lb Y)) (Zt (Rel.of_lit (.string { data:= #[113] }) (lb Y)) (Zt (Rel.of_lit (.string { data:= #[114] }) (lb Y)) Z0)))) Y dz dz (Zk hS _ hk hx _ nlr) (jo hJ hx)⟩
 exact oX Y fun hx hl=>ZV Y (hl.env 3 2 _ Y Y) hx
 exact oY Y fun hk hx hl=>Zax ((ZaF hJ (⟨#[97]⟩:BA) (⟨#[112]⟩:BA) ([]:List BA) dz dz dz).rr) Zfl Y (hl.D 1 9 Y Y) (Zk hS _ hk hx) (hx.1) Zq (Za (Rel.of_lit (.string { data:= #[97] }) (lb Y)) (Za (Rel.of_lit (.string { data:= #[112] }) (lb Y)) (Za (ZgX (Rel.of_lit (.slice none 0 0))) Zc))) (jo hJ hx)
 exact oX Y fun hx hl=>ZV Y (hl.env 3 2 _ Y Y) hx
 exact fun _ O' _=>⟨Y,fun _ _ hk hx _ _=>YI Zj Zbn Y (Rel.of_lit (.string { data:= #[112] }) (lb Y)) (Zk hS _ hk hx _ nlr) (jo hJ hx)⟩
 exact oY Y fun hk hx hl=>Zax ((ZaF hJ (⟨#[98]⟩:BA) (⟨#[113]⟩:BA) ([(⟨#[112]⟩:BA)]) dz dz dz).rr) Zfl Y (hl.D 3 11 Y Y) (Zk hS _ hk hx) (hx.1) Zq (Za (Rel.of_lit (.string { data:= #[98] }) (lb Y)) (Za (Rel.of_lit (.string { data:= #[113] }) (lb Y)) (Za (hl.D 4 12 Y Y) Zc))) (jo hJ hx)
 exact oX Y fun hx hl=>ZV Y (hl.env 3 2 _ Y Y) hx
 exact fun _ O' _=>⟨Y,fun _ _ hk hx _ _=>YI Zj Zbn Y (Rel.of_lit (.string { data:= #[113] }) (lb Y)) (Zk hS _ hk hx _ nlr) (jo hJ hx)⟩
 exact oY Y fun hk hx hl=>Zax ((ZaF hJ (⟨#[99]⟩:BA) (⟨#[114]⟩:BA) ([(⟨#[113]⟩:BA)]) dz dz dz).rr) Zfl Y (hl.D 6 14 Y Y) (Zk hS _ hk hx) (hx.1) Zq (Za (Rel.of_lit (.string { data:= #[99] }) (lb Y)) (Za (Rel.of_lit (.string { data:= #[114] }) (lb Y)) (Za (hl.D 7 15 Y Y) Zc))) (jo hJ hx)
 exact oX Y fun hx hl=>ZV Y (hl.env 3 2 _ Y Y) hx
 exact fun _ O' _=>⟨Y,fun _ _ hk hx _ _=>YI Zj Zbn Y (Rel.of_lit (.string { data:= #[114] }) (lb Y)) (Zk hS _ hk hx _ nlr) (jo hJ hx)⟩
 exact oY Y fun hk hx hl=>Zax ((ZaF hJ (⟨#[100]⟩:BA) (⟨#[113]⟩:BA) ([(⟨#[114]⟩:BA)]) dz dz dz).rr) Zfl Y (hl.D 9 17 Y Y) (Zk hS _ hk hx) (hx.1) Zq (Za (Rel.of_lit (.string { data:= #[100] }) (lb Y)) (Za (Rel.of_lit (.string { data:= #[113] }) (lb Y)) (Za (hl.D 10 18 Y Y) Zc))) (jo hJ hx)
 exact fun _ O' hO'=>⟨Y,fun _ _ _ hx hl _=>Yb (ds:=[lS (({ Qi ⟨#[116]⟩ ⟨#[113]⟩ []with thm:=true }:Fr).label),lB (({ Qi ⟨#[116]⟩ ⟨#[113]⟩ []with thm:=true }:Fr).thm),XQ (({ Qi ⟨#[116]⟩ ⟨#[113]⟩ []with thm:=true }:Fr).hyps),X8 (({ Qi ⟨#[116]⟩ ⟨#[113]⟩ []with thm:=true }:Fr).apart),Zg (({ Qi ⟨#[116]⟩ ⟨#[113]⟩ []with thm:=true }:Fr).text),XQ (({ Qi ⟨#[116]⟩ ⟨#[113]⟩ []with thm:=true }:Fr).dummies),X8 (({ Qi ⟨#[116]⟩ ⟨#[113]⟩ []with thm:=true }:Fr).wide),Zg (({ Qi ⟨#[116]⟩ ⟨#[113]⟩ []with thm:=true }:Fr).proof)]) ZbY Y (Ze hx (hO' _ (mo 0 Y))) (hl.env 0 3 _ Y Y) Y Y hx⟩
 exact fun _ O' _=>⟨Y,fun a w hk hx hl _=>ZuG (z:= #[.string ⟨#[]⟩,.bool false,.slice none 0 0,.slice none 0 0,.slice none 0 0,.slice none 0 0,.slice none 0 0,.slice none 0 0]) (cs:=[frC (Qi (⟨#[97]⟩:BA) (⟨#[112]⟩:BA) ([]:List BA)),frC (Qi (⟨#[98]⟩:BA) (⟨#[113]⟩:BA) ([(⟨#[112]⟩:BA)])),frC (Qi (⟨#[99]⟩:BA) (⟨#[114]⟩:BA) ([(⟨#[113]⟩:BA)])),frC (Qi (⟨#[100]⟩:BA) (⟨#[113]⟩:BA) ([(⟨#[114]⟩:BA)])),frC ({ Qi ⟨#[116]⟩ ⟨#[113]⟩ []with thm:=true }:Fr)]) (vs:=[a.eval (.tmp 10),a.eval (.tmp 13),a.eval (.tmp 16),a.eval (.tmp 19),a.eval (.tmp 20)]) Yu (fun w=>by kernel_rfl) Y yz (Za (hl.D 2 10 Y Y) (Za (hl.D 5 13 Y Y) (Za (hl.D 8 16 Y Y) (Za (hl.D 11 19 Y Y) (Za (hl.D 12 20 Y Y) Zc))))) (of_decide_eq_true Y) Y dz dz dz (Zk hS _ hk hx _ nlr) (jo hJ hx)⟩
 exact oX Y fun hx hl=>ZoR (xs:=([(⟨#[124,45]⟩:BA),(⟨#[112]⟩:BA),(⟨#[113]⟩:BA),(⟨#[114]⟩:BA)]:List BA)) (fs:=([(Qi (⟨#[97]⟩:BA) (⟨#[112]⟩:BA) ([]:List BA)),(Qi (⟨#[98]⟩:BA) (⟨#[113]⟩:BA) ([(⟨#[112]⟩:BA)])),(Qi (⟨#[99]⟩:BA) (⟨#[114]⟩:BA) ([(⟨#[113]⟩:BA)])),(Qi (⟨#[100]⟩:BA) (⟨#[113]⟩:BA) ([(⟨#[114]⟩:BA)])),({ Qi ⟨#[116]⟩ ⟨#[113]⟩ []with thm:=true }:Fr)])) ZnK Y (hl.D 0 8 Y Y) (hl.D 13 21 Y Y) hx
 exact Zh Y
 exact Zh Y
 case e4_1_0=>exact Zhe [[false,false]] V Y Y Y Y ⟨fun _ _ w hk hx _ _=>Zl (Qs Zcb hJ Y hk hx) fun v w' ⟨b',hv,hp⟩=>⟨b',(fun k' hk'=>by rcases k' with _ | _ | k'<;>first | rfl | cases hk'),fun _=>hv,True.intro,hp⟩,U⟩
 case e4_1_1=>exact Zhe [[true,false]] V Y Y Y Y ⟨fun g _ w hk hx hl hs=>(by obtain⟨us2,hv2,hr3⟩:=Q0 (hl.D 14 22 Y Y);exact Zl (Xz (S':=S) (off:=0) (news:=U3) (es:=U3) (us:=us2) hJ hJ0 Zes Y hk hx (ZcA (hs 0 15 _ 4 Y Y Y Y)) (by rw[hv2];rfl) hr3 (lb Y) Y) fun v w' hp=>⟨g,fun _ _=>rfl,fun e=>(by cases e),True.intro,hp⟩),U⟩
 clear a w h
 intro b4
 dsimp only[List.map]
 refine kw (fun h=>ZP hS h (m:=2) (s:=4) Y) (nx (tsq ?_))
 refine snK 1 tb Y (sq (.agg (spC (⟨(⟨#[97]⟩:BA),[]⟩:Stp))) Y Y (lb Y) (fun a _ h=>Y7 (ps:=[(0,a.eval (.const (.string { data:= #[97] })))]) (us:=[a.eval (.const (.string { data:= #[97] })),.slice none 0 0]) Zjb Y yz (ZnM (lb Y) Y Zjr) Y (Zt (Rel.of_lit (.string { data:= #[97] }) (lb Y)) (X1 (.nil _ _ nzl) Z0)) h.x) ?_)
 refine sy (.rd (Z3 ([(0:Int)]))) (fun h=>YI Zw Zea Y (Rel.of_lit (.int .i64 0)) (Zk hS _ h.keep h.x _ nlr) (jo hJ h.x)) ?_
 refine sq (.agg (spC (⟨(⟨#[98]⟩:BA),[(0:Int)]⟩:Stp))) Y Y (lb Y) (fun a _ h=>XR (us:=[a.eval (.const (.string { data:= #[98] })),a.eval (.tmp 25)]) ZbV Y yz (Zt (Rel.of_lit (.string { data:= #[98] }) (lb Y)) (Zt (h.get 0 Y) Z0)) Y h.x) ?_
 refine sy (.rd (Z3 ([(1:Int)]))) (fun h=>YI Zw Zea Y (Rel.of_lit (.int .i64 1)) (Zk hS _ h.keep h.x _ nlr) (jo hJ h.x)) ?_
 refine sq (.agg (spC (⟨(⟨#[99]⟩:BA),[(1:Int)]⟩:Stp))) Y Y (lb Y) (fun a _ h=>XR (us:=[a.eval (.const (.string { data:= #[99] })),a.eval (.tmp 27)]) ZbV Y yz (Zt (Rel.of_lit (.string { data:= #[99] }) (lb Y)) (Zt (h.get 0 Y) Z0)) Y h.x) ?_
 refine sy (.rd (Z3 ([(2:Int)]))) (fun h=>YI Zw Zea Y (Rel.of_lit (.int .i64 2)) (Zk hS _ h.keep h.x _ nlr) (jo hJ h.x)) ?_
 refine sq (.agg (spC (⟨(⟨#[100]⟩:BA),[(2:Int)]⟩:Stp))) Y Y (lb Y) (fun a _ h=>XR (us:=[a.eval (.const (.string { data:= #[100] })),a.eval (.tmp 29)]) ZbV Y yz (Zt (Rel.of_lit (.string { data:= #[100] }) (lb Y)) (Zt (h.get 0 Y) Z0)) Y h.x) ?_
 refine sq (.rd (Yv ([(⟨(⟨#[97]⟩:BA),[]⟩:Stp),(⟨(⟨#[98]⟩:BA),[(0:Int)]⟩:Stp),(⟨(⟨#[99]⟩:BA),[(1:Int)]⟩:Stp),(⟨(⟨#[100]⟩:BA),[(2:Int)]⟩:Stp)]))) Y Y (lb Y) (fun a _ h=>ZuG (z:= #[.string ⟨#[]⟩,.slice none 0 0]) (cs:=[spC (⟨(⟨#[97]⟩:BA),[]⟩:Stp),spC (⟨(⟨#[98]⟩:BA),[(0:Int)]⟩:Stp),spC (⟨(⟨#[99]⟩:BA),[(1:Int)]⟩:Stp),spC (⟨(⟨#[100]⟩:BA),[(2:Int)]⟩:Stp)]) (vs:=[a.eval (.tmp 24),a.eval (.tmp 26),a.eval (.tmp 28),a.eval (.tmp 30)]) Z1 (fun w=>by kernel_rfl) Y yz (Za (h.get 6 Y) (Za (h.get 4 Y) (Za (h.get 2 Y) (Za (h.get 0 Y) Zc)))) (of_decide_eq_true Y) Y dz dz dz (Zk hS _ h.keep h.x _ nlr) (jo hJ h.x)) ?_
 refine sq (.agg (pfC ([(⟨(⟨#[97]⟩:BA),[]⟩:Stp),(⟨(⟨#[98]⟩:BA),[(0:Int)]⟩:Stp),(⟨(⟨#[99]⟩:BA),[(1:Int)]⟩:Stp),(⟨(⟨#[100]⟩:BA),[(2:Int)]⟩:Stp)]))) Y Y (lb Y) (fun a _ h=>XR (us:=[a.eval (.tmp 31)]) Zdp Y yz (Zt (h.get 0 Y) Z0) Y h.x) ?_
 refine kw pm2 (Zn (b:=b1) (off:=0) (es:=U3) (news:=U3) hJ hJ0 Zes Y Y Y (lb Y) Y (fun a w h=>⟨(h.get 12 Y),(h.get 9 Y)⟩) ?_)
 refine kw pm2 (Zn (b:=b2) (off:=0) (es:=[_]) (news:=[_]) hJ hJ0 Yt Y Y Y (lb Y) Y (fun a w h=>⟨(h.get 11 Y),(h.get 0 Y)⟩) ?_)
 refine seK [1,3,5,7,11,12] U6 Y (nx (ln 0 fun hl1=>?_))
 refine ln 1 fun hl2=>?_
 refine ln 2 fun hl3=>?_
 refine ln 3 fun hl4=>?_
 exact tw pm1 (Zs (fun a w h=>ZsB (m:=5) (q:=4) Y ZhD Z5 h Y Y Y Y (show(_:List CD)=[Zg exDb.consts,Zg exDb.vars,ZaU exDb.frames]from Y) (show(_:List CD)=[Yv ZhH]from Y)))
theorem ZxJ:Zi prog 30:=Zm Tryz.func30 Y Y
theorem ZxM:Zi prog 15:=Zm Tryz.func15 Y Y
theorem ZqX:Zi prog 31:=Zm Tryz.func31 Y Y
theorem call_8:Zi prog 8:=Zm Tryz.func8 Y Y
theorem Zme:Zi prog 9:=Zm Tryz.func9 Y Y
theorem ZxN:Zi prog 14:=Zm Tryz.func14 Y Y
theorem Zrr:Zup prog 28 1:=⟨(#[.slice none 0 0]),Y,by kernel_rfl⟩
theorem Zcn {J:WP} (hJ:Stab J)  (hG:Xm J):Fn prog J 9 [] (.bool true):=by
 refine fE Tryz.func9 fun S w0 hS hJ0=>?_
 refine tw Z4 ?_
 obtain⟨lc,hlc⟩:=ex_law
 obtain⟨xs,hxs⟩:∃ xs,Zd4 (jbG exDb 4 ZhH) 3=xs:=⟨_,Y⟩
 rw[hxs]at hlc
 have hxl:0<xs.length:=by rw[hlc];simp
 refine qso tb hJ [] [_] [] ?_
 refine tsq (sy (.tup [.agg (dbC exDb),.agg (pfC ZhH)]) (fun h=>ZaL (ZnX hJ  ) ZxJ Y (Zk hS _ h.keep h.x) (h.x.1) Zc (jo hJ h.x)) ?_)
 refine snK 3 tb Y (Zv Zcb hJ Y Y Y (lb Y) fun b1=>?_)
 refine Zv XS hJ Y Y Y (lb Y) fun b2=>?_
 refine kw pm1 (Zn (b:=b1) (off:=0) (es:=U3) (news:=U3) hJ hJ0 Zes Y Y Y (lb Y) Y (fun a w h=>⟨(h.get 1 Y),(h.get 3 Y)⟩) ?_)
 refine kw pm1 (Zn (b:=b2) (off:=0) (es:=[_]) (news:=[_]) hJ hJ0 Yt Y Y Y (lb Y) Y (fun a w h=>⟨(h.get 0 Y),(h.get 2 Y)⟩) ?_)
 refine kw pm1 (kw (fun h=>ZP hS h (m:=1) (s:=1) Y) ?_)
 refine kw (fun h=>ZP hS h (m:=1) (s:=2) Y) (seK [0,1] U2 Y ?_)
 refine nx (Zf (YU tb hJ [1004,1006,1007] [_,_,.tup [.rd (Zfi (Zd4 (jbG exDb (4:Int) ZhH) 3)),.int 0],_,_,_,_,_] [2] U3 Y ⟨iFo hS hJ (Zpj hJ exDb (4:Int) ZhH 3 dz (by exact hG) (by exact Zs9) dz dz dz) ZxM,U⟩ ?_))
 refine kw (sa 1 Y (congrArg (fun z'=>AV.rd (Zfi z')) (show(Zd4 (jbG exDb (4:Int) ZhH) 3)=xs from hxs))) (nx (ln 0 fun hl1=>?_))
 refine ln 1 fun hl2=>?_
 refine ZF tb hJ [1036] (V4 [.int (xs.length:Nat),_,_,_,_,.ptr (chC (ge xs 0)),_,_,_,_,_,_,.ptr (chC (ge xs 0)),_,_,.rd (Z3 ([(1:Int)])),.bool (decide (((ge xs 0).args)=([(1:Int)]))),_,_,_,.ptr (chC (ge xs 0)),_,_,_,_,_,_,.ptr (chC (ge xs 0)),_,_,_,_,_]) [4,9,16,19,20,24,31] [_] Y ⟨Ym YP,gIx (k:=0) YO (hk:=fun _=>by first | omega | (simp;omega) | grind[Zp]),gIx (k:=0) YO (hk:=fun _=>by first | omega | (simp;omega) | grind[Zp]),fun _ _ hk hx _ _=>YI Zw Zea Y (Rel.of_lit (.int .i64 1)) (Zk hS _ hk hx _ nlr) (jo hJ hx),iFo hS hJ (Zlz hJ ((ge xs 0).args) ([(1:Int)])) ZqX,gIx (k:=0) YO (hk:=fun _=>by first | omega | (simp;omega) | grind[Zp]),gIx (k:=0) YO (hk:=fun _=>by first | omega | (simp;omega) | grind[Zp]),U⟩ ?_
 exact tRo 0 (hE:=eB (by rw[hlc];simp[ge]))
end Go.Proofs.YtdfadihhfppjaaaGreatDoor
namespace Go.Proofs.YtdfadihhfppjaaaGreatDoor
abbrev Zum (c:Chg) (a:Int):Bool:=decide (a<0)||decide (c.step≤a)
section
variable {j:Jb} {c:Chg}
theorem ZsQ (h:c.args.any (Zum c)=true):ZaR j c=false:=by
 obtain⟨a,ha,h1⟩:=List.any_eq_true.1 h
 have h2:(c.args.all fun a=>decide (0≤a∧a<c.step))=false:=by
  rw[List.all_eq_false]
  refine⟨a,ha,?_⟩
  have h3:a<0∨c.step≤a:=by simpa [Zum]using h1
  simp only[decide_eq_true_eq]
  omega
 rw[ZaR,h2,Bool.false_and,Bool.false_and]
theorem Zp1 (h:c.args.any (Zum c)=false):∀ a∈c.args,0≤a∧a<c.step:=by
 intro a ha
 have h1:=List.any_eq_false.1 h a ha
 have h3:¬ (a<0∨c.step≤a):=by simpa [Zum]using h1
 omega
theorem ZsR (h:c.args.any (Zum c)=false):(c.args.all fun a=>decide (0≤a∧a<c.step))=true:=
 List.all_eq_true.2 fun a ha=>decide_eq_true (Zp1 h a ha)
def ZcL (j:Jb) (c:Chg):Bool:=
 if c.reason=1 then decide (c.label=⟨#[]⟩∧c.args.length=1∧ge j.ts (ge c.args 0).toNat=ge j.ts c.step.toNat)
  else decide (0≤Yk j.d c.label∧Yk j.d c.label< (j.i:Int)∧c.args.length=(ge j.d.frames (Yk j.d c.label).toNat).hyps.length)&&Zdj j (ge j.d.frames (Yk j.d c.label).toNat) c.args c.step.toNat
theorem Zp0 (h:ZcL j c=false):ZaR j c=false:=by
 have e:ZaR j c=(c.args.all (fun a=>decide (0≤a∧a<c.step))&&ZcL j c&&decide ((Y6 j.ss c).length<Yh j.ss∧(Yh j.ss:Int)=c.before∧((Y6 j.ss c).length:Int)=c.after)):=rfl
 rw[e,h,Bool.and_false,Bool.false_and]
theorem ZlR (h0:c.args.any (Zum c)=false) (h:ZcL j c=true):ZaR j c=decide ((Y6 j.ss c).length<Yh j.ss∧(Yh j.ss:Int)=c.before∧((Y6 j.ss c).length:Int)=c.after):=by
 have e:ZaR j c=(c.args.all (fun a=>decide (0≤a∧a<c.step))&&ZcL j c&&decide ((Y6 j.ss c).length<Yh j.ss∧(Yh j.ss:Int)=c.before∧((Y6 j.ss c).length:Int)=c.after)):=rfl
 rw[e,h,ZsR h0,Bool.true_and,Bool.true_and]
theorem ZiR (h:ZaR j c=true):(∀ a∈c.args,0≤a∧a<c.step)∧ZcL j c=true∧(Y6 j.ss c).length<Yh j.ss:=by
 have e:ZaR j c=(c.args.all (fun a=>decide (0≤a∧a<c.step))&&ZcL j c&&decide ((Y6 j.ss c).length<Yh j.ss∧(Yh j.ss:Int)=c.before∧((Y6 j.ss c).length:Int)=c.after)):=rfl
 rw[e,Bool.and_eq_true,Bool.and_eq_true]at h
 exact⟨fun a ha=>of_decide_eq_true (List.all_eq_true.1 h.1.1 a ha),h.1.2,(of_decide_eq_true h.2).1⟩
theorem ZcM {ss:List Stp}:((decide (((Y6 ss c).length:Int)< (Yh ss:Int))&&decide ((X3 ss c).before=c.before))&&decide ((X3 ss c).after=c.after))=decide ((Y6 ss c).length<Yh ss∧(Yh ss:Int)=c.before∧((Y6 ss c).length:Int)=c.after):=by
 rw[Bool.eq_iff_iff]
 simp only[Bool.and_eq_true,decide_eq_true_eq]
 exact⟨fun h=>⟨oz,h.1.2,h.2⟩,fun h=>⟨⟨oz,h.2.1⟩,h.2.2⟩⟩
theorem ZsI (h:ZcL j c=true):¬ c.reason=1∨c.args.length=1:=by
 by_cases h1:c.reason=1
 · rw[ZcL,if_pos h1]at h
   exact .inr (of_decide_eq_true h).2.1
 · exact .inl h1
end
section
variable {d:Db} {z:Int} {ss q:List Stp} {c:Chg} {l:List Chg} {k:Nat}
theorem Zq7:(YW d z ss c).1.length≤ss.length:=by
 unfold YW
 split
 · exact Nat.zero_le _
 · split
   · exact Nat.zero_le _
   · split
     · exact Nat.zero_le _
     · split
       · exact Nat.zero_le _
       · rename_i h
         have h1:ZaR (jbG d z ss) c=true:=by cases e:ZaR (jbG d z ss) c<;>simp_all
         have h2:(Y6 ss c).length<Yh ss:=(ZiR h1).2.2
         have h3:=Zcw ss
         show(Y6 ss c).length≤ss.length
         omega
theorem Zvc (h:k<l.length):QH d z q k ss (l.drop k)=if(YW d z ss (ge l k)).2=0 then QH d z q (k+1) (YW d z ss (ge l k)).1 (l.drop (k+1))else((k:Int),(YW d z ss (ge l k)).2):=by
 rw[List.drop_eq_getElem_cons h,←Yj h,QH]
theorem ZqH (h:k=l.length):QH d z q k ss (l.drop k)=if ss=q then((k:Int),0)else((k:Int),261):=by
 rw[List.drop_of_length_le oz,QH]
def ckG (d:Db) (z:Int) (ss q:List Stp) (l:List Chg):Int×Int:=if ZD d z ss=0 then QH d z q 0 ss l else(0,ZD d z ss)
theorem siz_at {s t:Int} (h:ZoE s (l.drop k)=some t) (hk:k<l.length):(ge l k).before=s∧(ge l k).after<s∧ZoE (ge l k).after (l.drop (k+1))=some t:=by
 rw[List.drop_eq_getElem_cons hk,←Yj hk,ZoE]at h
 split at h
 · rename_i h1;exact⟨h1.1,h1.2,h⟩
 · cases h
theorem ZvP {s t:Int} (h:ZoE s (l.drop k)=some t) (hk:¬ k<l.length):s=t:=by
 rw[List.drop_of_length_le oz]at h
 exact Option.some.inj h
end
theorem Zpv {d:Db} {z:Int} {ss:List Stp} {most:Nat} (h:¬ (Y5 d z ss most).2.2=0):(Y5 d z ss most).1=[]∧(Y5 d z ss most).2.1=[]:=by
 by_cases h1:ZD d z ss=0
 · have e:Y5 d z ss most=Zb2 (ZD d z) (fun s=>Zb3 (jbG d z s)) most ss []:=if_pos h1
   rw[e]at h ⊢
   exact ZlI _ _ _ h
 · have e:Y5 d z ss most=([],[],ZD d z ss):=if_neg h1
   rw[e]
   exact⟨rfl,rfl⟩
theorem Zix {d:Db} {z:Int} (hf:d.frames.length≤16) (hw:∀ f∈d.frames,f.wide.length*32≤140737488351232):∀(k:Nat) (ss:List Stp) (l:List Chg),ZD d z ss=0→ss.length≤16→(∀ c∈l,c.args.length≤40)→
 ∀ c∈(Zb2 (ZD d z) (fun s=>Zb3 (jbG d z s)) k ss l).2.1,c.args.length≤40
 | 0,ss,l,_,_,hl=>hl
 | k+1,ss,l,hr,h16,hl=>by
  rw[Zb2]
  cases hl2:Zb3 (jbG d z ss)with
  | nil=>exact hl
  | cons c cs=>
   dsimp only
   have hm:Xd c cs∈Zb3 (jbG d z ss):=by rw[hl2];rcases ZaQ cs c with h | h<;>simp[h]
   by_cases h0:ZD d z (Y6 ss (Xd c cs))=0
   · rw[if_pos h0]
     have h1:=Zkv (d:=d) (z:=z) ss _ hm
     have h2:=Zcw ss
     refine Zix hf hw k _ _ h0 oz fun x hx=>?_
     rcases List.mem_append.1 hx with hx | hx
     · exact hl x hx
     · rw[List.mem_singleton.1 hx]
       exact(ZmB (Zg6 hr h16 hf hw) hm).2.2.2.1
   · rw[if_neg h0]
     intro x hx;cases hx
theorem Zpw {d:Db} {z:Int} {ss:List Stp} {most:Nat} (hf:d.frames.length≤16) (hw:∀ f∈d.frames,f.wide.length*32≤140737488351232) (h16:ss.length≤16):∀ c∈(Y5 d z ss most).2.1,c.args.length≤40:=by
 by_cases h1:ZD d z ss=0
 · have e:Y5 d z ss most=Zb2 (ZD d z) (fun s=>Zb3 (jbG d z s)) most ss []:=if_pos h1
   rw[e]
   exact Zix hf hw _ _ _ h1 h16 fun c hc=>by cases hc
 · have e:Y5 d z ss most=([],[],ZD d z ss):=if_neg h1
   rw[e]
   intro x hx;cases hx
theorem ZvI {a b:Stp}:(decide (a.label=b.label)&&decide (a.args=b.args))=decide (a=b):=by
 rw[Bool.eq_iff_iff]
 simp only[Bool.and_eq_true,decide_eq_true_eq]
 constructor
 · intro h
   cases a;cases b;simp_all
 · rintro rfl
   exact⟨rfl,rfl⟩
end Go.Proofs.YtdfadihhfppjaaaGreatDoor
namespace Go.Proofs.YtdfadihhfppjaaaGreatDoor
open Go.RowKit
section
variable {n:Rn} {P:Program} {l:List Oper} {Q:Exit→Act→WP} {ds:List Deferred}
theorem ZjE {F:Fence} {m:Nat} {o:Oper} {a:Act} {K:Act→WP} {r:Result Next} (h:o.uponIn F m P a K (Exit.then K Q) r):o.uponIn F m P a K Q r:=by
 cases r with
 | halt s w'=>cases s<;>exact h
 | ok x w'=>
  cases x with
  | enter f args=>
   rw[Oper.uponIn_enter]at h ⊢
   refine⟨h.1,h.2.mono fun e w'' he=>?_⟩
   cases e with
   | returned v=>exact he
   | panicked ch=>exact he
   | outgrown=>exact he
  | round l f tmps assign body=>
   rw[Oper.uponIn_round]at h ⊢
   refine⟨h.1,h.2.mono fun e w'' he=>?_⟩
   cases e with
   | returned v=>exact he
   | panicked ch=>exact he
   | outgrown=>exact he
  | _=>exact h
theorem ZpI {F:Fence} {m:Nat} {ops:Array Oper} {o:Oper} {rest:List Oper} {a:Act} {w:World} (h:wpListIn F m P ops (Exit.then (fun a w=>wpListIn F m P ops Q rest a w) Q) [o] a w):wpListIn F m P ops Q (o::rest) a w:=by
 unfold wpListIn at h ⊢
 split
 · rename_i hw
   rw[if_pos hw]at h
   exact⟨h.1,ZjE h.2⟩
 · rename_i hw
   rw[if_neg hw]at h
   exact⟨h.1,h.2⟩
theorem ZoJ {I:(Nat→Bool)→Act→WP} {id:Nat} {draw:Bool} {a:Act} {w:World} (hm:P.follows .mixedOrders=true) (hback:Zbm l=true)
 (hstep:∀(Q:Exit→Act→WP) (b:Nat→Bool) (a:Act) (w:World) (i:Nat) (o:Oper) (rest:List Oper),l[i]?=some o→b i=false→(∀ j∈ZL o,b j=true)→I b a w→(∀ a' w',I (Ye b i) a' w'→wpListIn n.F n.d P l.toArray Q rest a' w')→wpListIn n.F n.d P l.toArray Q (o::rest) a w)
 (hend:∀ a w,I (fun i=>decide (i<l.length)) a w→Q .normal (phi ds a) w) (h0:I (fun _=>false) a w) (hd:I (fun _=>false) a w.drew):(Code.region id l.toArray draw).wpIn n.F n.d P Q (phi ds a) w:=by
 refine ZgG (I:=fun b a' w'=>∃ a0,a'=phi ds a0∧I b a0 w') hm hback ?_ ?_ ⟨a,rfl,h0⟩ ⟨a,rfl,hd⟩
 · rintro Q b a1 w1 i o rest hi hb hj ⟨a0,rfl,h⟩ hK
   exact ZpI (Zai (hstep _ b a0 w1 i o [] hi hb hj h fun a' w' h'=>wpListIn_nil (hK _ _ ⟨a',rfl,h'⟩)))
 · rintro a1 w1 ⟨a0,rfl,h⟩
   exact hend a0 w1 h
section
variable {J:WP} {S:Nat→Prop} {w0:World} {env:List (Nat×AV)} {γ:Type}
theorem ZoH {N:Nat} {O:List OB} (Or:List OB) {id:Nat} {draw:Bool} {a:Act} {w:World} (avs:Nat→AV) (conds:Nat→Bool) (env':List (Nat×(γ→AV))) (F:List Bool→γ→List OB) (sv:Nat→γ→Value) (ch:List Nat) (g0:γ) (h0:∀ g,F (ch.map fun _=>false) g=O)
 (h:So J S w0 N O env a w) (hJ:Stab J) (hm:P.follows .mixedOrders=true) (hu:Y4 l=true) (hN:Q9 l N=true) (hback:Zbm l=true) (hnd:ZdA ch=true)
 (hsub:∀ b g p,p∈Or→p∈F b g) (ob:Obs (ObP n P J S Or w0 env l avs conds ch) 0 l) (eff:Effs (EffX n P J S w0 env l avs conds F sv ch) 0 ch) (hf:FromGs env l avs conds (fun k' g=>if k'<ch.length then sv k' g else undef) ch env')
 (hq:∀ g a w,So J S w0 N (F (ch.map fun _=>true) g) (env'.map fun p=>(p.1,p.2 g)) a w→Q .normal (phi ds a) w):(Code.region id l.toArray draw).wpIn n.F n.d P Q (phi ds a) w:=
 Zh8 (Q:=fun e a w=>Q e (phi ds a) w) (fun I h1 h2 h3 h4=>ZoJ (I:=I) hm hback h1 h2 h3 h4) Or avs conds env' F sv ch g0 h0 h hJ hu hN hnd hsub ob eff hf hq
end
theorem ZsC {J:WP} {S:Nat→Prop} {N:Nat} {P:Program} {w0:World} {O:List OB} {env:List (Nat×AV)} {fn:Func} {a:Act} {w:World} {b:Nat} {c1:CD} {t:TypeId} {d m q u x z:Nat} {a1 r1 r2 r3 r4:AV} (hr:fn.results= #[.cell d t,.tmp x,.tmp u]) (h1:XA P t) (h:So J S w0 N (OB.var b [c1]::O) env a w) (he:env[m]?=some (d,.at b 0)) (he1:env[z]?=some (x,r1)) (he2:env[q]?=some (u,r3)) (hE:AV.rd c1=a1) (hE1:r1=r2) (hE2:r3=r4):
 bodyPost P fn (fun e w'=>∃ v,e= .returned v∧Rel S w' (.tup [a1,r2,r4]) v∧Keeps All w0 w'∧J w') .ret a w:=by
 subst hE
 subst hE1
 subst hE2
 obtain⟨h0,us,e,hb,hrd⟩:=h.x.2.1 (OB.var b [c1]) yz
 match us,hrd with
 | [v1],hrd=>
  have hd:a.tmps.getD d undef= .pointer (some ⟨b,0,none⟩):=(h.get m he).lit
  have hd':a.tmps[d]?.getD undef= .pointer (some ⟨b,0,none⟩):=by rw[←Array.getD_eq_getD_getElem?];exact hd
  have hcell1:w.cell? ⟨b,0,none⟩=some v1:=by simp[World.cell?,hb]
  have h2:=(h.get q he2).sub (T:=S) fun _ _ hk=>hk.1
  have h3:=(h.get z he1).sub (T:=S) fun _ _ hk=>hk.1
  refine⟨h.defs,.tuple #[v1,a.tmps.getD x undef,a.tmps.getD u undef],by simp[results,hr,hd',asAddr,Sem.run_bind,loadVar,h1 w,hcell1],_,rfl,?_,h.keep,h.x.1⟩
  simp only[Rel,RelL]
  exact⟨_,rfl,_,_,rfl,(by simp only[RdL]at hrd;exact hrd.1.sub fun _ _ hk=>hk.1),_,_,rfl,h3,_,_,rfl,h2,rfl⟩
end
end Go.Proofs.YtdfadihhfppjaaaGreatDoor
