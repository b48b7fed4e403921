/-
  Part of the proof that MinimizeChecks returns true. Conditions: none.
-/
import Derived.Test.YtdfadihhfppjaaaGreatDoorBEL
import Derived.Test.YtdfadihhfppjaaaGreatDoorTie
import Derived.Deep.SlicePairs
import Derived.Deep.DeepHandedRow
import Derived.Lib.LaidTab
import Derived.Carry
namespace Go.Proofs.YtdfadihhfppjaaaGreatDoor
open Go.Proofs.Tryz
open List (all_eq_false all_eq_true)
section
open Go.ChangeShapes Go.WideShapes Go.ChangeAt Go.RowKit Go.Deep
def pE {H:Type} (t:TypeId) (d:DataW H):Prop:=∀ x∈d.weights prog t,x<=reachBytes
section
variable {H:Type} {enc:TypeId×Value->H} {W:World}
set_option maxRecDepth 100000 in
theorem L5:nL prog 10 25=some vV:=by kernel_rfl
set_option maxRecDepth 100000 in
theorem RU {r:Reach} {b0:Nat} {v:Value} {d:DataW H} {ps:List MemPlace} (ei:Value.okWide prog W r b0 25 v) (h:DataW.Trod enc prog W 0 (λ_=>true) true 25 v d ps) (hw:pE 25 d):∃ x:Db,Rel All W (.agg (bV x)) v/\x.Ok:=by
 simp only[Value.okWide,underlying25]at ei
 obtain⟨cs,rfl,hsz,_⟩:=ei
 obtain⟨n,hn⟩:=h
 obtain⟨ki,h1,h2⟩:=uF 10 25 vV L5 n _ _ hn hw
 obtain⟨x,rfl,bw⟩:=Nw h1
 refine⟨x,?_,bw⟩
 simp only[Rel]
 exact⟨cs.toList,by simp,by simpa [Value.cells]using h2⟩
theorem Qz:laidOutB prog=true:=by kernel_rfl
theorem Ja {W':World} {sp:Nat->Bool} (hsame:∀ p:MemPlace,p.block<W.heap.size->W.sameAt W' p):∀ {ts:List TypeId} {vs:List Value} {ds:List (DataW H)} {ps:List MemPlace},(∀ t∈ts,prog.readableRec t=true/\t<prog.types.size)->
 DataW.TrodAll enc prog W 0 (λ_=>true) true ts vs ds ps->(∀ p∈ps,p.block<W.heap.size)->(∀ p∈ps,sp p.block=true)->DataW.TrodAll enc prog W' 0 sp true ts vs ds ps
 | [],vs,ds,ps,_,h,_,_=>by
  obtain⟨rfl,rfl,rfl⟩:=trodAll_nil h
  exact trodAll_mk0
 | t::ts,vs,ds,ps,ht,h,hlt,hsp=>by
  obtain⟨v,vs',d,ds',p,q,rfl,rfl,rfl,h1,h2⟩:=trodAll_cons h
  have rS:=ht t yz
  exact trodAll_cons_mk (WideElems.Trod_stays Qz rS.1 rS.2 h1 (λx Z=>hsame x (hlt x (by simp[Z]))) λx Z=>hsp x (by simp[Z]))
   (Ja hsame (λt h=>ht t (by simp[h])) h2 (λx Z=>hlt x (by simp[Z])) λx Z=>hsp x (by simp[Z]))
set_option maxRecDepth 100000 in
theorem QB {f:Func} {s:ChangeSpec} {apart fresh handsOn again:Bool} {W':World} {args:Array Value} {ds gs:List (DataW H)} {before:List MemPlace}
 (hW:DataW.Whole enc prog f.params.toList s.vars apart W args.toList ds gs before) (oZ:s.vars=[]) (hr:f.resultTypes= #[4]) (hfn:s.fn H ds= { results:=[.lit (.bool true)],args:=ds })
 (jZ:∀ t∈f.params.toList,prog.readableRec t=true/\t<prog.types.size) (hk:Keeps All W W'):s.post enc prog f apart fresh handsOn again W args (.bool true) W':=by
 have hb:Below W.heap.size W W':=hk.below aV λ_ _=>trivial
 have E6:=hW
 obtain⟨p,q,hA,hV,rfl,hz,hn⟩:=hW
 rw[oZ]at hV
 obtain⟨rfl,rfl⟩:=trodVars_none hV
 have hlt:∀ x∈p,x.block<W.heap.size:=λx Z=>E6.lt x (by simpa using Z)
 have hfn':s.fn H (ds++[])= { results:=[.lit (.bool true)],args:=ds }:=by rw[List.append_nil];exact hfn
 have hres:∀(b:Nat) (sp:Nat->Bool) (hd:Bool),DataW.TrodAll enc prog W' b sp hd f.resultTypes.toList ((Value.bool true).resultList f.resultTypes.size) (s.fn H (ds++[])).results []:=λb sp hd=>by
  rw[hr,hfn']
  exact trodAll_cons_mk (shut_bool underlying4 true) trodAll_mk0
 have hargs:∀ sp:Nat->Bool,(∀ x∈p,sp x.block=true)->DataW.TrodAll enc prog W' 0 sp true f.params.toList args.toList (s.fn H (ds++[])).args p:=λsp hsp=>by
  rw[hfn']
  exact Ja (λx Z=>hb.same Z) jZ hA hlt hsp
 have hvars:∀ sp:Nat->Bool,DataW.TrodVars enc prog W' sp s.vars (s.fn H (ds++[])).vars []:=λsp=>by
  rw[hfn',oZ]
  rfl
 refine⟨ds,[],p++[],[],p,[],E6,hres _ _ _,hargs _ (λx Z=>by simpa using hlt x Z),hvars _,hb.frame _,λ_=>?_⟩
 refine⟨ok_one hr rfl (okWide_bool_mk underlying4 _),_,_,([]++p)++[],⟨[]++p,[],trodAll_append (hargs _ (λ_ _=>rfl)) (hres _ _ _),hvars _,rfl,?_,?_⟩,?_⟩
 ·intro b off hp
  have hp':MemPlace.cell b off∈p:=by simpa using hp
  have h1:=hz b off (by simpa using hp')
  rw[hb.frozen (p:=⟨b,off,none⟩) (hlt _ hp')]
  exact h1
 ·intro ha
  simpa using hn ha
 ·intro x Z _
  simpa using Z
end
theorem Ls:prog.cellsOf 9=1:=by kernel_rfl
theorem Lq:prog.cellsOf 4=1:=by kernel_rfl
theorem Lr:prog.cellsOf 3=1:=by kernel_rfl
theorem DD:prog.cellsOf 321=4:=by kernel_rfl
section
variable {H:Type} {enc:TypeId×Value->H} {W:World} {base:Nat} {spare:Nat->Bool} {held:Bool}
set_option maxRecDepth 100000 in
theorem mS {n:Nat} {cs:List Value} {x:DataW H×List MemPlace} (h:DataW.trod enc prog W base spare held n 321 cs=some x) {s:List UInt8} {b:Bool} {i j:Int}
 (Z:x.1= .agg [.lit (.string s),.lit (.bool b),.lit (.int .i64 i),.lit (.int .i64 j)]):cs=[.string ⟨s.toArray⟩,.bool b,.int .i64 i,.int .i64 j]:=by
 obtain⟨xs,m,rfl,rfl,hl,n9,hf⟩:=DataW.trod_struct underlying321 h
 rw[DD]at hl
 match cs,hl with
 | [c0,c1,c2,c3],_=>
 match xs,n9 with
 | [x0,x1,x2,x3],_=>
 simp only[List.map_cons,List.map_nil,DataW.agg.injEq,List.cons.injEq,and_true]at Z
 obtain⟨e0,e1,e2,e3⟩:=Z
 have f0:DataW.trod enc prog W base spare held m 9 (([c0,c1,c2,c3].drop 0).take (prog.cellsOf 9))=[x0,x1,x2,x3][0]?:=hf 0 _ rfl
 have f1:DataW.trod enc prog W base spare held m 4 (([c0,c1,c2,c3].drop 1).take (prog.cellsOf 4))=[x0,x1,x2,x3][1]?:=hf 1 _ rfl
 have f2:DataW.trod enc prog W base spare held m 3 (([c0,c1,c2,c3].drop 2).take (prog.cellsOf 3))=[x0,x1,x2,x3][2]?:=hf 2 _ rfl
 have f3:DataW.trod enc prog W base spare held m 3 (([c0,c1,c2,c3].drop 3).take (prog.cellsOf 3))=[x0,x1,x2,x3][3]?:=hf 3 _ rfl
 simp only[Ls,Lq,Lr,List.drop_zero,List.drop_succ_cons,List.take_succ_cons,List.take_zero,List.getElem?_cons_zero,List.getElem?_cons_succ]at f0 f1 f2 f3
 obtain⟨s0,g0,rfl,_⟩:=DataW.trod_string underlying9 f0
 obtain⟨s1,g1,rfl⟩:=DataW.trod_bool underlying4 f1
 obtain⟨s2,g2,rfl,_⟩:=DataW.trod_int underlying3 f2
 obtain⟨s3,g3,rfl,_⟩:=DataW.trod_int underlying3 f3
 simp only[DataW.lit.injEq,Lit.string.injEq,Lit.bool.injEq,Lit.int.injEq,true_and,List.cons.injEq,and_true]at e0 e1 e2 e3 g0 g1 g2 g3
 subst e0 e1 e2 e3 g0 g1 g2 g3
 simp
end
theorem EU:prog.globalNamed "apodixis/layout.forms" =some 1:=by kernel_rfl
theorem Of:(prog.globals[1]?).map (·.type)=some 322:=by kernel_rfl
set_option maxRecDepth 100000 in
theorem N7 {W:World} {rest:List (String×DataW Unit)} (h:laidMet prog (("apodixis/layout.forms",Rows.laid_apodixis_layout_forms)::rest) W):re W:=by
 obtain⟨ps,⟨g',t',cs,fuel,p,q,hg',ht',PI,hd,_,_⟩,_⟩:=h
 obtain rfl:=Option.some.inj (EU.symm.trans hg')
 obtain rfl:=Option.some.inj (Of.symm.trans ht')
 have hcell:=World.var?_cell EU PI
 obtain⟨xs,m,rfl,Z,hl,n9,hf⟩:=DataW.trod_array underlying322 hd
 have hx1:=congrArg Prod.fst Z
 rw[DD]at hf
 match xs,n9 with
 | [x0,x1,x2,x3,x4,x5,x6,x7,x8,x9],_=>
 simp only[Rows.laid_apodixis_layout_forms,List.map_cons,List.map_nil,DataW.agg.injEq,List.cons.injEq,and_true]at hx1
 obtain⟨e0,e1,e2,e3,e4,e5,e6,e7,e8,e9⟩:=hx1
 have nT:∀ i,i<10->(cs.toList.drop (i*4)).take 4=(zR.drop (i*4)).take 4:=by
  intro i hi
  have jk:=hf i hi
  match i,hi with
  | 0,_=>exact mS jk e0.symm
  | 1,_=>exact mS jk e1.symm
  | 2,_=>exact mS jk e2.symm
  | 3,_=>exact mS jk e3.symm
  | 4,_=>exact mS jk e4.symm
  | 5,_=>exact mS jk e5.symm
  | 6,_=>exact mS jk e6.symm
  | 7,_=>exact mS jk e7.symm
  | 8,_=>exact mS jk e8.symm
  | 9,_=>exact mS jk e9.symm
 have tI:∀(l:List Value) (p:Nat),l[p]?=((l.drop (p/4*4)).take 4)[p%4]?:=λl p=>by
  rw[List.getElem?_take,if_pos (Nat.mod_lt _ dz),List.getElem?_drop,Nat.div_add_mod']
 intro p u hu
 have hp:p<40:=by
  rcases Nat.lt_or_ge p 40 with h | h
  ·exact h
  ·rw[List.getElem?_eq_none (show zR.length<=p from h)]at hu;cases hu
 rw[hcell,<-Array.getElem?_toList,tI,nT (p/4) oz,<-tI]
 exact hu
theorem N6:aR re:=λ_ _ hk h i u hu=>hk.cell trivial (h i u hu)
theorem N5:gJ re:=λ_ h=>h
end
section
abbrev bt (s:BA) (k:Nat):UInt8:=G s.data.toList k
theorem ua (s:BA):s.data.toList.length=s.size:=by simp
def lK (c:UInt8):Bool:=(decide ((33:Int)<=(c.toNat:Int)))&& (decide ((c.toNat:Int)<=(126:Int)))
def lr (c:UInt8):Bool:=((((!(((decide ((97:Int)<=(c.toNat:Int)))&& (decide ((c.toNat:Int)<=(122:Int))))|| ((decide ((65:Int)<=(c.toNat:Int)))&& (decide ((c.toNat:Int)<=(90:Int))))))&& ((decide ((c.toNat:Int)< (48:Int)))|| (decide ((57:Int)< (c.toNat:Int)))))&& (!decide ((c.toNat:Int)=(45:Int))))&& (!decide ((c.toNat:Int)=(95:Int))))&& (!decide ((c.toNat:Int)=(46:Int)))
def ow (s:BA):Bool:=s.data.toList.all lK&& !decide (s=⟨#[]⟩)
def gZ (s:BA):Bool:=s.data.toList.all (λc=>!decide ((c.toNat:Int)=36))&& (ow s&&decide ((s.size:Int)<=60))
def ga (s:BA):Bool:=s.data.toList.all (λc=>!lr c)&& (!decide (s=⟨#[]⟩)&&decide ((s.size:Int)<=60))
theorem JZ {α:Type} [Inhabited α] {p:α->Bool} {xs:List α} (h:∀ j,j<xs.length->p (G xs j)=true):xs.all p=true:=by
 rw[all_eq_true]
 intro x Z
 obtain⟨k,hk,rfl⟩:=ej Z
 exact h k hk
theorem uf {α:Type} [Inhabited α] {p:α->Bool} {xs:List α} {k:Nat} (hk:k<xs.length) (h:p (G xs k)=false):xs.all p=false:=by
 rw[all_eq_false]
 exact⟨G xs k,aE hk,by simp[h]⟩
theorem rj {p:UInt8->Bool} {s:BA} (h:∀ j,j<s.size->p (bt s j)=true):s.data.toList.all p=true:=JZ λj hj=>h j (by rwa [ua]at hj)
theorem sb {p:UInt8->Bool} {s:BA} {k:Nat} (hk:k<s.size) (h:p (bt s k)=false):s.data.toList.all p=false:=uf (by rwa [ua]) h
theorem Xe {s:BA} {k:Nat} (hk:k<s.size) (h:lK (bt s k)=false):ow s=false:=by rw[ow,sb hk h];rfl
theorem Xd {s:BA} (h:∀ j,j<s.size->lK (bt s j)=true):ow s= !decide (s=⟨#[]⟩):=by rw[ow,rj h];rfl
theorem We {s:BA} {k:Nat} (hk:k<s.size) (h:((bt s k).toNat:Int)=36):gZ s=false:=by rw[gZ,sb (p:=λc=>!decide ((c.toNat:Int)=36)) hk (by simpa using h)];rfl
theorem Wd {s:BA} (h:∀ j,j<s.size->¬ ((bt s j).toNat:Int)=36):gZ s=(ow s&&decide ((s.size:Int)<=60)):=by rw[gZ,rj (p:=λc=>!decide ((c.toNat:Int)=36)) (λj hj=>by simpa using h j hj)];rfl
theorem Qu {s:BA} {k:Nat} (hk:k<s.size) (h:lr (bt s k)=true):ga s=false:=by rw[ga,sb (p:=λc=>!lr c) hk (by simpa using h)];rfl
theorem Qt {s:BA} (h:∀ j,j<s.size->lr (bt s j)=false):ga s=(!decide (s=⟨#[]⟩)&&decide ((s.size:Int)<=60)):=by rw[ga,rj (p:=λc=>!lr c) (λj hj=>by simpa using h j hj)];rfl
theorem cB {p:Nat->Prop} {k:Nat} (h:∀ j,j<k->p j) (hk:p k):∀ j,j<k+1->p j:=λj hj=>by
 by_cases e:j=k
 ·subst e;exact hk
 ·exact h j oz
def fP (d:Db) (s:BA):Bool:=decide (s∈d.bL)||decide (s∈d.vars)
def mF (s:BA) (k:Nat):Bool:=(!decide (((G s.data.toList k).toNat:Int)=(63:Int)))&& (!ga (s.extract k (k+1)))
def fy (s:BA):Bool:=(decide (s=⟨#[40]⟩)||decide (s=⟨#[41]⟩))|| ((List.range s.size).all (λk=>!mF s k)&& !decide (s=⟨#[]⟩))
theorem TQ {s:BA} (h:s=⟨#[40]⟩∨s=⟨#[41]⟩):fy s=true:=by
 rcases h with h | h<;>simp[fy,h]
theorem TP {s:BA} {k:Nat} (h0:¬ s=⟨#[40]⟩/\¬ s=⟨#[41]⟩) (hk:k<s.size) (h:mF s k=true):fy s=false:=by
 have:(List.range s.size).all (λk=>!mF s k)=false:=by
  rw[all_eq_false]
  exact⟨k,by simpa using hk,by simp[h]⟩
 simp[fy,h0.1,h0.2,this]
theorem TO {s:BA} (h0:¬ s=⟨#[40]⟩/\¬ s=⟨#[41]⟩) (h:∀ j,j<s.size->mF s j=false):fy s= !decide (s=⟨#[]⟩):=by
 have:(List.range s.size).all (λk=>!mF s k)=true:=by
  rw[all_eq_true]
  intro k hk
  simp[h k (by simpa using hk)]
 simp[fy,h0.1,h0.2,this]
def gE (h:Hy) (vs:List BA):Bool:=(h.bn&&decide ((h.ac.length:Int)=(2:Int)))&&decide (G h.ac 1∈vs)
def rB (d:Db) (l:List BA):Bool:=decide (G l 0∈d.bL)&& (List.range l.length).all (λj=>decide (j=0)||fP d (G l j))
def iN (d:Db) (l:List BA):Int:=if rB d l then 0 else 12
theorem EN {d:Db} {l:List BA} (h:¬ G l 0∈d.bL):iN d l=12:=by simp[iN,rB,h]
theorem EO {d:Db} {l:List BA} {j:Nat} (h0:0<j) (hj:j<l.length) (h:fP d (G l j)=false):iN d l=12:=by
 have:(List.range l.length).all (λj=>decide (j=0)||fP d (G l j))=false:=by
  rw[all_eq_false]
  exact⟨j,by simpa using hj,by simp[h,Nat.ne_of_gt h0]⟩
 simp[iN,rB,this]
theorem EP {d:Db} {l:List BA} (h0:G l 0∈d.bL) (h:∀ j,0<j->j<l.length->fP d (G l j)=true):iN d l=0:=by
 have:(List.range l.length).all (λj=>decide (j=0)||fP d (G l j))=true:=by
  rw[all_eq_true]
  intro k hk
  rcases Nat.eq_zero_or_pos k with h | h'
  ·simp[h]
  ·simp[h k h' (by simpa using hk)]
 simp[iN,rB,h0,this]
def gC:List BA->List BA->Nat
 | x::xs,y::ys=>if x=y then gC xs ys+1 else 0
 | _,_=>0
theorem y7:∀(xs ys:List BA) (n:Nat),n<=xs.length->n<=ys.length->(∀ j,j<n->G xs j=G ys j)->¬ (n<xs.length/\n<ys.length/\G xs n=G ys n)->n=gC xs ys
 | [],ys,n,h1,_,_,_=>by simp at h1;simp[gC,h1]
 | x::xs,[],n,_,h2,_,_=>by simp at h2;simp[gC,h2]
 | x::xs,y::ys,n,h1,h2,h3,h4=>by
  simp only[gC]
  by_cases e:x=y
  ·rw[if_pos e]
   obtain⟨m,rfl⟩:∃ m,n=m+1:=by
    cases n with
    | zero=>exact absurd ⟨by simp,by simp,by simpa [G]using e⟩ h4
    | succ m=>exact⟨m,rfl⟩
   rw[<-y7 xs ys m (by simpa using h1) (by simpa using h2) (λj hj=>by simpa [G]using h3 (j+1) oz) (λ⟨a,b,c⟩=>h4 ⟨by simpa using a,by simpa using b,by simpa [G]using c⟩)]
  ·rw[if_neg e]
   cases n with
   | zero=>rfl
   | succ m=>exact absurd (by simpa [G]using h3 0 oz) e
def i7 (vs:List BA) (p:Pr):Bool:=decide (p.a∈vs)&&decide (p.b∈vs)
theorem kW {α:Type} [Inhabited α] {p:α->Bool} {xs:List α} {k:Nat} (h:k<xs.length):(xs.take (k+1)).filter p=(xs.take k).filter p++(if p (G xs k)then [G xs k]else []):=by
 rw[dF h,List.filter_append]
 by_cases hp:p (G xs k)=true<;>simp[hp]
theorem cS {α:Type} {xs:List α} {k:Nat} (h:xs.length<=k):xs.take k=xs:=List.take_of_length_le h
def dt (vs:List BA) (ws:List BA):List BA:=ws.foldl (λout s=>if decide (s∈vs)&& !decide (s∈out)then out++[s]else out) []
theorem uj (vs ws:List BA) (s:BA):dt vs (ws++[s])=if decide (s∈vs)&& !decide (s∈dt vs ws)then dt vs ws++[s]else dt vs ws:=by simp[dt]
theorem Bh (vs ws:List BA):(dt vs ws).Nodup/\(∀ x,x∈dt vs ws↔x∈ws/\x∈vs):=by
 have key:∀(r pre:List BA),(dt vs pre).Nodup/\(∀ x,x∈dt vs pre↔x∈pre/\x∈vs)->(dt vs (pre++r)).Nodup/\(∀ x,x∈dt vs (pre++r)↔x∈pre++r/\x∈vs):=by
  intro r
  induction r with
  | nil=>intro pre h;simpa using h
  | cons s r ih=>
   intro pre h
   have:=ih (pre++[s]) (by
    rw[uj]
    obtain⟨h1,h2⟩:=h
    by_cases hs:s∈vs
    ·by_cases ho:s∈dt vs pre
     ·simp only[hs,ho,decide_true,Bool.not_true,Bool.and_false,Bool.false_eq_true,if_false]
      refine⟨h1,λx=>?_⟩
      rw[h2]
      have:=(h2 s).1 ho
      grind
     ·simp only[hs,ho,decide_true,decide_false,Bool.not_false,Bool.and_self,if_true]
      refine⟨?_,λx=>?_⟩
      ·rw[List.nodup_append]
       exact⟨h1,by simp,λa ha b hb=>by simp at hb;subst hb;intro e;subst e;exact ho ha⟩
      ·have:=h2 x
       grind
    ·simp only[hs,decide_false,Bool.false_and,Bool.false_eq_true,if_false]
     refine⟨h1,λx=>?_⟩
     have:=h2 x
     grind)
   simpa using this
 simpa using key ws [] ⟨by simp[dt],by simp[dt]⟩
theorem oc:∀ {xs ys:List BA},xs.Nodup->(∀ x∈xs,x∈ys)->xs.length<=ys.length
 | [],_,_,_=>by simp
 | x::xs,ys,h,hs=>by
  have h1:=List.nodup_cons.1 h
  have h2:=oc (xs:=xs) (ys:=ys.erase x) h1.2 λz hz=>by
   have hne:z≠x:=λe=>h1.1 (e▸hz)
   exact(List.mem_erase_of_ne hne).2 (hs z (by simp[hz]))
  have h3:=List.length_erase_of_mem (hs x yz)
  have h4:0<ys.length:=List.length_pos_of_mem (hs x yz)
  simp only[List.length_cons]
  omega
theorem GI (vs ws:List BA):(dt vs ws).length<=vs.length:=oc (Bh vs ws).1 λx Z=>((Bh vs ws).2 x).1 Z |>.2
def bS (hs:List Hy):List Hy:=hs.filter λh=>!h.bn
def AF (fs:List Fr):List Hy:=fs.flatMap λf=>f.aa++f.bB
theorem A2 {α β:Type} [Inhabited α] {f:α->β} {xs:List α} {k:Nat} (h:k<xs.length):(xs.take (k+1)).map f=(xs.take k).map f++[f (G xs k)]:=by rw[dF h,List.map_append];rfl
theorem sO {α:Type} [Inhabited α] {p:α->Bool} {xs:List α} {k:Nat} (h:k<xs.length):(xs.take (k+1)).any p=((xs.take k).any p||p (G xs k)):=by
 rw[dF h,List.any_append];simp
theorem rk {α:Type} [Inhabited α] {p:α->Bool} {xs:List α} {k:Nat} (h:k<xs.length):(xs.take (k+1)).all p=((xs.take k).all p&&p (G xs k)):=by
 rw[dF h,List.all_append];simp
theorem mB {α:Type} [Inhabited α] {p:α->Bool} {xs:List α} {k:Nat} (h:k<xs.length) (hp:p (G xs k)=true):xs.any p=true:=List.any_eq_true.2 ⟨_,aE h,hp⟩
theorem mD {α:Type} [Inhabited α] {p:α->Bool} {xs:List α} {k:Nat} (h:(xs.take k).any p=false) (hk:xs.length<=k):xs.any p=false:=by rwa [cS hk]at h
theorem mC {α:Type} [Inhabited α] {p:α->Bool} {xs:List α} {k:Nat} (h:k<xs.length) (h0:(xs.take k).any p=false) (hp:p (G xs k)=false):(xs.take (k+1)).any p=false:=by rw[sO h,h0,hp];rfl
def fu (d:Db) (n:Nat) (s:BA):Bool:=(d.ab.take n).any λf=>decide (f.ae=s)
def iQ (d:Db) (n:Nat) (s:BA):Bool:=(d.ab.take n).any λf=>(f.aa++f.bB).any λh=>decide (h.ae=s)
def jd (d:Db) (k:Nat):List Hy:=AF (d.ab.take k)
theorem GW (d:Db):jd d 0=[]:=rfl
theorem sm {d:Db} {k:Nat} (h:k<d.ab.length):jd d (k+1)=jd d k++((G d.ab k).aa++(G d.ab k).bB):=by
 simp[jd,AF,dF h]
def ij (y:Hy) (dm:Bool):Bool:=((!ga y.ae|| (dm&& !y.bn))|| (y.bn&& !decide (((y.ac.length:Nat):Int)=2)))|| (!y.bn&& (decide (((y.ac.length:Nat):Int)=0)||decide (200< ((y.ac.length:Nat):Int))))
theorem iz {y:Hy} {dm:Bool} (h:ij y dm=false) (hf:y.bn=true):y.ac.length=2:=by
 simp[ij,hf]at h;omega
theorem E4 {y:Hy} {dm:Bool} (h:ij y dm=false):0<y.ac.length:=by
 cases hf:y.bn with
 | true=>have:=iz h hf;omega
 | false=>simp[ij,hf]at h;exact List.length_pos_iff.2 (by grind)
def oO (d:Db) (y:Hy):Bool:=y.bn&& (!decide (G y.ac 0∈d.bL)|| !decide (G y.ac 1∈d.vars))
def kZ (y x:Hy):Bool:=decide (x.ae=y.ae)
def ik (y x:Hy):Bool:=gE x (y.ac.drop 1)
def jJ (y x:Hy):Bool:=gE x (y.ac.drop 1)&& !decide (G x.ac 0=G y.ac 0)
def fU (y x:Hy):Bool:=decide (x.ae=y.ae)&& !k7 x y
theorem GJ {x:Hy} {vs:List BA} (h:gE x vs=true):x.ac.length=2:=by
 simp[gE]at h;omega
def eX (d:Db) (k:Nat) (y:Hy) (bs:List Hy) (dm:Bool):Int:=
 if ij y dm then 2 else if fu d (k+1) y.ae||fP d y.ae then 6 else if bs.any (kZ y)then 6
 else if oO d y then 12 else if !y.bn&& !decide (iN d y.ac=0)then iN d y.ac
 else if y.bn&& (jd d k++bs).any (jJ y)then 11 else if y.bn&&bs.any (ik y)then 6
 else if(jd d k).any (fU y)then 6 else 0
def fZ (n:Nat) (g:Nat->Int):Int:=match(List.range n).find? (λi=>!decide (g i=0))with | some i=>g i | none=>0
theorem mP {n:Nat} {g:Nat->Int} (h:∀ j,j<n->g j=0):fZ n g=0:=by
 have:(List.range n).find? (λi=>!decide (g i=0))=none:=by
  rw[List.find?_eq_none]
  intro x Z
  simp[h x (by simpa using Z)]
 rw[fZ,this]
theorem jj {n k:Nat} {g:Nat->Int} (hk:k<n) (h:∀ j,j<k->g j=0) (hg:g k≠0):fZ n g=g k:=by
 have:(List.range n).find? (λi=>!decide (g i=0))=some k:=by
  rw[List.find?_eq_some_iff_getElem]
  refine⟨by simp[hg],k,by simpa using hk,by simp,λj hj=>?_⟩
  simp[h j hj]
 rw[fZ,this]
theorem lV {n:Nat} {g:Nat->Int} (h:fZ n g=0):∀ j,j<n->g j=0:=by
 intro j hj
 rw[fZ]at h
 split at h
 ·rename_i i hi
  have:=List.find?_some hi
  simp[h]at this
 ·rename_i hi
  rw[List.find?_eq_none]at hi
  simpa using hi j (by simpa using hj)
def cI (x y:Pr):Bool:=Op.bytesLess x.a.toList y.a.toList|| (decide (x.a=y.a)&&Op.bytesLess x.b.toList y.b.toList)
def fH:List Pr->Pr->List Pr
 | [],p=>[p]
 | x::xs,p=>if cI x p then x::fH xs p else if iq x p then x::xs else p::x::xs
theorem Bx:∀(l:List Pr) (p:Pr) (k:Nat),k<=l.length->(∀ j,j<k->cI (G l j) p=true)->¬ (k<l.length/\cI (G l k) p=true)->
 fH l p=if k<l.length/\iq (G l k) p=true then l else l.take k++p::l.drop k
 | [],p,k,h1,_,_=>by simp at h1;subst h1;simp[fH]
 | x::xs,p,0,_,_,h3=>by
  have:cI x p=false:=by simpa [G]using h3
  simp only[fH,this]
  by_cases e:iq x p=true<;>simp[e,G]
 | x::xs,p,k+1,h1,h2,h3=>by
  have h0:cI x p=true:=by simpa [G]using h2 0 oz
  have ih:=Bx xs p k (by simpa using h1) (λj hj=>by simpa [G]using h2 (j+1) oz) (λ⟨a,b⟩=>h3 ⟨by simpa using a,by simpa [G]using b⟩)
  simp only[fH,h0,if_true,ih]
  by_cases e:k<xs.length/\iq (G xs k) p=true
  ·have e':k+1< (x::xs).length/\iq (G (x::xs) (k+1)) p=true:=⟨by simpa using e.1,by simpa [G]using e.2⟩
   rw[if_pos e,if_pos e']
  ·have e':¬ (k+1< (x::xs).length/\iq (G (x::xs) (k+1)) p=true):=λ⟨a,b⟩=>e ⟨by simpa using a,by simpa [G]using b⟩
   rw[if_neg e,if_neg e'];rfl
theorem HF (l:List Pr) (p:Pr):(fH l p).length<=l.length+1:=by
 induction l with
 | nil=>simp[fH]
 | cons x xs ih=>simp only[fH];split<;>(try split)<;>simp<;>omega
def nc (w z:List Pr):List Pr:=(w++z).foldl fH []
theorem EM {α β:Type} [Inhabited α] {f:β->α->β} {a:β} {xs:List α} {k:Nat} (h:k<xs.length):(xs.take (k+1)).foldl f a=f ((xs.take k).foldl f a) (G xs k):=by
 rw[dF h,List.foldl_append];rfl
def gc (d:Db) (f:Fr):List BA:=dt d.vars (f.ac::(bS f.aa).map Hy.ac).flatten
def eN (hs:List Hy):List BA:=(hs.filter λh=>h.bn).map λh=>G h.ac 1
def hIn (m:List BA) (h:Hy):Bool:=!h.bn||gE h m
def pM (d:Db) (p:Pr):Bool:=(!Op.bytesLess p.a.toList p.b.toList|| !decide (p.a∈d.vars))|| !decide (p.b∈d.vars)
def gg (d:Db) (f:Fr):Bool:=
 ((f.aa.all (hIn (gc d f))&& (gc d f).all λs=>decide (s∈eN f.aa))&& !f.wide.any (pM d))&& (decide (f.wide=nc f.wide [])&&decide (f.apart=f.wide.filter (i7 (gc d f))))
def kg (d:Db) (k:Nat):List BA:=if k=0 then []else(bS (G d.ab (k-1)).aa).map Hy.ae
def eJ (d:Db) (k i:Nat):Int:=eX d k (G ((G d.ab k).aa++(G d.ab k).bB) i) (((G d.ab k).aa++(G d.ab k).bB).take i) (decide ((((G d.ab k).aa.length:Nat):Int)<=((i:Nat):Int)))
def lE (d:Db) (k:Nat):Int:=fZ ((G d.ab k).aa++(G d.ab k).bB).length (eJ d k)
theorem rV {d:Db} {k:Nat} {y:Hy} {bs:List Hy} {dm:Bool} (h:eX d k y bs dm=0):ij y dm=false:=by
 cases hf:ij y dm with
 | false=>rfl
 | true=>simp[eX,hf]at h
theorem QW {d:Db} {k:Nat} (h:lE d k=0):∀ y∈(G d.ab k).aa++(G d.ab k).bB,y.bn=true->y.ac.length=2:=λy hy hf=>by
 obtain⟨j,hj,rfl⟩:=ej hy
 exact iz (rV (lV h j hj)) hf
theorem L8 {α:Type} [Inhabited α] {p:α->Bool} {xs:List α} {c i:Nat} (h1:c<=i) (h2:i<xs.length) (hp:p (G xs i)=true):(xs.drop c).any p=true:=by
 rw[List.any_eq_true]
 refine⟨G xs i,?_,hp⟩
 rw[List.mem_drop_iff_getElem]
 exact⟨i-c,oz,by simp[G,List.getD_eq_getElem?_getD,Nat.add_sub_cancel' h1,List.getElem?_eq_getElem h2]⟩
theorem L9 {α:Type} [Inhabited α] {p:α->Bool} {xs:List α} {c:Nat} (h:∀ i,c<=i->i<xs.length->p (G xs i)=false):(xs.drop c).any p=false:=by
 rw[List.any_eq_false]
 intro x Z
 rw[List.mem_drop_iff_getElem]at Z
 obtain⟨i,hi,rfl⟩:=Z
 have:=h (c+i) oz oz
 simp only[G,List.getD_eq_getElem?_getD,List.getElem?_eq_getElem (show c+i<xs.length by omega),Option.getD_some]at this
 simpa [Nat.add_comm]using this
theorem y8:∀(xs ys:List BA),gC xs ys<=ys.length
 | [],_=>by simp[gC]
 | _::_,[]=>by simp[gC]
 | x::xs,y::ys=>by
  simp only[gC,List.length_cons]
  have:=y8 xs ys
  split<;>omega
def ut (d:Db) (k:Nat) (f:Fr):Bool:=(((bS f.aa).map Hy.ae).drop (gC (kg d k) ((bS f.aa).map Hy.ae))).any (iQ d k)
theorem jc {p:Prop} [Decidable p] (h:(!decide p)=true):¬ p:=by simpa using h
theorem pk {p:Prop} [Decidable p] (h:(!decide p)=false):p:=by simpa using h
def fd (d:Db) (k:Nat) (f:Fr):Int:=
 if !ga f.ae then 2 else if(fu d k f.ae||iQ d k f.ae)||fP d f.ae then 6
 else if decide (40< ((f.aa.length:Nat):Int))||decide (40< ((f.bB.length:Nat):Int))then 4
 else if !decide (lE d k=0)then lE d k
 else if decide (((f.ac.length:Nat):Int)=0)||decide (200< ((f.ac.length:Nat):Int))then 2
 else if !decide (iN d f.ac=0)then iN d f.ac
 else if !gg d f then 70
 else if(decide (0< ((f.proof.length:Nat):Int))&& !f.thm)||decide (8000< ((f.proof.length:Nat):Int))then 2
 else if !f.proof.all fy then 2
 else if ut d k f then 7 else 0
def dI (d:Db) (k:Nat):Int:=fd d k (G d.ab k)
theorem tE {d:Db} {k:Nat} (h:dI d k=0):(G d.ab k).aa.length<=40/\(G d.ab k).bB.length<=40:=by
 rw[dI,fd]at h
 split at h
 ·simp at h
 split at h
 ·simp at h
 split at h
 ·simp at h
 rename_i h0
 simp at h0
 omega
def gP (d:Db) (i:Nat):Int:=if !gZ (G d.bL i)then 2 else if decide (G d.bL i∈d.bL.take i)then 6 else 0
def iZ (d:Db) (i:Nat):Int:=if !gZ (G d.vars i)then 2 else if decide (G d.vars i∈d.bL)||decide (G d.vars i∈d.vars.take i)then 6 else 0
def ed (d:Db):Int:=if !decide (fZ d.bL.length (gP d)=0)then fZ d.bL.length (gP d)else fZ d.vars.length (iZ d)
def dG (d:Db):Int:=
 if(decide (400< ((d.ab.length:Nat):Int))||decide (8000< ((d.bL.length:Nat):Int)))||decide (8000< ((d.vars.length:Nat):Int))then 8
 else if !decide (ed d=0)then ed d else fZ d.ab.length (dI d)
def bR (d:Db) (s:BA):Int:=match d.ab.findIdx? (λf=>decide (f.ae=s))with | some i=>(i:Int) | none=> -1
theorem Ni {d:Db} {s:BA} {k:Nat} (hk:k<d.ab.length) (h:(G d.ab k).ae=s) (h0:∀ j,j<k->¬ (G d.ab j).ae=s):bR d s=(k:Int):=by
 have:d.ab.findIdx? (λf=>decide (f.ae=s))=some k:=by
  rw[List.findIdx?_eq_some_iff_getElem]
  refine⟨hk,?_,λj hj=>?_⟩
  ·simpa [G,List.getD_eq_getElem?_getD,List.getElem?_eq_getElem hk]using h
  ·have:=h0 j hj
   simpa [G,List.getD_eq_getElem?_getD,List.getElem?_eq_getElem (show j<d.ab.length by omega)]using this
 rw[bR,this]
end
end Go.Proofs.YtdfadihhfppjaaaGreatDoor
