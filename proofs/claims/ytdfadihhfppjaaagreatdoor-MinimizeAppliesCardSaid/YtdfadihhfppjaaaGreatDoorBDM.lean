/-
  Part of the proof that MinimizeApplies returns true. Conditions: none.
-/
import Derived.Test.YtdfadihhfppjaaaGreatDoorBDL
import Derived.Test.YtdfadihhfppjaaaGreatDoorTie
import Derived.Deep.SlicePairs
import Derived.Deep.DeepHandedRow
import Derived.Lib.LaidTab
import Derived.Carry
namespace Go.Proofs.YtdfadihhfppjaaaGreatDoor
open Go.Proofs.Tryz
open List (all_eq_false all_eq_true)
section
open Go.ChangeShapes Go.WideShapes Go.ChangeAt Go.RowKit Go.Deep
def qV {H:Type} (t:TypeId) (d:DataW H):Prop:=∀ x∈d.weights prog t,x<=reachBytes
section
variable {H:Type} {enc:TypeId×Value->H} {W:World}
set_option maxRecDepth 100000 in
theorem LC:nw prog 10 25=some vG:=by kernel_rfl
set_option maxRecDepth 100000 in
theorem Rk {r:Reach} {b0:Nat} {v:Value} {d:DataW H} {ps:List MemPlace} (ei:Value.okWide prog W r b0 25 v) (h:DataW.Trod enc prog W 0 (λ_=>true) true 25 v d ps) (hw:qV 25 d):∃ x:Db,Rel All W (.agg (bZ x)) v/\x.Ok:=by
 simp only[Value.okWide,underlying25]at ei
 obtain⟨cs,rfl,hsz,_⟩:=ei
 obtain⟨n,hn⟩:=h
 obtain⟨ka,h1,h2⟩:=ut 10 25 vG LC n _ _ hn hw
 obtain⟨x,rfl,bv⟩:=MV h1
 refine⟨x,?_,bv⟩
 simp only[Rel]
 exact⟨cs.toList,by simp,by simpa [Value.cells]using h2⟩
theorem P4:laidOutB prog=true:=by kernel_rfl
theorem IG {W':World} {sp:Nat->Bool} (hsame:∀ p:MemPlace,p.block<W.heap.size->W.sameAt W' p):∀ {ts:List TypeId} {vs:List Value} {ds:List (DataW H)} {ps:List MemPlace},(∀ t∈ts,prog.readableRec t=true/\t<prog.types.size)->
 DataW.TrodAll enc prog W 0 (λ_=>true) true ts vs ds ps->(∀ p∈ps,p.block<W.heap.size)->(∀ p∈ps,sp p.block=true)->DataW.TrodAll enc prog W' 0 sp true ts vs ds ps
 | [],vs,ds,ps,_,h,_,_=>by
  obtain⟨rfl,rfl,rfl⟩:=trodAll_nil h
  exact trodAll_mk0
 | t::ts,vs,ds,ps,ht,h,hlt,hsp=>by
  obtain⟨v,vs',d,ds',p,q,rfl,rfl,rfl,h1,h2⟩:=trodAll_cons h
  have rI:=ht t yz
  exact trodAll_cons_mk (WideElems.Trod_stays P4 rI.1 rI.2 h1 (λx Z=>hsame x (hlt x (by simp[Z]))) λx Z=>hsp x (by simp[Z]))
   (IG hsame (λt h=>ht t (by simp[h])) h2 (λx Z=>hlt x (by simp[Z])) λx Z=>hsp x (by simp[Z]))
set_option maxRecDepth 100000 in
theorem P6 {f:Func} {s:ChangeSpec} {apart fresh handsOn again:Bool} {W':World} {args:Array Value} {ds gs:List (DataW H)} {before:List MemPlace}
 (hW:DataW.Whole enc prog f.params.toList s.vars apart W args.toList ds gs before) (oO:s.vars=[]) (hr:f.resultTypes= #[4]) (hfn:s.fn H ds= { results:=[.lit (.bool true)],args:=ds })
 (jT:∀ t∈f.params.toList,prog.readableRec t=true/\t<prog.types.size) (hk:Keeps All W W'):s.post enc prog f apart fresh handsOn again W args (.bool true) W':=by
 have hb:Below W.heap.size W W':=hk.below aV λ_ _=>trivial
 have EM:=hW
 obtain⟨p,q,hA,hV,rfl,hz,hn⟩:=hW
 rw[oO]at hV
 obtain⟨rfl,rfl⟩:=trodVars_none hV
 have hlt:∀ x∈p,x.block<W.heap.size:=λx Z=>EM.lt x (by simpa using Z)
 have hfn':s.fn H (ds++[])= { results:=[.lit (.bool true)],args:=ds }:=by rw[List.append_nil];exact hfn
 have hres:∀(b:Nat) (sp:Nat->Bool) (hd:Bool),DataW.TrodAll enc prog W' b sp hd f.resultTypes.toList ((Value.bool true).resultList f.resultTypes.size) (s.fn H (ds++[])).results []:=λb sp hd=>by
  rw[hr,hfn']
  exact trodAll_cons_mk (shut_bool underlying4 true) trodAll_mk0
 have hargs:∀ sp:Nat->Bool,(∀ x∈p,sp x.block=true)->DataW.TrodAll enc prog W' 0 sp true f.params.toList args.toList (s.fn H (ds++[])).args p:=λsp hsp=>by
  rw[hfn']
  exact IG (λx Z=>hb.same Z) jT hA hlt hsp
 have hvars:∀ sp:Nat->Bool,DataW.TrodVars enc prog W' sp s.vars (s.fn H (ds++[])).vars []:=λsp=>by
  rw[hfn',oO]
  rfl
 refine⟨ds,[],p++[],[],p,[],EM,hres _ _ _,hargs _ (λx Z=>by simpa using hlt x Z),hvars _,hb.frame _,λ_=>?_⟩
 refine⟨ok_one hr rfl (okWide_bool_mk underlying4 _),_,_,([]++p)++[],⟨[]++p,[],trodAll_append (hargs _ (λ_ _=>rfl)) (hres _ _ _),hvars _,rfl,?_,?_⟩,?_⟩
 · intro b off hp
   have hp':MemPlace.cell b off∈p:=by simpa using hp
   have h1:=hz b off (by simpa using hp')
   rw[hb.frozen (p:=⟨b,off,none⟩) (hlt _ hp')]
   exact h1
 · intro ha
   simpa using hn ha
 · intro x Z _
   simpa using Z
end
theorem KZ:prog.cellsOf 9=1:=by kernel_rfl
theorem KX:prog.cellsOf 4=1:=by kernel_rfl
theorem KY:prog.cellsOf 3=1:=by kernel_rfl
theorem Dk:prog.cellsOf 321=4:=by kernel_rfl
section
variable {H:Type} {enc:TypeId×Value->H} {W:World} {base:Nat} {spare:Nat->Bool} {held:Bool}
set_option maxRecDepth 100000 in
theorem mE {n:Nat} {cs:List Value} {x:DataW H×List MemPlace} (h:DataW.trod enc prog W base spare held n 321 cs=some x) {s:List UInt8} {b:Bool} {i j:Int}
 (Z:x.1= .agg [.lit (.string s),.lit (.bool b),.lit (.int .i64 i),.lit (.int .i64 j)]):cs=[.string ⟨s.toArray⟩,.bool b,.int .i64 i,.int .i64 j]:=by
 obtain⟨xs,m,rfl,rfl,hl,nS,hf⟩:=DataW.trod_struct underlying321 h
 rw[Dk]at hl
 match cs,hl with
 | [c0,c1,c2,c3],_=>
 match xs,nS with
 | [x0,x1,x2,x3],_=>
 simp only[List.map_cons,List.map_nil,DataW.agg.injEq,List.cons.injEq,and_true]at Z
 obtain⟨e0,e1,e2,e3⟩:=Z
 have f0:DataW.trod enc prog W base spare held m 9 (([c0,c1,c2,c3].drop 0).take (prog.cellsOf 9))=[x0,x1,x2,x3][0]?:=hf 0 _ rfl
 have f1:DataW.trod enc prog W base spare held m 4 (([c0,c1,c2,c3].drop 1).take (prog.cellsOf 4))=[x0,x1,x2,x3][1]?:=hf 1 _ rfl
 have f2:DataW.trod enc prog W base spare held m 3 (([c0,c1,c2,c3].drop 2).take (prog.cellsOf 3))=[x0,x1,x2,x3][2]?:=hf 2 _ rfl
 have f3:DataW.trod enc prog W base spare held m 3 (([c0,c1,c2,c3].drop 3).take (prog.cellsOf 3))=[x0,x1,x2,x3][3]?:=hf 3 _ rfl
 simp only[KZ,KX,KY,List.drop_zero,List.drop_succ_cons,List.take_succ_cons,List.take_zero,List.getElem?_cons_zero,List.getElem?_cons_succ]at f0 f1 f2 f3
 obtain⟨s0,g0,rfl,_⟩:=DataW.trod_string underlying9 f0
 obtain⟨s1,g1,rfl⟩:=DataW.trod_bool underlying4 f1
 obtain⟨s2,g2,rfl,_⟩:=DataW.trod_int underlying3 f2
 obtain⟨s3,g3,rfl,_⟩:=DataW.trod_int underlying3 f3
 simp only[DataW.lit.injEq,Lit.string.injEq,Lit.bool.injEq,Lit.int.injEq,true_and,List.cons.injEq,and_true]at e0 e1 e2 e3 g0 g1 g2 g3
 subst e0 e1 e2 e3 g0 g1 g2 g3
 simp
end
theorem EA:prog.globalNamed "apodixis/layout.forms" =some 1:=by kernel_rfl
theorem NK:(prog.globals[1]?).map (·.type)=some 322:=by kernel_rfl
set_option maxRecDepth 100000 in
theorem ND {W:World} {rest:List (String×DataW Unit)} (h:laidMet prog (("apodixis/layout.forms",Rows.laid_apodixis_layout_forms)::rest) W):qR W:=by
 obtain⟨ps,⟨g',t',cs,fuel,p,q,hg',ht',O8,hd,_,_⟩,_⟩:=h
 obtain rfl:=Option.some.inj (EA.symm.trans hg')
 obtain rfl:=Option.some.inj (NK.symm.trans ht')
 have hcell:=World.var?_cell EA O8
 obtain⟨xs,m,rfl,Z,hl,nS,hf⟩:=DataW.trod_array underlying322 hd
 have hx1:=congrArg Prod.fst Z
 rw[Dk]at hf
 match xs,nS with
 | [x0,x1,x2,x3,x4,x5,x6,x7,x8,x9],_=>
 simp only[Rows.laid_apodixis_layout_forms,List.map_cons,List.map_nil,DataW.agg.injEq,List.cons.injEq,and_true]at hx1
 obtain⟨e0,e1,e2,e3,e4,e5,e6,e7,e8,e9⟩:=hx1
 have nG:∀ i,i<10->(cs.toList.drop (i*4)).take 4=(zA.drop (i*4)).take 4:=by
  intro i hi
  have ja:=hf i hi
  match i,hi with
  | 0,_=>exact mE ja e0.symm
  | 1,_=>exact mE ja e1.symm
  | 2,_=>exact mE ja e2.symm
  | 3,_=>exact mE ja e3.symm
  | 4,_=>exact mE ja e4.symm
  | 5,_=>exact mE ja e5.symm
  | 6,_=>exact mE ja e6.symm
  | 7,_=>exact mE ja e7.symm
  | 8,_=>exact mE ja e8.symm
  | 9,_=>exact mE ja e9.symm
 have tt:∀(l:List Value) (p:Nat),l[p]?=((l.drop (p/4*4)).take 4)[p%4]?:=λl p=>by
  rw[List.getElem?_take,if_pos (Nat.mod_lt _ dz),List.getElem?_drop,Nat.div_add_mod']
 intro p u hu
 have hp:p<40:=by
  rcases Nat.lt_or_ge p 40 with h | h
  · exact h
  · rw[List.getElem?_eq_none (show zA.length<=p from h)]at hu;cases hu
 rw[hcell,<-Array.getElem?_toList,tt,nG (p/4) oz,<-tt]
 exact hu
theorem NC:aS qR:=λ_ _ hk h i u hu=>hk.cell trivial (h i u hu)
theorem NB:iv qR:=λ_ h=>h
end
section
abbrev bt (s:BA) (k:Nat):UInt8:=G s.data.toList k
theorem tS (s:BA):s.data.toList.length=s.size:=by simp
def lA (c:UInt8):Bool:=(decide ((33:Int)<=(c.toNat:Int)))&& (decide ((c.toNat:Int)<=(126:Int)))
def lg (c:UInt8):Bool:=((((!(((decide ((97:Int)<=(c.toNat:Int)))&& (decide ((c.toNat:Int)<=(122:Int))))|| ((decide ((65:Int)<=(c.toNat:Int)))&& (decide ((c.toNat:Int)<=(90:Int))))))&& ((decide ((c.toNat:Int)< (48:Int)))|| (decide ((57:Int)< (c.toNat:Int)))))&& (!decide ((c.toNat:Int)=(45:Int))))&& (!decide ((c.toNat:Int)=(95:Int))))&& (!decide ((c.toNat:Int)=(46:Int)))
def oh (s:BA):Bool:=s.data.toList.all lA&& !decide (s=⟨#[]⟩)
def gP (s:BA):Bool:=s.data.toList.all (λc=>!decide ((c.toNat:Int)=36))&& (oh s&&decide ((s.size:Int)<=60))
def fW (s:BA):Bool:=s.data.toList.all (λc=>!lg c)&& (!decide (s=⟨#[]⟩)&&decide ((s.size:Int)<=60))
theorem Jz {α:Type} [Inhabited α] {p:α->Bool} {xs:List α} (h:∀ j,j<xs.length->p (G xs j)=true):xs.all p=true:=by
 rw[all_eq_true]
 intro x Z
 obtain⟨k,hk,rfl⟩:=ee Z
 exact h k hk
theorem tX {α:Type} [Inhabited α] {p:α->Bool} {xs:List α} {k:Nat} (hk:k<xs.length) (h:p (G xs k)=false):xs.all p=false:=by
 rw[all_eq_false]
 exact⟨G xs k,aC hk,by simp[h]⟩
theorem qY {p:UInt8->Bool} {s:BA} (h:∀ j,j<s.size->p (bt s j)=true):s.data.toList.all p=true:=Jz λj hj=>h j (by rwa [tS]at hj)
theorem rQ {p:UInt8->Bool} {s:BA} {k:Nat} (hk:k<s.size) (h:p (bt s k)=false):s.data.toList.all p=false:=tX (by rwa [tS]) h
theorem Ww {s:BA} {k:Nat} (hk:k<s.size) (h:lA (bt s k)=false):oh s=false:=by rw[oh,rQ hk h];rfl
theorem Wv {s:BA} (h:∀ j,j<s.size->lA (bt s j)=true):oh s= !decide (s=⟨#[]⟩):=by rw[oh,qY h];rfl
theorem Vs {s:BA} {k:Nat} (hk:k<s.size) (h:((bt s k).toNat:Int)=36):gP s=false:=by rw[gP,rQ (p:=λc=>!decide ((c.toNat:Int)=36)) hk (by simpa using h)];rfl
theorem Vr {s:BA} (h:∀ j,j<s.size->¬ ((bt s j).toNat:Int)=36):gP s=(oh s&&decide ((s.size:Int)<=60)):=by rw[gP,qY (p:=λc=>!decide ((c.toNat:Int)=36)) (λj hj=>by simpa using h j hj)];rfl
theorem PZ {s:BA} {k:Nat} (hk:k<s.size) (h:lg (bt s k)=true):fW s=false:=by rw[fW,rQ (p:=λc=>!lg c) hk (by simpa using h)];rfl
theorem PY {s:BA} (h:∀ j,j<s.size->lg (bt s j)=false):fW s=(!decide (s=⟨#[]⟩)&&decide ((s.size:Int)<=60)):=by rw[fW,qY (p:=λc=>!lg c) (λj hj=>by simpa using h j hj)];rfl
theorem cF {p:Nat->Prop} {k:Nat} (h:∀ j,j<k->p j) (hk:p k):∀ j,j<k+1->p j:=λj hj=>by
 by_cases e:j=k
 · subst e;exact hk
 · exact h j oz
def fG (d:Db) (s:BA):Bool:=decide (s∈d.bH)||decide (s∈d.vars)
def mr (s:BA) (k:Nat):Bool:=(!decide (((G s.data.toList k).toNat:Int)=(63:Int)))&& (!fW (s.extract k (k+1)))
def fq (s:BA):Bool:=(decide (s=⟨#[40]⟩)||decide (s=⟨#[41]⟩))|| ((List.range s.size).all (λk=>!mr s k)&& !decide (s=⟨#[]⟩))
theorem Td {s:BA} (h:s=⟨#[40]⟩∨s=⟨#[41]⟩):fq s=true:=by
 rcases h with h | h<;>simp[fq,h]
theorem Tc {s:BA} {k:Nat} (h0:¬ s=⟨#[40]⟩/\¬ s=⟨#[41]⟩) (hk:k<s.size) (h:mr s k=true):fq s=false:=by
 have:(List.range s.size).all (λk=>!mr s k)=false:=by
  rw[all_eq_false]
  exact⟨k,by simpa using hk,by simp[h]⟩
 simp[fq,h0.1,h0.2,this]
theorem Tb {s:BA} (h0:¬ s=⟨#[40]⟩/\¬ s=⟨#[41]⟩) (h:∀ j,j<s.size->mr s j=false):fq s= !decide (s=⟨#[]⟩):=by
 have:(List.range s.size).all (λk=>!mr s k)=true:=by
  rw[all_eq_true]
  intro k hk
  simp[h k (by simpa using hk)]
 simp[fq,h0.1,h0.2,this]
def gu (h:Hy) (vs:List BA):Bool:=(h.be&&decide ((h.ac.length:Int)=(2:Int)))&&decide (G h.ac 1∈vs)
def rm (d:Db) (l:List BA):Bool:=decide (G l 0∈d.bH)&& (List.range l.length).all (λj=>decide (j=0)||fG d (G l j))
def iz (d:Db) (l:List BA):Int:=if rm d l then 0 else 12
theorem Es {d:Db} {l:List BA} (h:¬ G l 0∈d.bH):iz d l=12:=by simp[iz,rm,h]
theorem Et {d:Db} {l:List BA} {j:Nat} (h0:0<j) (hj:j<l.length) (h:fG d (G l j)=false):iz d l=12:=by
 have:(List.range l.length).all (λj=>decide (j=0)||fG d (G l j))=false:=by
  rw[all_eq_false]
  exact⟨j,by simpa using hj,by simp[h,Nat.ne_of_gt h0]⟩
 simp[iz,rm,this]
theorem Eu {d:Db} {l:List BA} (h0:G l 0∈d.bH) (h:∀ j,0<j->j<l.length->fG d (G l j)=true):iz d l=0:=by
 have:(List.range l.length).all (λj=>decide (j=0)||fG d (G l j))=true:=by
  rw[all_eq_true]
  intro k hk
  rcases Nat.eq_zero_or_pos k with h | h'
  · simp[h]
  · simp[h k h' (by simpa using hk)]
 simp[iz,rm,h0,this]
def gp:List BA->List BA->Nat
 | x::xs,y::ys=>if x=y then gp xs ys+1 else 0
 | _,_=>0
theorem yP:∀(xs ys:List BA) (n:Nat),n<=xs.length->n<=ys.length->(∀ j,j<n->G xs j=G ys j)->¬ (n<xs.length/\n<ys.length/\G xs n=G ys n)->n=gp xs ys
 | [],ys,n,h1,_,_,_=>by simp at h1;simp[gp,h1]
 | x::xs,[],n,_,h2,_,_=>by simp at h2;simp[gp,h2]
 | x::xs,y::ys,n,h1,h2,h3,h4=>by
  simp only[gp]
  by_cases e:x=y
  · rw[if_pos e]
    obtain⟨m,rfl⟩:∃ m,n=m+1:=by
     cases n with
     | zero=>exact absurd ⟨by simp,by simp,by simpa [G]using e⟩ h4
     | succ m=>exact⟨m,rfl⟩
    rw[<-yP xs ys m (by simpa using h1) (by simpa using h2) (λj hj=>by simpa [G]using h3 (j+1) oz) (λ⟨a,b,c⟩=>h4 ⟨by simpa using a,by simpa using b,by simpa [G]using c⟩)]
  · rw[if_neg e]
    cases n with
    | zero=>rfl
    | succ m=>exact absurd (by simpa [G]using h3 0 oz) e
def iQ (vs:List BA) (p:Pr):Bool:=decide (p.a∈vs)&&decide (p.b∈vs)
theorem kP {α:Type} [Inhabited α] {p:α->Bool} {xs:List α} {k:Nat} (h:k<xs.length):(xs.take (k+1)).filter p=(xs.take k).filter p++(if p (G xs k)then [G xs k]else []):=by
 rw[dG h,List.filter_append]
 by_cases hp:p (G xs k)=true<;>simp[hp]
theorem cS {α:Type} {xs:List α} {k:Nat} (h:xs.length<=k):xs.take k=xs:=List.take_of_length_le h
def dl (vs:List BA) (ws:List BA):List BA:=ws.foldl (λout s=>if decide (s∈vs)&& !decide (s∈out)then out++[s]else out) []
theorem t6 (vs ws:List BA) (s:BA):dl vs (ws++[s])=if decide (s∈vs)&& !decide (s∈dl vs ws)then dl vs ws++[s]else dl vs ws:=by simp[dl]
theorem A2 (vs ws:List BA):(dl vs ws).Nodup/\(∀ x,x∈dl vs ws↔x∈ws/\x∈vs):=by
 have key:∀(r pre:List BA),(dl vs pre).Nodup/\(∀ x,x∈dl vs pre↔x∈pre/\x∈vs)->(dl vs (pre++r)).Nodup/\(∀ x,x∈dl vs (pre++r)↔x∈pre++r/\x∈vs):=by
  intro r
  induction r with
  | nil=>intro pre h;simpa using h
  | cons s r ih=>
   intro pre h
   have:=ih (pre++[s]) (by
    rw[t6]
    obtain⟨h1,h2⟩:=h
    by_cases hs:s∈vs
    · by_cases ho:s∈dl vs pre
      · simp only[hs,ho,decide_true,Bool.not_true,Bool.and_false,Bool.false_eq_true,if_false]
        refine⟨h1,λx=>?_⟩
        rw[h2]
        have:=(h2 s).1 ho
        grind
      · simp only[hs,ho,decide_true,decide_false,Bool.not_false,Bool.and_self,if_true]
        refine⟨?_,λx=>?_⟩
        · rw[List.nodup_append]
          exact⟨h1,by simp,λa ha b hb=>by simp at hb;subst hb;intro e;subst e;exact ho ha⟩
        · have:=h2 x
          grind
    · simp only[hs,decide_false,Bool.false_and,Bool.false_eq_true,if_false]
      refine⟨h1,λx=>?_⟩
      have:=h2 x
      grind)
   simpa using this
 simpa using key ws [] ⟨by simp[dl],by simp[dl]⟩
theorem nV:∀ {xs ys:List BA},xs.Nodup->(∀ x∈xs,x∈ys)->xs.length<=ys.length
 | [],_,_,_=>by simp
 | x::xs,ys,h,hs=>by
  have h1:=List.nodup_cons.1 h
  have h2:=nV (xs:=xs) (ys:=ys.erase x) h1.2 λz hz=>by
   have hne:z≠x:=λe=>h1.1 (e▸hz)
   exact(List.mem_erase_of_ne hne).2 (hs z (by simp[hz]))
  have h3:=List.length_erase_of_mem (hs x yz)
  have h4:0<ys.length:=List.length_pos_of_mem (hs x yz)
  simp only[List.length_cons]
  omega
theorem Gj (vs ws:List BA):(dl vs ws).length<=vs.length:=nV (A2 vs ws).1 λx Z=>((A2 vs ws).2 x).1 Z |>.2
def bR (hs:List Hy):List Hy:=hs.filter λh=>!h.be
def Aq (fs:List Fr):List Hy:=fs.flatMap λf=>f.aa++f.bA
theorem AJ {α β:Type} [Inhabited α] {f:α->β} {xs:List α} {k:Nat} (h:k<xs.length):(xs.take (k+1)).map f=(xs.take k).map f++[f (G xs k)]:=by rw[dG h,List.map_append];rfl
theorem sC {α:Type} [Inhabited α] {p:α->Bool} {xs:List α} {k:Nat} (h:k<xs.length):(xs.take (k+1)).any p=((xs.take k).any p||p (G xs k)):=by
 rw[dG h,List.any_append];simp
theorem qZ {α:Type} [Inhabited α] {p:α->Bool} {xs:List α} {k:Nat} (h:k<xs.length):(xs.take (k+1)).all p=((xs.take k).all p&&p (G xs k)):=by
 rw[dG h,List.all_append];simp
theorem mj {α:Type} [Inhabited α] {p:α->Bool} {xs:List α} {k:Nat} (h:k<xs.length) (hp:p (G xs k)=true):xs.any p=true:=List.any_eq_true.2 ⟨_,aC h,hp⟩
theorem mn {α:Type} [Inhabited α] {p:α->Bool} {xs:List α} {k:Nat} (h:(xs.take k).any p=false) (hk:xs.length<=k):xs.any p=false:=by rwa [cS hk]at h
theorem ml {α:Type} [Inhabited α] {p:α->Bool} {xs:List α} {k:Nat} (h:k<xs.length) (h0:(xs.take k).any p=false) (hp:p (G xs k)=false):(xs.take (k+1)).any p=false:=by rw[sC h,h0,hp];rfl
def fo (d:Db) (n:Nat) (s:BA):Bool:=(d.ab.take n).any λf=>decide (f.ae=s)
def iC (d:Db) (n:Nat) (s:BA):Bool:=(d.ab.take n).any λf=>(f.aa++f.bA).any λh=>decide (h.ae=s)
def iV (d:Db) (k:Nat):List Hy:=Aq (d.ab.take k)
theorem Gx (d:Db):iV d 0=[]:=rfl
theorem rY {d:Db} {k:Nat} (h:k<d.ab.length):iV d (k+1)=iV d k++((G d.ab k).aa++(G d.ab k).bA):=by
 simp[iV,Aq,dG h]
def gY (y:Hy) (dm:Bool):Bool:=((!fW y.ae|| (dm&& !y.be))|| (y.be&& !decide (((y.ac.length:Nat):Int)=2)))|| (!y.be&& (decide (((y.ac.length:Nat):Int)=0)||decide (200< ((y.ac.length:Nat):Int))))
theorem im {y:Hy} {dm:Bool} (h:gY y dm=false) (hf:y.be=true):y.ac.length=2:=by
 simp[gY,hf]at h;omega
theorem EK {y:Hy} {dm:Bool} (h:gY y dm=false):0<y.ac.length:=by
 cases hf:y.be with
 | true=>have:=im h hf;omega
 | false=>simp[gY,hf]at h;exact List.length_pos_iff.2 (by grind)
def oF (d:Db) (y:Hy):Bool:=y.be&& (!decide (G y.ac 0∈d.bH)|| !decide (G y.ac 1∈d.vars))
def kS (y x:Hy):Bool:=decide (x.ae=y.ae)
def gZ (y x:Hy):Bool:=gu x (y.ac.drop 1)
def jz (y x:Hy):Bool:=gu x (y.ac.drop 1)&& !decide (G x.ac 0=G y.ac 0)
def fL (y x:Hy):Bool:=decide (x.ae=y.ae)&& !kX x y
theorem Gk {x:Hy} {vs:List BA} (h:gu x vs=true):x.ac.length=2:=by
 simp[gu]at h;omega
def eN (d:Db) (k:Nat) (y:Hy) (bs:List Hy) (dm:Bool):Int:=
 if gY y dm then 2 else if fo d (k+1) y.ae||fG d y.ae then 6 else if bs.any (kS y)then 6
 else if oF d y then 12 else if !y.be&& !decide (iz d y.ac=0)then iz d y.ac
 else if y.be&& (iV d k++bs).any (jz y)then 11 else if y.be&&bs.any (gZ y)then 6
 else if(iV d k).any (fL y)then 6 else 0
def fS (n:Nat) (g:Nat->Int):Int:=match(List.range n).find? (λi=>!decide (g i=0))with | some i=>g i | none=>0
theorem mB {n:Nat} {g:Nat->Int} (h:∀ j,j<n->g j=0):fS n g=0:=by
 have:(List.range n).find? (λi=>!decide (g i=0))=none:=by
  rw[List.find?_eq_none]
  intro x Z
  simp[h x (by simpa using Z)]
 rw[fS,this]
theorem i8 {n k:Nat} {g:Nat->Int} (hk:k<n) (h:∀ j,j<k->g j=0) (hg:g k≠0):fS n g=g k:=by
 have:(List.range n).find? (λi=>!decide (g i=0))=some k:=by
  rw[List.find?_eq_some_iff_getElem]
  refine⟨by simp[hg],k,by simpa using hk,by simp,λj hj=>?_⟩
  simp[h j hj]
 rw[fS,this]
theorem lM {n:Nat} {g:Nat->Int} (h:fS n g=0):∀ j,j<n->g j=0:=by
 intro j hj
 rw[fS]at h
 split at h
 · rename_i i hi
   have:=List.find?_some hi
   simp[h]at this
 · rename_i hi
   rw[List.find?_eq_none]at hi
   simpa using hi j (by simpa using hj)
def cB (x y:Pr):Bool:=Op.bytesLess x.a.toList y.a.toList|| (decide (x.a=y.a)&&Op.bytesLess x.b.toList y.b.toList)
def fA:List Pr->Pr->List Pr
 | [],p=>[p]
 | x::xs,p=>if cB x p then x::fA xs p else if ib x p then x::xs else p::x::xs
theorem Bi:∀(l:List Pr) (p:Pr) (k:Nat),k<=l.length->(∀ j,j<k->cB (G l j) p=true)->¬ (k<l.length/\cB (G l k) p=true)->
 fA l p=if k<l.length/\ib (G l k) p=true then l else l.take k++p::l.drop k
 | [],p,k,h1,_,_=>by simp at h1;subst h1;simp[fA]
 | x::xs,p,0,_,_,h3=>by
  have:cB x p=false:=by simpa [G]using h3
  simp only[fA,this]
  by_cases e:ib x p=true<;>simp[e,G]
 | x::xs,p,k+1,h1,h2,h3=>by
  have h0:cB x p=true:=by simpa [G]using h2 0 oz
  have ih:=Bi xs p k (by simpa using h1) (λj hj=>by simpa [G]using h2 (j+1) oz) (λ⟨a,b⟩=>h3 ⟨by simpa using a,by simpa [G]using b⟩)
  simp only[fA,h0,if_true,ih]
  by_cases e:k<xs.length/\ib (G xs k) p=true
  · have e':k+1< (x::xs).length/\ib (G (x::xs) (k+1)) p=true:=⟨by simpa using e.1,by simpa [G]using e.2⟩
    rw[if_pos e,if_pos e']
  · have e':¬ (k+1< (x::xs).length/\ib (G (x::xs) (k+1)) p=true):=λ⟨a,b⟩=>e ⟨by simpa using a,by simpa [G]using b⟩
    rw[if_neg e,if_neg e'];rfl
theorem Hc (l:List Pr) (p:Pr):(fA l p).length<=l.length+1:=by
 induction l with
 | nil=>simp[fA]
 | cons x xs ih=>simp only[fA];split<;>(try split)<;>simp<;>omega
def mR (w z:List Pr):List Pr:=(w++z).foldl fA []
theorem Er {α β:Type} [Inhabited α] {f:β->α->β} {a:β} {xs:List α} {k:Nat} (h:k<xs.length):(xs.take (k+1)).foldl f a=f ((xs.take k).foldl f a) (G xs k):=by
 rw[dG h,List.foldl_append];rfl
def fX (d:Db) (f:Fr):List BA:=dl d.vars (f.ac::(bR f.aa).map Hy.ac).flatten
def eG (hs:List Hy):List BA:=(hs.filter λh=>h.be).map λh=>G h.ac 1
def hIn (m:List BA) (h:Hy):Bool:=!h.be||gu h m
def pz (d:Db) (p:Pr):Bool:=(!Op.bytesLess p.a.toList p.b.toList|| !decide (p.a∈d.vars))|| !decide (p.b∈d.vars)
def f4 (d:Db) (f:Fr):Bool:=
 ((f.aa.all (hIn (fX d f))&& (fX d f).all λs=>decide (s∈eG f.aa))&& !f.wide.any (pz d))&& (decide (f.wide=mR f.wide [])&&decide (f.apart=f.wide.filter (iQ (fX d f))))
def j8 (d:Db) (k:Nat):List BA:=if k=0 then []else(bR (G d.ab (k-1)).aa).map Hy.ae
def eD (d:Db) (k i:Nat):Int:=eN d k (G ((G d.ab k).aa++(G d.ab k).bA) i) (((G d.ab k).aa++(G d.ab k).bA).take i) (decide ((((G d.ab k).aa.length:Nat):Int)<=((i:Nat):Int)))
def lu (d:Db) (k:Nat):Int:=fS ((G d.ab k).aa++(G d.ab k).bA).length (eD d k)
theorem rL {d:Db} {k:Nat} {y:Hy} {bs:List Hy} {dm:Bool} (h:eN d k y bs dm=0):gY y dm=false:=by
 cases hf:gY y dm with
 | false=>rfl
 | true=>simp[eN,hf]at h
theorem Qo {d:Db} {k:Nat} (h:lu d k=0):∀ y∈(G d.ab k).aa++(G d.ab k).bA,y.be=true->y.ac.length=2:=λy hy hf=>by
 obtain⟨j,hj,rfl⟩:=ee hy
 exact im (rL (lM h j hj)) hf
theorem LF {α:Type} [Inhabited α] {p:α->Bool} {xs:List α} {c i:Nat} (h1:c<=i) (h2:i<xs.length) (hp:p (G xs i)=true):(xs.drop c).any p=true:=by
 rw[List.any_eq_true]
 refine⟨G xs i,?_,hp⟩
 rw[List.mem_drop_iff_getElem]
 exact⟨i-c,oz,by simp[G,List.getD_eq_getElem?_getD,Nat.add_sub_cancel' h1,List.getElem?_eq_getElem h2]⟩
theorem LG {α:Type} [Inhabited α] {p:α->Bool} {xs:List α} {c:Nat} (h:∀ i,c<=i->i<xs.length->p (G xs i)=false):(xs.drop c).any p=false:=by
 rw[List.any_eq_false]
 intro x Z
 rw[List.mem_drop_iff_getElem]at Z
 obtain⟨i,hi,rfl⟩:=Z
 have:=h (c+i) oz oz
 simp only[G,List.getD_eq_getElem?_getD,List.getElem?_eq_getElem (show c+i<xs.length by omega),Option.getD_some]at this
 simpa [Nat.add_comm]using this
theorem yQ:∀(xs ys:List BA),gp xs ys<=ys.length
 | [],_=>by simp[gp]
 | _::_,[]=>by simp[gp]
 | x::xs,y::ys=>by
  simp only[gp,List.length_cons]
  have:=yQ xs ys
  split<;>omega
def uf (d:Db) (k:Nat) (f:Fr):Bool:=(((bR f.aa).map Hy.ae).drop (gp (j8 d k) ((bR f.aa).map Hy.ae))).any (iC d k)
theorem iU {p:Prop} [Decidable p] (h:(!decide p)=true):¬ p:=by simpa using h
theorem oU {p:Prop} [Decidable p] (h:(!decide p)=false):p:=by simpa using h
def eZ (d:Db) (k:Nat) (f:Fr):Int:=
 if !fW f.ae then 2 else if(fo d k f.ae||iC d k f.ae)||fG d f.ae then 6
 else if decide (40< ((f.aa.length:Nat):Int))||decide (40< ((f.bA.length:Nat):Int))then 4
 else if !decide (lu d k=0)then lu d k
 else if decide (((f.ac.length:Nat):Int)=0)||decide (200< ((f.ac.length:Nat):Int))then 2
 else if !decide (iz d f.ac=0)then iz d f.ac
 else if !f4 d f then 70
 else if(decide (0< ((f.proof.length:Nat):Int))&& !f.thm)||decide (8000< ((f.proof.length:Nat):Int))then 2
 else if !f.proof.all fq then 2
 else if uf d k f then 7 else 0
def dB (d:Db) (k:Nat):Int:=eZ d k (G d.ab k)
theorem tl {d:Db} {k:Nat} (h:dB d k=0):(G d.ab k).aa.length<=40/\(G d.ab k).bA.length<=40:=by
 rw[dB,eZ]at h
 split at h
 · simp at h
 split at h
 · simp at h
 split at h
 · simp at h
 rename_i h0
 simp at h0
 omega
def gF (d:Db) (i:Nat):Int:=if !gP (G d.bH i)then 2 else if decide (G d.bH i∈d.bH.take i)then 6 else 0
def iM (d:Db) (i:Nat):Int:=if !gP (G d.vars i)then 2 else if decide (G d.vars i∈d.bH)||decide (G d.vars i∈d.vars.take i)then 6 else 0
def ec (d:Db):Int:=if !decide (fS d.bH.length (gF d)=0)then fS d.bH.length (gF d)else fS d.vars.length (iM d)
def dy (d:Db):Int:=
 if(decide (400< ((d.ab.length:Nat):Int))||decide (8000< ((d.bH.length:Nat):Int)))||decide (8000< ((d.vars.length:Nat):Int))then 8
 else if !decide (ec d=0)then ec d else fS d.ab.length (dB d)
def bP (d:Db) (s:BA):Int:=match d.ab.findIdx? (λf=>decide (f.ae=s))with | some i=>(i:Int) | none=> -1
theorem MI {d:Db} {s:BA} {k:Nat} (hk:k<d.ab.length) (h:(G d.ab k).ae=s) (h0:∀ j,j<k->¬ (G d.ab j).ae=s):bP d s=(k:Int):=by
 have:d.ab.findIdx? (λf=>decide (f.ae=s))=some k:=by
  rw[List.findIdx?_eq_some_iff_getElem]
  refine⟨hk,?_,λj hj=>?_⟩
  · simpa [G,List.getD_eq_getElem?_getD,List.getElem?_eq_getElem hk]using h
  · have:=h0 j hj
    simpa [G,List.getD_eq_getElem?_getD,List.getElem?_eq_getElem (show j<d.ab.length by omega)]using this
 rw[bP,this]
end
end Go.Proofs.YtdfadihhfppjaaaGreatDoor
