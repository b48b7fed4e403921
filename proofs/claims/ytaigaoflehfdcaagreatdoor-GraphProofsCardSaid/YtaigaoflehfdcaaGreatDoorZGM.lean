/-
  A DATABASE AS AN ARGUMENT: what its reading says of memory; what a law that keeps all leaves.
  WHAT A RIGHT DATABASE IS, IN PLAIN LEAN: labels, symbols, formulas, hypotheses, frames.
  WHAT A RIGHT DATABASE IS, IN PLAIN LEAN: the errors of hypotheses, of frames, of a database.
  WHAT USES WHAT, IN PLAIN LEAN.
-/
import Derived.Test.YtaigaoflehfdcaaGreatDoorZGL
import Derived.Test.YtaigaoflehfdcaaGreatDoorTie
import Derived.Deep.SlicePairs
import Derived.Deep.DeepHandedRow
import Derived.Lib.LaidTab
import Derived.Carry
namespace Go.Proofs.YtaigaoflehfdcaaGreatDoor
open Go.Proofs.Tryz (prog)
open Go.ChangeShapes Go.WideShapes Go.ChangeAt Go.RowKit Go.Deep
def ZkP {H:Type} (t:TypeId) (d:DataW H):Prop:=∀ x∈d.weights prog t,x≤reachBytes
section
variable {H:Type} {enc:TypeId×Value→H} {W:World}
set_option maxRecDepth 100000 in
theorem ZtW:Zdx prog 10 25=some dbT:=by kernel_rfl
set_option maxRecDepth 100000 in
theorem Ztt {r:Reach} {b0:Nat} {v:Value} {d:DataW H} {ps:List MemPlace} (hval:Value.okWide prog W r b0 25 v) (h:DataW.Trod enc prog W 0 (fun _=>true) true 25 v d ps) (hw:ZkP 25 d):∃ x:Db,Rel All W (.agg (dbC x)) v∧x.Ok:=by
 simp only[Value.okWide,Tryz.underlying25]at hval
 obtain⟨cs,rfl,hsz,_⟩:=hval
 obtain⟨n,hn⟩:=h
 obtain⟨cds,h1,h2⟩:=Zbp 10 25 dbT ZtW n _ _ hn hw
 obtain⟨x,rfl,hok⟩:=ZtS h1
 refine⟨x,?_,hok⟩
 simp only[Rel]
 exact⟨cs.toList,by simp,by simpa [Value.cells]using h2⟩
theorem Zqb:laidOutB prog=true:=by kernel_rfl
theorem Zce {W':World} {sp:Nat→Bool} (hsame:∀ p:MemPlace,p.block<W.heap.size→W.sameAt W' p):∀ {ts:List TypeId} {vs:List Value} {ds:List (DataW H)} {ps:List MemPlace},(∀ t∈ts,prog.readableRec t=true∧t<prog.types.size)→
 DataW.TrodAll enc prog W 0 (fun _=>true) true ts vs ds ps→(∀ p∈ps,p.block<W.heap.size)→(∀ p∈ps,sp p.block=true)→DataW.TrodAll enc prog W' 0 sp true ts vs ds ps
 | [],vs,ds,ps,_,h,_,_=>by
  obtain⟨rfl,rfl,rfl⟩:=trodAll_nil h
  exact trodAll_mk0
 | t::ts,vs,ds,ps,ht,h,hlt,hsp=>by
  obtain⟨v,vs',d,ds',p,q,rfl,rfl,rfl,h1,h2⟩:=trodAll_cons h
  have ht1:=ht t yz
  exact trodAll_cons_mk (WideElems.Trod_stays Zqb ht1.1 ht1.2 h1 (fun x hx=>hsame x (hlt x (by simp[hx]))) fun x hx=>hsp x (by simp[hx]))
   (Zce hsame (fun t h=>ht t (by simp[h])) h2 (fun x hx=>hlt x (by simp[hx])) fun x hx=>hsp x (by simp[hx]))
set_option maxRecDepth 100000 in
theorem Zqa {f:Func} {s:ChangeSpec} {apart fresh handsOn again:Bool} {W':World} {args:Array Value} {ds gs:List (DataW H)} {before:List MemPlace}
 (hW:DataW.Whole enc prog f.params.toList s.vars apart W args.toList ds gs before) (hsv:s.vars=[]) (hr:f.resultTypes= #[4]) (hfn:s.fn H ds= { results:=[.lit (.bool true)],args:=ds })
 (hts:∀ t∈f.params.toList,prog.readableRec t=true∧t<prog.types.size) (hk:Keeps All W W'):s.post enc prog f apart fresh handsOn again W args (.bool true) W':=by
 have hb:Below W.heap.size W W':=hk.below nlr fun _ _=>trivial
 have hW0:=hW
 obtain⟨p,q,hA,hV,rfl,hz,hn⟩:=hW
 rw[hsv]at hV
 obtain⟨rfl,rfl⟩:=trodVars_none hV
 have hlt:∀ x∈p,x.block<W.heap.size:=fun x hx=>hW0.lt x (by simpa using hx)
 have hfn':s.fn H (ds++[])= { results:=[.lit (.bool true)],args:=ds }:=by rw[List.append_nil];exact hfn
 have hres:∀(b:Nat) (sp:Nat→Bool) (hd:Bool),DataW.TrodAll enc prog W' b sp hd f.resultTypes.toList ((Value.bool true).resultList f.resultTypes.size) (s.fn H (ds++[])).results []:=fun b sp hd=>by
  rw[hr,hfn']
  exact trodAll_cons_mk (shut_bool Tryz.underlying4 true) trodAll_mk0
 have hargs:∀ sp:Nat→Bool,(∀ x∈p,sp x.block=true)→DataW.TrodAll enc prog W' 0 sp true f.params.toList args.toList (s.fn H (ds++[])).args p:=fun sp hsp=>by
  rw[hfn']
  exact Zce (fun x hx=>hb.same hx) hts hA hlt hsp
 have hvars:∀ sp:Nat→Bool,DataW.TrodVars enc prog W' sp s.vars (s.fn H (ds++[])).vars []:=fun sp=>by
  rw[hfn',hsv]
  rfl
 refine⟨ds,[],p++[],[],p,[],hW0,hres _ _ _,hargs _ (fun x hx=>by simpa using hlt x hx),hvars _,hb.frame _,fun _=>?_⟩
 refine⟨ok_one hr rfl (okWide_bool_mk Tryz.underlying4 _),_,_,([]++p)++[],⟨[]++p,[],trodAll_append (hargs _ (fun _ _=>rfl)) (hres _ _ _),hvars _,rfl,?_,?_⟩,?_⟩
 · intro b off hp
   have hp':MemPlace.cell b off∈p:=by simpa using hp
   have h1:=hz b off (by simpa using hp')
   rw[hb.frozen (p:=⟨b,off,none⟩) (hlt _ hp')]
   exact h1
 · intro ha
   simpa using hn ha
 · intro x hx _
   simpa using hx
end
theorem Zh6:prog.cellsOf 9=1:=by kernel_rfl
theorem ZlH:prog.cellsOf 4=1:=by kernel_rfl
theorem Zoi:prog.cellsOf 3=1:=by kernel_rfl
theorem Zf0:prog.cellsOf 291=4:=by kernel_rfl
section
variable {H:Type} {enc:TypeId×Value→H} {W:World} {base:Nat} {spare:Nat→Bool} {held:Bool}
set_option maxRecDepth 100000 in
theorem Xh {n:Nat} {cs:List Value} {x:DataW H×List MemPlace} (h:DataW.trod enc prog W base spare held n 291 cs=some x) {s:List UInt8} {b:Bool} {i j:Int}
 (hx:x.1= .agg [.lit (.string s),.lit (.bool b),.lit (.int .i64 i),.lit (.int .i64 j)]):cs=[.string ⟨s.toArray⟩,.bool b,.int .i64 i,.int .i64 j]:=by
 obtain⟨xs,m,rfl,rfl,hl,hxl,hf⟩:=DataW.trod_struct Tryz.underlying291 h
 rw[Zf0]at hl
 match cs,hl with
 | [c0,c1,c2,c3],_=>
 match xs,hxl with
 | [x0,x1,x2,x3],_=>
 simp only[List.map_cons,List.map_nil,DataW.agg.injEq,List.cons.injEq,and_true]at hx
 obtain⟨e0,e1,e2,e3⟩:=hx
 have f0:DataW.trod enc prog W base spare held m 9 (([c0,c1,c2,c3].drop 0).take (prog.cellsOf 9))=[x0,x1,x2,x3][0]?:=hf 0 _ rfl
 have f1:DataW.trod enc prog W base spare held m 4 (([c0,c1,c2,c3].drop 1).take (prog.cellsOf 4))=[x0,x1,x2,x3][1]?:=hf 1 _ rfl
 have f2:DataW.trod enc prog W base spare held m 3 (([c0,c1,c2,c3].drop 2).take (prog.cellsOf 3))=[x0,x1,x2,x3][2]?:=hf 2 _ rfl
 have f3:DataW.trod enc prog W base spare held m 3 (([c0,c1,c2,c3].drop 3).take (prog.cellsOf 3))=[x0,x1,x2,x3][3]?:=hf 3 _ rfl
 simp only[Zh6,ZlH,Zoi,List.drop_zero,List.drop_succ_cons,List.take_succ_cons,List.take_zero,List.getElem?_cons_zero,List.getElem?_cons_succ]at f0 f1 f2 f3
 obtain⟨s0,g0,rfl,_⟩:=DataW.trod_string Tryz.underlying9 f0
 obtain⟨s1,g1,rfl⟩:=DataW.trod_bool Tryz.underlying4 f1
 obtain⟨s2,g2,rfl,_⟩:=DataW.trod_int Tryz.underlying3 f2
 obtain⟨s3,g3,rfl,_⟩:=DataW.trod_int Tryz.underlying3 f3
 simp only[DataW.lit.injEq,Lit.string.injEq,Lit.bool.injEq,Lit.int.injEq,true_and,List.cons.injEq,and_true]at e0 e1 e2 e3 g0 g1 g2 g3
 subst e0 e1 e2 e3 g0 g1 g2 g3
 simp
end
theorem gForms:prog.globalNamed "apodixis/layout.forms" =some 0:=by kernel_rfl
theorem gFormsType:(prog.globals[0]?).map (·.type)=some 292:=by kernel_rfl
set_option maxRecDepth 100000 in
theorem ZlA {W:World} {rest:List (String×DataW Unit)} (h:laidMet prog (("apodixis/layout.forms",Rows.laid_apodixis_layout_forms)::rest) W):Zij W:=by
 obtain⟨ps,⟨g',t',cs,fuel,p,q,hg',ht',hvar,hd,_,_⟩,_⟩:=h
 obtain rfl:=Option.some.inj (gForms.symm.trans hg')
 obtain rfl:=Option.some.inj (gFormsType.symm.trans ht')
 have hcell:=World.var?_cell gForms hvar
 obtain⟨xs,m,rfl,hx,hl,hxl,hf⟩:=DataW.trod_array Tryz.underlying292 hd
 have hx1:=congrArg Prod.fst hx
 rw[Zf0]at hf
 match xs,hxl with
 | [x0,x1,x2,x3,x4,x5,x6,x7,x8,x9],_=>
 simp only[Rows.laid_apodixis_layout_forms,List.map_cons,List.map_nil,DataW.agg.injEq,List.cons.injEq,and_true]at hx1
 obtain⟨e0,e1,e2,e3,e4,e5,e6,e7,e8,e9⟩:=hx1
 have hall:∀ i,i<10→(cs.toList.drop (i*4)).take 4=(formsV.drop (i*4)).take 4:=by
  intro i hi
  have hfi:=hf i hi
  match i,hi with
  | 0,_=>exact Xh hfi e0.symm
  | 1,_=>exact Xh hfi e1.symm
  | 2,_=>exact Xh hfi e2.symm
  | 3,_=>exact Xh hfi e3.symm
  | 4,_=>exact Xh hfi e4.symm
  | 5,_=>exact Xh hfi e5.symm
  | 6,_=>exact Xh hfi e6.symm
  | 7,_=>exact Xh hfi e7.symm
  | 8,_=>exact Xh hfi e8.symm
  | 9,_=>exact Xh hfi e9.symm
 have hat:∀(l:List Value) (p:Nat),l[p]?=((l.drop (p/4*4)).take 4)[p%4]?:=fun l p=>by
  rw[List.getElem?_take,if_pos (Nat.mod_lt _ dz),List.getElem?_drop,Nat.div_add_mod']
 intro p u hu
 have hp:p<40:=by
  rcases Nat.lt_or_ge p 40 with h | h
  · exact h
  · rw[List.getElem?_eq_none (show formsV.length≤p from h)]at hu;cases hu
 rw[hcell,←Array.getElem?_toList,hat,hall (p/4) oz,←hat]
 exact hu
theorem ZnO:Stab Zij:=fun _ _ hk h i u hu=>hk.cell trivial (h i u hu)
end Go.Proofs.YtaigaoflehfdcaaGreatDoor
namespace Go.Proofs.YtaigaoflehfdcaaGreatDoor
abbrev bt (s:BA) (k:Nat):UInt8:=ge s.data.toList k
theorem Za8 (s:BA):s.data.toList.length=s.size:=by simp
def ZaO (c:UInt8):Bool:=(decide ((33:Int)≤(c.toNat:Int)))&& (decide ((c.toNat:Int)≤(126:Int)))
def ZlU (c:UInt8):Bool:=((((!(((decide ((97:Int)≤(c.toNat:Int)))&& (decide ((c.toNat:Int)≤(122:Int))))|| ((decide ((65:Int)≤(c.toNat:Int)))&& (decide ((c.toNat:Int)≤(90:Int))))))&& ((decide ((c.toNat:Int)< (48:Int)))|| (decide ((57:Int)< (c.toNat:Int)))))&& (!decide ((c.toNat:Int)=(45:Int))))&& (!decide ((c.toNat:Int)=(95:Int))))&& (!decide ((c.toNat:Int)=(46:Int)))
def Zf6 (s:BA):Bool:=s.data.toList.all ZaO&& !decide (s=⟨#[]⟩)
def Zga (s:BA):Bool:=s.data.toList.all (fun c=>!decide ((c.toNat:Int)=36))&& (Zf6 s&&decide ((s.size:Int)≤60))
def ZdF (s:BA):Bool:=s.data.toList.all (fun c=>!ZlU c)&& (!decide (s=⟨#[]⟩)&&decide ((s.size:Int)≤60))
theorem all_ge {α:Type} [Inhabited α] {p:α→Bool} {xs:List α} (h:∀ j,j<xs.length→p (ge xs j)=true):xs.all p=true:=by
 rw[List.all_eq_true]
 intro x hx
 obtain⟨k,hk,rfl⟩:=Y5 hx
 exact h k hk
theorem Zam {α:Type} [Inhabited α] {p:α→Bool} {xs:List α} {k:Nat} (hk:k<xs.length) (h:p (ge xs k)=false):xs.all p=false:=by
 rw[List.all_eq_false]
 exact⟨ge xs k,Zj hk,by simp[h]⟩
theorem Zf3 {p:UInt8→Bool} {s:BA} (h:∀ j,j<s.size→p (bt s j)=true):s.data.toList.all p=true:=all_ge fun j hj=>h j (by rwa [Za8]at hj)
theorem QD {p:UInt8→Bool} {s:BA} {k:Nat} (hk:k<s.size) (h:p (bt s k)=false):s.data.toList.all p=false:=Zam (by rwa [Za8]) h
theorem ZoY {s:BA} {k:Nat} (hk:k<s.size) (h:ZaO (bt s k)=false):Zf6 s=false:=by rw[Zf6,QD hk h];rfl
theorem Zl4 {s:BA} (h:∀ j,j<s.size→ZaO (bt s j)=true):Zf6 s= !decide (s=⟨#[]⟩):=by rw[Zf6,Zf3 h];rfl
theorem ZsY {s:BA} {k:Nat} (hk:k<s.size) (h:((bt s k).toNat:Int)=36):Zga s=false:=by rw[Zga,QD (p:=fun c=>!decide ((c.toNat:Int)=36)) hk (by simpa using h)];rfl
theorem Zpd {s:BA} (h:∀ j,j<s.size→¬ ((bt s j).toNat:Int)=36):Zga s=(Zf6 s&&decide ((s.size:Int)≤60)):=by rw[Zga,Zf3 (p:=fun c=>!decide ((c.toNat:Int)=36)) (fun j hj=>by simpa using h j hj)];rfl
theorem ZtC {s:BA} {k:Nat} (hk:k<s.size) (h:ZlU (bt s k)=true):ZdF s=false:=by rw[ZdF,QD (p:=fun c=>!ZlU c) hk (by simpa using h)];rfl
theorem Zqf {s:BA} (h:∀ j,j<s.size→ZlU (bt s j)=false):ZdF s=(!decide (s=⟨#[]⟩)&&decide ((s.size:Int)≤60)):=by rw[ZdF,Zf3 (p:=fun c=>!ZlU c) (fun j hj=>by simpa using h j hj)];rfl
theorem ZG {p:Nat→Prop} {k:Nat} (h:∀ j,j<k→p j) (hk:p k):∀ j,j<k+1→p j:=fun j hj=>by
 by_cases e:j=k
 · subst e;exact hk
 · exact h j oz
def ZcS (d:Db) (s:BA):Bool:=decide (s∈d.consts)||decide (s∈d.vars)
def ZoU (s:BA) (k:Nat):Bool:=(!decide (((ge s.data.toList k).toNat:Int)=(63:Int)))&& (!ZdF (s.extract k (k+1)))
def YY (s:BA):Bool:=(decide (s=⟨#[40]⟩)||decide (s=⟨#[41]⟩))|| ((List.range s.size).all (fun k=>!ZoU s k)&& !decide (s=⟨#[]⟩))
theorem Zle {s:BA} (h:s=⟨#[40]⟩∨s=⟨#[41]⟩):YY s=true:=by
 rcases h with h | h<;>simp[YY,h]
theorem ZmO {s:BA} {k:Nat} (h0:¬ s=⟨#[40]⟩∧¬ s=⟨#[41]⟩) (hk:k<s.size) (h:ZoU s k=true):YY s=false:=by
 have:(List.range s.size).all (fun k=>!ZoU s k)=false:=by
  rw[List.all_eq_false]
  exact⟨k,by simpa using hk,by simp[h]⟩
 simp[YY,h0.1,h0.2,this]
theorem Zlf {s:BA} (h0:¬ s=⟨#[40]⟩∧¬ s=⟨#[41]⟩) (h:∀ j,j<s.size→ZoU s j=false):YY s= !decide (s=⟨#[]⟩):=by
 have:(List.range s.size).all (fun k=>!ZoU s k)=true:=by
  rw[List.all_eq_true]
  intro k hk
  simp[h k (by simpa using hk)]
 simp[YY,h0.1,h0.2,this]
def ofB (h:Hy) (vs:List BA):Bool:=(h.floating&&decide ((h.text.length:Int)=(2:Int)))&&decide (ge h.text 1∈vs)
def ZnR (d:Db) (l:List BA):Bool:=decide (ge l 0∈d.consts)&& (List.range l.length).all (fun j=>decide (j=0)||ZcS d (ge l j))
def ZaS (d:Db) (l:List BA):Int:=if ZnR d l then 0 else 12
theorem ZnQ {d:Db} {l:List BA} (h:¬ ge l 0∈d.consts):ZaS d l=12:=by simp[ZaS,ZnR,h]
theorem Zkh {d:Db} {l:List BA} {j:Nat} (h0:0<j) (hj:j<l.length) (h:ZcS d (ge l j)=false):ZaS d l=12:=by
 have:(List.range l.length).all (fun j=>decide (j=0)||ZcS d (ge l j))=false:=by
  rw[List.all_eq_false]
  exact⟨j,by simpa using hj,by simp[h,Nat.ne_of_gt h0]⟩
 simp[ZaS,ZnR,this]
theorem Zkg {d:Db} {l:List BA} (h0:ge l 0∈d.consts) (h:∀ j,0<j→j<l.length→ZcS d (ge l j)=true):ZaS d l=0:=by
 have:(List.range l.length).all (fun j=>decide (j=0)||ZcS d (ge l j))=true:=by
  rw[List.all_eq_true]
  intro k hk
  rcases Nat.eq_zero_or_pos k with h | h'
  · simp[h]
  · simp[h k h' (by simpa using hk)]
 simp[ZaS,ZnR,h0,this]
def ZdW:List BA→List BA→Nat
 | x::xs,y::ys=>if x=y then ZdW xs ys+1 else 0
 | _,_=>0
theorem Zi5:∀(xs ys:List BA) (n:Nat),n≤xs.length→n≤ys.length→(∀ j,j<n→ge xs j=ge ys j)→¬ (n<xs.length∧n<ys.length∧ge xs n=ge ys n)→n=ZdW xs ys
 | [],ys,n,h1,_,_,_=>by simp at h1;simp[ZdW,h1]
 | x::xs,[],n,_,h2,_,_=>by simp at h2;simp[ZdW,h2]
 | x::xs,y::ys,n,h1,h2,h3,h4=>by
  simp only[ZdW]
  by_cases e:x=y
  · rw[if_pos e]
    obtain⟨m,rfl⟩:∃ m,n=m+1:=by
     cases n with
     | zero=>exact absurd ⟨by simp,by simp,by simpa [ge]using e⟩ h4
     | succ m=>exact⟨m,rfl⟩
    rw[←Zi5 xs ys m (by simpa using h1) (by simpa using h2) (fun j hj=>by simpa [ge]using h3 (j+1) oz) (fun⟨a,b,c⟩=>h4 ⟨by simpa using a,by simpa using b,by simpa [ge]using c⟩)]
  · rw[if_neg e]
    cases n with
    | zero=>rfl
    | succ m=>exact absurd (by simpa [ge]using h3 0 oz) e
def inV (vs:List BA) (p:Pr):Bool:=decide (p.a∈vs)&&decide (p.b∈vs)
theorem Z3 {α:Type} [Inhabited α] {p:α→Bool} {xs:List α} {k:Nat} (h:k<xs.length):(xs.take (k+1)).filter p=(xs.take k).filter p++(if p (ge xs k)then [ge xs k]else []):=by
 rw[Z1 h,List.filter_append]
 by_cases hp:p (ge xs k)=true<;>simp[hp]
theorem Zz {α:Type} {xs:List α} {k:Nat} (h:xs.length≤k):xs.take k=xs:=List.take_of_length_le h
def QB (vs:List BA) (ws:List BA):List BA:=ws.foldl (fun out s=>if decide (s∈vs)&& !decide (s∈out)then out++[s]else out) []
theorem Za6 (vs ws:List BA) (s:BA):QB vs (ws++[s])=if decide (s∈vs)&& !decide (s∈QB vs ws)then QB vs ws++[s]else QB vs ws:=by simp[QB]
theorem Zev (vs ws:List BA):(QB vs ws).Nodup∧(∀ x,x∈QB vs ws↔x∈ws∧x∈vs):=by
 have key:∀(r pre:List BA),(QB vs pre).Nodup∧(∀ x,x∈QB vs pre↔x∈pre∧x∈vs)→(QB vs (pre++r)).Nodup∧(∀ x,x∈QB vs (pre++r)↔x∈pre++r∧x∈vs):=by
  intro r
  induction r with
  | nil=>intro pre h;simpa using h
  | cons s r ih=>
   intro pre h
   have:=ih (pre++[s]) (by
    rw[Za6]
    obtain⟨h1,h2⟩:=h
    by_cases hs:s∈vs
    · by_cases ho:s∈QB vs pre
      · simp only[hs,ho,decide_true,Bool.not_true,Bool.and_false,Bool.false_eq_true,if_false]
        refine⟨h1,fun x=>?_⟩
        rw[h2]
        have:=(h2 s).1 ho
        grind
      · simp only[hs,ho,decide_true,decide_false,Bool.not_false,Bool.and_self,if_true]
        refine⟨?_,fun x=>?_⟩
        · rw[List.nodup_append]
          exact⟨h1,by simp,fun a ha b hb=>by simp at hb;subst hb;intro e;subst e;exact ho ha⟩
        · have:=h2 x
          grind
    · simp only[hs,decide_false,Bool.false_and,Bool.false_eq_true,if_false]
      refine⟨h1,fun x=>?_⟩
      have:=h2 x
      grind)
   simpa using this
 simpa using key ws [] ⟨by simp[QB],by simp[QB]⟩
theorem Zbt:∀ {xs ys:List BA},xs.Nodup→(∀ x∈xs,x∈ys)→xs.length≤ys.length
 | [],_,_,_=>by simp
 | x::xs,ys,h,hs=>by
  have h1:=List.nodup_cons.1 h
  have h2:=Zbt (xs:=xs) (ys:=ys.erase x) h1.2 fun z hz=>by
   have hne:z≠x:=fun e=>h1.1 (e▸hz)
   exact(List.mem_erase_of_ne hne).2 (hs z (by simp[hz]))
  have h3:=List.length_erase_of_mem (hs x yz)
  have h4:0<ys.length:=List.length_pos_of_mem (hs x yz)
  simp only[List.length_cons]
  omega
theorem Zna (vs ws:List BA):(QB vs ws).length≤vs.length:=Zbt (Zev vs ws).1 fun x hx=>((Zev vs ws).2 x).1 hx |>.2
def YU (hs:List Hy):List Hy:=hs.filter fun h=>!h.floating
def hysF (fs:List Fr):List Hy:=fs.flatMap fun f=>f.hyps++f.dummies
theorem ZaE {α β:Type} [Inhabited α] {f:α→β} {xs:List α} {k:Nat} (h:k<xs.length):(xs.take (k+1)).map f=(xs.take k).map f++[f (ge xs k)]:=by rw[Z1 h,List.map_append];rfl
theorem X9 {α:Type} [Inhabited α] {p:α→Bool} {xs:List α} {k:Nat} (h:k<xs.length):(xs.take (k+1)).any p=((xs.take k).any p||p (ge xs k)):=by
 rw[Z1 h,List.any_append];simp
theorem Xz {α:Type} [Inhabited α] {p:α→Bool} {xs:List α} {k:Nat} (h:k<xs.length):(xs.take (k+1)).all p=((xs.take k).all p&&p (ge xs k)):=by
 rw[Z1 h,List.all_append];simp
theorem Zai {α:Type} [Inhabited α] {p:α→Bool} {xs:List α} {k:Nat} (h:k<xs.length) (hp:p (ge xs k)=true):xs.any p=true:=List.any_eq_true.2 ⟨_,Zj h,hp⟩
theorem Ql {α:Type} [Inhabited α] {p:α→Bool} {xs:List α} {k:Nat} (h:(xs.take k).any p=false) (hk:xs.length≤k):xs.any p=false:=by rwa [Zz hk]at h
theorem Qm {α:Type} [Inhabited α] {p:α→Bool} {xs:List α} {k:Nat} (h:k<xs.length) (h0:(xs.take k).any p=false) (hp:p (ge xs k)=false):(xs.take (k+1)).any p=false:=by rw[X9 h,h0,hp];rfl
def frL (d:Db) (n:Nat) (s:BA):Bool:=(d.frames.take n).any fun f=>decide (f.label=s)
def hyL (d:Db) (n:Nat) (s:BA):Bool:=(d.frames.take n).any fun f=>(f.hyps++f.dummies).any fun h=>decide (h.label=s)
def oth (d:Db) (k:Nat):List Hy:=hysF (d.frames.take k)
theorem Zj0 (d:Db):oth d 0=[]:=rfl
theorem Zbs {d:Db} {k:Nat} (h:k<d.frames.length):oth d (k+1)=oth d k++((ge d.frames k).hyps++(ge d.frames k).dummies):=by
 simp[oth,hysF,Z1 h]
def Q1 (y:Hy) (dm:Bool):Bool:=((!ZdF y.label|| (dm&& !y.floating))|| (y.floating&& !decide (((y.text.length:Nat):Int)=2)))|| (!y.floating&& (decide (((y.text.length:Nat):Int)=0)||decide (200< ((y.text.length:Nat):Int))))
theorem Yu {y:Hy} {dm:Bool} (h:Q1 y dm=false) (hf:y.floating=true):y.text.length=2:=by
 simp[Q1,hf]at h;omega
theorem ZhT {y:Hy} {dm:Bool} (h:Q1 y dm=false):0<y.text.length:=by
 cases hf:y.floating with
 | true=>have:=Yu h hf;omega
 | false=>simp[Q1,hf]at h;exact List.length_pos_iff.2 (by grind)
def ZeD (d:Db) (y:Hy):Bool:=y.floating&& (!decide (ge y.text 0∈d.consts)|| !decide (ge y.text 1∈d.vars))
def Zlw (y x:Hy):Bool:=decide (x.label=y.label)
def hOf (y x:Hy):Bool:=ofB x (y.text.drop 1)
def ZhS (y x:Hy):Bool:=ofB x (y.text.drop 1)&& !decide (ge x.text 0=ge y.text 0)
def Zc3 (y x:Hy):Bool:=decide (x.label=y.label)&& !Zlv x y
theorem Zm9 {x:Hy} {vs:List BA} (h:ofB x vs=true):x.text.length=2:=by
 simp[ofB]at h;omega
def ZcO (d:Db) (k:Nat) (y:Hy) (bs:List Hy) (dm:Bool):Int:=
 if Q1 y dm then 2 else if frL d (k+1) y.label||ZcS d y.label then 6 else if bs.any (Zlw y)then 6
 else if ZeD d y then 12 else if !y.floating&& !decide (ZaS d y.text=0)then ZaS d y.text
 else if y.floating&& (oth d k++bs).any (ZhS y)then 11 else if y.floating&&bs.any (hOf y)then 6
 else if(oth d k).any (Zc3 y)then 6 else 0
def Xf (n:Nat) (g:Nat→Int):Int:=match(List.range n).find? (fun i=>!decide (g i=0))with | some i=>g i | none=>0
theorem XI {n:Nat} {g:Nat→Int} (h:∀ j,j<n→g j=0):Xf n g=0:=by
 have:(List.range n).find? (fun i=>!decide (g i=0))=none:=by
  rw[List.find?_eq_none]
  intro x hx
  simp[h x (by simpa using hx)]
 rw[Xf,this]
theorem Yo {n k:Nat} {g:Nat→Int} (hk:k<n) (h:∀ j,j<k→g j=0) (hg:g k≠0):Xf n g=g k:=by
 have:(List.range n).find? (fun i=>!decide (g i=0))=some k:=by
  rw[List.find?_eq_some_iff_getElem]
  refine⟨by simp[hg],k,by simpa using hk,by simp,fun j hj=>?_⟩
  simp[h j hj]
 rw[Xf,this]
theorem QH {n:Nat} {g:Nat→Int} (h:Xf n g=0):∀ j,j<n→g j=0:=by
 intro j hj
 rw[Xf]at h
 split at h
 · rename_i i hi
   have:=List.find?_some hi
   simp[h]at this
 · rename_i hi
   rw[List.find?_eq_none]at hi
   simpa using hi j (by simpa using hj)
def ltP (x y:Pr):Bool:=Op.bytesLess x.a.toList y.a.toList|| (decide (x.a=y.a)&&Op.bytesLess x.b.toList y.b.toList)
def Zco:List Pr→Pr→List Pr
 | [],p=>[p]
 | x::xs,p=>if ltP x p then x::Zco xs p else if Zfe x p then x::xs else p::x::xs
theorem ZiB:∀(l:List Pr) (p:Pr) (k:Nat),k≤l.length→(∀ j,j<k→ltP (ge l j) p=true)→¬ (k<l.length∧ltP (ge l k) p=true)→
 Zco l p=if k<l.length∧Zfe (ge l k) p=true then l else l.take k++p::l.drop k
 | [],p,k,h1,_,_=>by simp at h1;subst h1;simp[Zco]
 | x::xs,p,0,_,_,h3=>by
  have:ltP x p=false:=by simpa [ge]using h3
  simp only[Zco,this]
  by_cases e:Zfe x p=true<;>simp[e,ge]
 | x::xs,p,k+1,h1,h2,h3=>by
  have h0:ltP x p=true:=by simpa [ge]using h2 0 oz
  have ih:=ZiB xs p k (by simpa using h1) (fun j hj=>by simpa [ge]using h2 (j+1) oz) (fun⟨a,b⟩=>h3 ⟨by simpa using a,by simpa [ge]using b⟩)
  simp only[Zco,h0,if_true,ih]
  by_cases e:k<xs.length∧Zfe (ge xs k) p=true
  · have e':k+1< (x::xs).length∧Zfe (ge (x::xs) (k+1)) p=true:=⟨by simpa using e.1,by simpa [ge]using e.2⟩
    rw[if_pos e,if_pos e']
  · have e':¬ (k+1< (x::xs).length∧Zfe (ge (x::xs) (k+1)) p=true):=fun⟨a,b⟩=>e ⟨by simpa using a,by simpa [ge]using b⟩
    rw[if_neg e,if_neg e'];rfl
theorem ZjU (l:List Pr) (p:Pr):(Zco l p).length≤l.length+1:=by
 induction l with
 | nil=>simp[Zco]
 | cons x xs ih=>simp only[Zco];split<;>(try split)<;>simp<;>omega
def Zfo (w z:List Pr):List Pr:=(w++z).foldl Zco []
theorem ZeH {α β:Type} [Inhabited α] {f:β→α→β} {a:β} {xs:List α} {k:Nat} (h:k<xs.length):(xs.take (k+1)).foldl f a=f ((xs.take k).foldl f a) (ge xs k):=by
 rw[Z1 h,List.foldl_append];rfl
def Qp (d:Db) (f:Fr):List BA:=QB d.vars (f.text::(YU f.hyps).map Hy.text).flatten
def Zdh (hs:List Hy):List BA:=(hs.filter fun h=>h.floating).map fun h=>ge h.text 1
def hIn (m:List BA) (h:Hy):Bool:=!h.floating||ofB h m
def ZuN (d:Db) (p:Pr):Bool:=(!Op.bytesLess p.a.toList p.b.toList|| !decide (p.a∈d.vars))|| !decide (p.b∈d.vars)
def ZdM (d:Db) (f:Fr):Bool:=
 ((f.hyps.all (hIn (Qp d f))&& (Qp d f).all fun s=>decide (s∈Zdh f.hyps))&& !f.wide.any (ZuN d))&& (decide (f.wide=Zfo f.wide [])&&decide (f.apart=f.wide.filter (inV (Qp d f))))
def Zjl (d:Db) (k:Nat):List BA:=if k=0 then []else(YU (ge d.frames (k-1)).hyps).map Hy.label
def ZbK (d:Db) (k i:Nat):Int:=ZcO d k (ge ((ge d.frames k).hyps++(ge d.frames k).dummies) i) (((ge d.frames k).hyps++(ge d.frames k).dummies).take i) (decide ((((ge d.frames k).hyps.length:Nat):Int)≤((i:Nat):Int)))
def ZoQ (d:Db) (k:Nat):Int:=Xf ((ge d.frames k).hyps++(ge d.frames k).dummies).length (ZbK d k)
theorem Zbb {d:Db} {k:Nat} {y:Hy} {bs:List Hy} {dm:Bool} (h:ZcO d k y bs dm=0):Q1 y dm=false:=by
 cases hf:Q1 y dm with
 | false=>rfl
 | true=>simp[ZcO,hf]at h
theorem Zp9 {d:Db} {k:Nat} (h:ZoQ d k=0):∀ y∈(ge d.frames k).hyps++(ge d.frames k).dummies,y.floating=true→y.text.length=2:=fun y hy hf=>by
 obtain⟨j,hj,rfl⟩:=Y5 hy
 exact Yu (Zbb (QH h j hj)) hf
theorem Zqz {α:Type} [Inhabited α] {p:α→Bool} {xs:List α} {c i:Nat} (h1:c≤i) (h2:i<xs.length) (hp:p (ge xs i)=true):(xs.drop c).any p=true:=by
 rw[List.any_eq_true]
 refine⟨ge xs i,?_,hp⟩
 rw[List.mem_drop_iff_getElem]
 exact⟨i-c,oz,by simp[ge,List.getD_eq_getElem?_getD,Nat.add_sub_cancel' h1,List.getElem?_eq_getElem h2]⟩
theorem Zn9 {α:Type} [Inhabited α] {p:α→Bool} {xs:List α} {c:Nat} (h:∀ i,c≤i→i<xs.length→p (ge xs i)=false):(xs.drop c).any p=false:=by
 rw[List.any_eq_false]
 intro x hx
 rw[List.mem_drop_iff_getElem]at hx
 obtain⟨i,hi,rfl⟩:=hx
 have:=h (c+i) oz oz
 simp only[ge,List.getD_eq_getElem?_getD,List.getElem?_eq_getElem (show c+i<xs.length by omega),Option.getD_some]at this
 simpa [Nat.add_comm]using this
theorem Zi4:∀(xs ys:List BA),ZdW xs ys≤ys.length
 | [],_=>by simp[ZdW]
 | _::_,[]=>by simp[ZdW]
 | x::xs,y::ys=>by
  simp only[ZdW,List.length_cons]
  have:=Zi4 xs ys
  split<;>omega
def ordB (d:Db) (k:Nat) (f:Fr):Bool:=(((YU f.hyps).map Hy.label).drop (ZdW (Zjl d k) ((YU f.hyps).map Hy.label))).any (hyL d k)
theorem Zgo {p:Prop} [Decidable p] (h:(!decide p)=true):¬ p:=by simpa using h
theorem Zss {p:Prop} [Decidable p] (h:(!decide p)=false):p:=by simpa using h
def Zc4 (d:Db) (k:Nat) (f:Fr):Int:=
 if !ZdF f.label then 2 else if(frL d k f.label||hyL d k f.label)||ZcS d f.label then 6
 else if decide (40< ((f.hyps.length:Nat):Int))||decide (40< ((f.dummies.length:Nat):Int))then 4
 else if !decide (ZoQ d k=0)then ZoQ d k
 else if decide (((f.text.length:Nat):Int)=0)||decide (200< ((f.text.length:Nat):Int))then 2
 else if !decide (ZaS d f.text=0)then ZaS d f.text
 else if !ZdM d f then 70
 else if(decide (0< ((f.proof.length:Nat):Int))&& !f.thm)||decide (8000< ((f.proof.length:Nat):Int))then 2
 else if !f.proof.all YY then 2
 else if ordB d k f then 7 else 0
def frE (d:Db) (k:Nat):Int:=Zc4 d k (ge d.frames k)
theorem Zgw {d:Db} {k:Nat} (h:frE d k=0):(ge d.frames k).hyps.length≤40∧(ge d.frames k).dummies.length≤40:=by
 rw[frE,Zc4]at h
 split at h
 · simp at h
 split at h
 · simp at h
 split at h
 · simp at h
 rename_i h0
 simp at h0
 omega
def Zfp (d:Db) (i:Nat):Int:=if !Zga (ge d.consts i)then 2 else if decide (ge d.consts i∈d.consts.take i)then 6 else 0
def Zf8 (d:Db) (i:Nat):Int:=if !Zga (ge d.vars i)then 2 else if decide (ge d.vars i∈d.consts)||decide (ge d.vars i∈d.vars.take i)then 6 else 0
def ZaM (d:Db):Int:=if !decide (Xf d.consts.length (Zfp d)=0)then Xf d.consts.length (Zfp d)else Xf d.vars.length (Zf8 d)
def ZbN (d:Db):Int:=
 if(decide (400< ((d.frames.length:Nat):Int))||decide (8000< ((d.consts.length:Nat):Int)))||decide (8000< ((d.vars.length:Nat):Int))then 8
 else if !decide (ZaM d=0)then ZaM d else Xf d.frames.length (frE d)
def Zda (d:Db) (s:BA):Int:=match d.frames.findIdx? (fun f=>decide (f.label=s))with | some i=>(i:Int) | none=> -1
end Go.Proofs.YtaigaoflehfdcaaGreatDoor
