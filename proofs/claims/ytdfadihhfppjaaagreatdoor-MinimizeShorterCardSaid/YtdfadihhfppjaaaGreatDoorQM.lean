/-
  A DATABASE AS AN ARGUMENT: what its reading says of memory; what a law that keeps all leaves.
  WHAT A RIGHT DATABASE IS, IN PLAIN LEAN: labels, symbols, formulas, hypotheses, frames.
  WHAT A RIGHT DATABASE IS, IN PLAIN LEAN: the errors of hypotheses, of frames, of a database.
  WHAT USES WHAT, IN PLAIN LEAN.
-/
import Derived.Test.YtdfadihhfppjaaaGreatDoorQL
import Derived.Test.YtdfadihhfppjaaaGreatDoorTie
import Derived.Deep.SlicePairs
import Derived.Deep.DeepHandedRow
import Derived.Lib.LaidTab
import Derived.Carry
namespace Go.Proofs.YtdfadihhfppjaaaGreatDoor
open Go.Proofs.Tryz (prog)
open Go.ChangeShapes Go.WideShapes Go.ChangeAt Go.RowKit Go.Deep
def ZmF {H:Type} (t:TypeId) (d:DataW H):Prop:=∀ x∈d.weights prog t,x≤reachBytes
section
variable {H:Type} {enc:TypeId×Value→H} {W:World}
set_option maxRecDepth 100000 in
theorem Zxe:ZdE prog 10 25=some dbT:=by kernel_rfl
set_option maxRecDepth 100000 in
theorem Zwr {r:Reach} {b0:Nat} {v:Value} {d:DataW H} {ps:List MemPlace} (hval:Value.okWide prog W r b0 25 v) (h:DataW.Trod enc prog W 0 (fun _=>true) true 25 v d ps) (hw:ZmF 25 d):∃ x:Db,Rel All W (.agg (dbC x)) v∧x.Ok:=by
 simp only[Value.okWide,Tryz.underlying25]at hval
 obtain⟨cs,rfl,hsz,_⟩:=hval
 obtain⟨n,hn⟩:=h
 obtain⟨cds,h1,h2⟩:=ZbN 10 25 dbT Zxe n _ _ hn hw
 obtain⟨x,rfl,hok⟩:=Zw8 h1
 refine⟨x,?_,hok⟩
 simp only[Rel]
 exact⟨cs.toList,by simp,by simpa [Value.cells]using h2⟩
set_option maxRecDepth 100000 in
theorem Zwp {r:Reach} {b0:Nat} {v:Value} {d:DataW H} {ps:List MemPlace} (hval:Value.okWide prog W r b0 5 v) (h:DataW.Trod enc prog W 0 (fun _=>true) true 5 v d ps):∃ x:UInt8,Rel All W (.rd (.lit (.int .u8 (x.toNat:Int)))) v:=by
 obtain⟨n,rfl,_,_,hwf⟩:=open_int Tryz.underlying5 hval h
 have hb:0≤n∧n≤255:=by simpa [Lit.wf,IntKind.min,IntKind.max,IntKind.signed,IntKind.bits]using hwf
 refine⟨UInt8.ofNat n.toNat,?_⟩
 have e:(UInt8.ofNat n.toNat).toNat=n.toNat:=by rw[UInt8.toNat_ofNat'];exact Nat.mod_eq_of_lt oz
 rw[e,show((n.toNat:Nat):Int)=n by omega]
 exact Rel.of_lit _
theorem ZsE:laidOutB prog=true:=by kernel_rfl
theorem Zcs {W':World} {sp:Nat→Bool} (hsame:∀ p:MemPlace,p.block<W.heap.size→W.sameAt W' p):∀ {ts:List TypeId} {vs:List Value} {ds:List (DataW H)} {ps:List MemPlace},(∀ t∈ts,prog.readableRec t=true∧t<prog.types.size)→
 DataW.TrodAll enc prog W 0 (fun _=>true) true ts vs ds ps→(∀ p∈ps,p.block<W.heap.size)→(∀ p∈ps,sp p.block=true)→DataW.TrodAll enc prog W' 0 sp true ts vs ds ps
 | [],vs,ds,ps,_,h,_,_=>by
  obtain⟨rfl,rfl,rfl⟩:=trodAll_nil h
  exact trodAll_mk0
 | t::ts,vs,ds,ps,ht,h,hlt,hsp=>by
  obtain⟨v,vs',d,ds',p,q,rfl,rfl,rfl,h1,h2⟩:=trodAll_cons h
  have ht1:=ht t yz
  exact trodAll_cons_mk (WideElems.Trod_stays ZsE ht1.1 ht1.2 h1 (fun x hx=>hsame x (hlt x (by simp[hx]))) fun x hx=>hsp x (by simp[hx]))
   (Zcs hsame (fun t h=>ht t (by simp[h])) h2 (fun x hx=>hlt x (by simp[hx])) fun x hx=>hsp x (by simp[hx]))
set_option maxRecDepth 100000 in
theorem ZsD {f:Func} {s:ChangeSpec} {apart fresh handsOn again:Bool} {W':World} {args:Array Value} {ds gs:List (DataW H)} {before:List MemPlace}
 (hW:DataW.Whole enc prog f.params.toList s.vars apart W args.toList ds gs before) (hsv:s.vars=[]) (hr:f.resultTypes= #[4]) (hfn:s.fn H ds= { results:=[.lit (.bool true)],args:=ds })
 (hts:∀ t∈f.params.toList,prog.readableRec t=true∧t<prog.types.size) (hk:Keeps All W W'):s.post enc prog f apart fresh handsOn again W args (.bool true) W':=by
 have hb:Below W.heap.size W W':=hk.below nlr fun _ _=>trivial
 have hW0:=hW
 obtain⟨p,q,hA,hV,rfl,hz,hn⟩:=hW
 rw[hsv]at hV
 obtain⟨rfl,rfl⟩:=trodVars_none hV
 have hlt:∀ x∈p,x.block<W.heap.size:=fun x hx=>hW0.lt x (by simpa using hx)
 have hfn':s.fn H (ds++[])= { results:=[.lit (.bool true)],args:=ds }:=by rw[List.append_nil];exact hfn
 have hres:∀(b:Nat) (sp:Nat→Bool) (hd:Bool),DataW.TrodAll enc prog W' b sp hd f.resultTypes.toList ((Value.bool true).resultList f.resultTypes.size) (s.fn H (ds++[])).results []:=fun b sp hd=>by
  rw[hr,hfn']
  exact trodAll_cons_mk (shut_bool Tryz.underlying4 true) trodAll_mk0
 have hargs:∀ sp:Nat→Bool,(∀ x∈p,sp x.block=true)→DataW.TrodAll enc prog W' 0 sp true f.params.toList args.toList (s.fn H (ds++[])).args p:=fun sp hsp=>by
  rw[hfn']
  exact Zcs (fun x hx=>hb.same hx) hts hA hlt hsp
 have hvars:∀ sp:Nat→Bool,DataW.TrodVars enc prog W' sp s.vars (s.fn H (ds++[])).vars []:=fun sp=>by
  rw[hfn',hsv]
  rfl
 refine⟨ds,[],p++[],[],p,[],hW0,hres _ _ _,hargs _ (fun x hx=>by simpa using hlt x hx),hvars _,hb.frame _,fun _=>?_⟩
 refine⟨ok_one hr rfl (okWide_bool_mk Tryz.underlying4 _),_,_,([]++p)++[],⟨[]++p,[],trodAll_append (hargs _ (fun _ _=>rfl)) (hres _ _ _),hvars _,rfl,?_,?_⟩,?_⟩
 · intro b off hp
   have hp':MemPlace.cell b off∈p:=by simpa using hp
   have h1:=hz b off (by simpa using hp')
   rw[hb.frozen (p:=⟨b,off,none⟩) (hlt _ hp')]
   exact h1
 · intro ha
   simpa using hn ha
 · intro x hx _
   simpa using hx
end
theorem Zi8:prog.cellsOf 9=1:=by kernel_rfl
theorem ZnI:prog.cellsOf 4=1:=by kernel_rfl
theorem ZqK:prog.cellsOf 3=1:=by kernel_rfl
theorem Zgq:prog.cellsOf 321=4:=by kernel_rfl
section
variable {H:Type} {enc:TypeId×Value→H} {W:World} {base:Nat} {spare:Nat→Bool} {held:Bool}
set_option maxRecDepth 100000 in
theorem Xv {n:Nat} {cs:List Value} {x:DataW H×List MemPlace} (h:DataW.trod enc prog W base spare held n 321 cs=some x) {s:List UInt8} {b:Bool} {i j:Int}
 (hx:x.1= .agg [.lit (.string s),.lit (.bool b),.lit (.int .i64 i),.lit (.int .i64 j)]):cs=[.string ⟨s.toArray⟩,.bool b,.int .i64 i,.int .i64 j]:=by
 obtain⟨xs,m,rfl,rfl,hl,hxl,hf⟩:=DataW.trod_struct Tryz.underlying321 h
 rw[Zgq]at hl
 match cs,hl with
 | [c0,c1,c2,c3],_=>
 match xs,hxl with
 | [x0,x1,x2,x3],_=>
 simp only[List.map_cons,List.map_nil,DataW.agg.injEq,List.cons.injEq,and_true]at hx
 obtain⟨e0,e1,e2,e3⟩:=hx
 have f0:DataW.trod enc prog W base spare held m 9 (([c0,c1,c2,c3].drop 0).take (prog.cellsOf 9))=[x0,x1,x2,x3][0]?:=hf 0 _ rfl
 have f1:DataW.trod enc prog W base spare held m 4 (([c0,c1,c2,c3].drop 1).take (prog.cellsOf 4))=[x0,x1,x2,x3][1]?:=hf 1 _ rfl
 have f2:DataW.trod enc prog W base spare held m 3 (([c0,c1,c2,c3].drop 2).take (prog.cellsOf 3))=[x0,x1,x2,x3][2]?:=hf 2 _ rfl
 have f3:DataW.trod enc prog W base spare held m 3 (([c0,c1,c2,c3].drop 3).take (prog.cellsOf 3))=[x0,x1,x2,x3][3]?:=hf 3 _ rfl
 simp only[Zi8,ZnI,ZqK,List.drop_zero,List.drop_succ_cons,List.take_succ_cons,List.take_zero,List.getElem?_cons_zero,List.getElem?_cons_succ]at f0 f1 f2 f3
 obtain⟨s0,g0,rfl,_⟩:=DataW.trod_string Tryz.underlying9 f0
 obtain⟨s1,g1,rfl⟩:=DataW.trod_bool Tryz.underlying4 f1
 obtain⟨s2,g2,rfl,_⟩:=DataW.trod_int Tryz.underlying3 f2
 obtain⟨s3,g3,rfl,_⟩:=DataW.trod_int Tryz.underlying3 f3
 simp only[DataW.lit.injEq,Lit.string.injEq,Lit.bool.injEq,Lit.int.injEq,true_and,List.cons.injEq,and_true]at e0 e1 e2 e3 g0 g1 g2 g3
 subst e0 e1 e2 e3 g0 g1 g2 g3
 simp
end
theorem gForms:prog.globalNamed "apodixis/layout.forms" =some 1:=by kernel_rfl
theorem gFormsType:(prog.globals[1]?).map (·.type)=some 322:=by kernel_rfl
set_option maxRecDepth 100000 in
theorem Znu {W:World} {rest:List (String×DataW Unit)} (h:laidMet prog (("apodixis/layout.forms",Rows.laid_apodixis_layout_forms)::rest) W):Zgv W:=by
 obtain⟨ps,⟨g',t',cs,fuel,p,q,hg',ht',hvar,hd,_,_⟩,_⟩:=h
 obtain rfl:=Option.some.inj (gForms.symm.trans hg')
 obtain rfl:=Option.some.inj (gFormsType.symm.trans ht')
 have hcell:=World.var?_cell gForms hvar
 obtain⟨xs,m,rfl,hx,hl,hxl,hf⟩:=DataW.trod_array Tryz.underlying322 hd
 have hx1:=congrArg Prod.fst hx
 rw[Zgq]at hf
 match xs,hxl with
 | [x0,x1,x2,x3,x4,x5,x6,x7,x8,x9],_=>
 simp only[Rows.laid_apodixis_layout_forms,List.map_cons,List.map_nil,DataW.agg.injEq,List.cons.injEq,and_true]at hx1
 obtain⟨e0,e1,e2,e3,e4,e5,e6,e7,e8,e9⟩:=hx1
 have hall:∀ i,i<10→(cs.toList.drop (i*4)).take 4=(formsV.drop (i*4)).take 4:=by
  intro i hi
  have hfi:=hf i hi
  match i,hi with
  | 0,_=>exact Xv hfi e0.symm
  | 1,_=>exact Xv hfi e1.symm
  | 2,_=>exact Xv hfi e2.symm
  | 3,_=>exact Xv hfi e3.symm
  | 4,_=>exact Xv hfi e4.symm
  | 5,_=>exact Xv hfi e5.symm
  | 6,_=>exact Xv hfi e6.symm
  | 7,_=>exact Xv hfi e7.symm
  | 8,_=>exact Xv hfi e8.symm
  | 9,_=>exact Xv hfi e9.symm
 have hat:∀(l:List Value) (p:Nat),l[p]?=((l.drop (p/4*4)).take 4)[p%4]?:=fun l p=>by
  rw[List.getElem?_take,if_pos (Nat.mod_lt _ dz),List.getElem?_drop,Nat.div_add_mod']
 intro p u hu
 have hp:p<40:=by
  rcases Nat.lt_or_ge p 40 with h | h
  · exact h
  · rw[List.getElem?_eq_none (show formsV.length≤p from h)]at hu;cases hu
 rw[hcell,←Array.getElem?_toList,hat,hall (p/4) oz,←hat]
 exact hu
theorem Zp8:Stab Zgv:=fun _ _ hk h i u hu=>hk.cell trivial (h i u hu)
theorem Zp9:Xm Zgv:=fun _ h=>h
end Go.Proofs.YtdfadihhfppjaaaGreatDoor
namespace Go.Proofs.YtdfadihhfppjaaaGreatDoor
abbrev bt (s:BA) (k:Nat):UInt8:=ge s.data.toList k
theorem Zby (s:BA):s.data.toList.length=s.size:=by simp
def Zf2 (c:UInt8):Bool:=(decide ((33:Int)≤(c.toNat:Int)))&& (decide ((c.toNat:Int)≤(126:Int)))
def Zx5 (c:UInt8):Bool:=((((!(((decide ((97:Int)≤(c.toNat:Int)))&& (decide ((c.toNat:Int)≤(122:Int))))|| ((decide ((65:Int)≤(c.toNat:Int)))&& (decide ((c.toNat:Int)≤(90:Int))))))&& ((decide ((c.toNat:Int)< (48:Int)))|| (decide ((57:Int)< (c.toNat:Int)))))&& (!decide ((c.toNat:Int)=(45:Int))))&& (!decide ((c.toNat:Int)=(95:Int))))&& (!decide ((c.toNat:Int)=(46:Int)))
def Zvn (s:BA):Bool:=s.data.toList.all Zf2&& !decide (s=⟨#[]⟩)
def ZfP (s:BA):Bool:=s.data.toList.all (fun c=>!decide ((c.toNat:Int)=36))&& (Zvn s&&decide ((s.size:Int)≤60))
def ZiI (s:BA):Bool:=s.data.toList.all (fun c=>!Zx5 c)&& (!decide (s=⟨#[]⟩)&&decide ((s.size:Int)≤60))
theorem all_ge {α:Type} [Inhabited α] {p:α→Bool} {xs:List α} (h:∀ j,j<xs.length→p (ge xs j)=true):xs.all p=true:=by
 rw[List.all_eq_true]
 intro x hx
 obtain⟨k,hk,rfl⟩:=Xc hx
 exact h k hk
theorem Zf6 {α:Type} [Inhabited α] {p:α→Bool} {xs:List α} {k:Nat} (hk:k<xs.length) (h:p (ge xs k)=false):xs.all p=false:=by
 rw[List.all_eq_false]
 exact⟨ge xs k,Zp hk,by simp[h]⟩
theorem Zq9 {p:UInt8→Bool} {s:BA} (h:∀ j,j<s.size→p (bt s j)=true):s.data.toList.all p=true:=all_ge fun j hj=>h j (by rwa [Zby]at hj)
theorem Zdf {p:UInt8→Bool} {s:BA} {k:Nat} (hk:k<s.size) (h:p (bt s k)=false):s.data.toList.all p=false:=Zf6 (by rwa [Zby]) h
theorem Z2 {p:Nat→Prop} {k:Nat} (h:∀ j,j<k→p j) (hk:p k):∀ j,j<k+1→p j:=fun j hj=>by
 by_cases e:j=k
 · subst e;exact hk
 · exact h j oz
def ZfN (d:Db) (s:BA):Bool:=decide (s∈d.consts)||decide (s∈d.vars)
def badP (s:BA) (k:Nat):Bool:=(!decide (((ge s.data.toList k).toNat:Int)=(63:Int)))&& (!ZiI (s.extract k (k+1)))
def Qe (s:BA):Bool:=(decide (s=⟨#[40]⟩)||decide (s=⟨#[41]⟩))|| ((List.range s.size).all (fun k=>!badP s k)&& !decide (s=⟨#[]⟩))
def ofB (h:Hy) (vs:List BA):Bool:=(h.floating&&decide ((h.text.length:Int)=(2:Int)))&&decide (ge h.text 1∈vs)
def Znv (d:Db) (l:List BA):Bool:=decide (ge l 0∈d.consts)&& (List.range l.length).all (fun j=>decide (j=0)||ZfN d (ge l j))
def ZbB (d:Db) (l:List BA):Int:=if Znv d l then 0 else 12
theorem ZwZ {d:Db} {l:List BA} (h:¬ ge l 0∈d.consts):ZbB d l=12:=by simp[ZbB,Znv,h]
theorem Zs0 {d:Db} {l:List BA} {j:Nat} (h0:0<j) (hj:j<l.length) (h:ZfN d (ge l j)=false):ZbB d l=12:=by
 have:(List.range l.length).all (fun j=>decide (j=0)||ZfN d (ge l j))=false:=by
  rw[List.all_eq_false]
  exact⟨j,by simpa using hj,by simp[h,Nat.ne_of_gt h0]⟩
 simp[ZbB,Znv,this]
theorem ZsZ {d:Db} {l:List BA} (h0:ge l 0∈d.consts) (h:∀ j,0<j→j<l.length→ZfN d (ge l j)=true):ZbB d l=0:=by
 have:(List.range l.length).all (fun j=>decide (j=0)||ZfN d (ge l j))=true:=by
  rw[List.all_eq_true]
  intro k hk
  rcases Nat.eq_zero_or_pos k with h | h'
  · simp[h]
  · simp[h k h' (by simpa using hk)]
 simp[ZbB,Znv,h0,this]
def Zhh:List BA→List BA→Nat
 | x::xs,y::ys=>if x=y then Zhh xs ys+1 else 0
 | _,_=>0
theorem Zqx:∀(xs ys:List BA) (n:Nat),n≤xs.length→n≤ys.length→(∀ j,j<n→ge xs j=ge ys j)→¬ (n<xs.length∧n<ys.length∧ge xs n=ge ys n)→n=Zhh xs ys
 | [],ys,n,h1,_,_,_=>by simp at h1;simp[Zhh,h1]
 | x::xs,[],n,_,h2,_,_=>by simp at h2;simp[Zhh,h2]
 | x::xs,y::ys,n,h1,h2,h3,h4=>by
  simp only[Zhh]
  by_cases e:x=y
  · rw[if_pos e]
    obtain⟨m,rfl⟩:∃ m,n=m+1:=by
     cases n with
     | zero=>exact absurd ⟨by simp,by simp,by simpa [ge]using e⟩ h4
     | succ m=>exact⟨m,rfl⟩
    rw[←Zqx xs ys m (by simpa using h1) (by simpa using h2) (fun j hj=>by simpa [ge]using h3 (j+1) oz) (fun⟨a,b,c⟩=>h4 ⟨by simpa using a,by simpa using b,by simpa [ge]using c⟩)]
  · rw[if_neg e]
    cases n with
    | zero=>rfl
    | succ m=>exact absurd (by simpa [ge]using h3 0 oz) e
def inV (vs:List BA) (p:Pr):Bool:=decide (p.a∈vs)&&decide (p.b∈vs)
theorem Xs {α:Type} [Inhabited α] {p:α→Bool} {xs:List α} {k:Nat} (h:k<xs.length):(xs.take (k+1)).filter p=(xs.take k).filter p++(if p (ge xs k)then [ge xs k]else []):=by
 rw[ZZ h,List.filter_append]
 by_cases hp:p (ge xs k)=true<;>simp[hp]
theorem ZX {α:Type} {xs:List α} {k:Nat} (h:xs.length≤k):xs.take k=xs:=List.take_of_length_le h
def Zci (vs:List BA) (ws:List BA):List BA:=ws.foldl (fun out s=>if decide (s∈vs)&& !decide (s∈out)then out++[s]else out) []
theorem ZeL (vs ws:List BA) (s:BA):Zci vs (ws++[s])=if decide (s∈vs)&& !decide (s∈Zci vs ws)then Zci vs ws++[s]else Zci vs ws:=by simp[Zci]
theorem Zpt (vs ws:List BA):(Zci vs ws).Nodup∧(∀ x,x∈Zci vs ws↔x∈ws∧x∈vs):=by
 have key:∀(r pre:List BA),(Zci vs pre).Nodup∧(∀ x,x∈Zci vs pre↔x∈pre∧x∈vs)→(Zci vs (pre++r)).Nodup∧(∀ x,x∈Zci vs (pre++r)↔x∈pre++r∧x∈vs):=by
  intro r
  induction r with
  | nil=>intro pre h;simpa using h
  | cons s r ih=>
   intro pre h
   have:=ih (pre++[s]) (by
    rw[ZeL]
    obtain⟨h1,h2⟩:=h
    by_cases hs:s∈vs
    · by_cases ho:s∈Zci vs pre
      · simp only[hs,ho,decide_true,Bool.not_true,Bool.and_false,Bool.false_eq_true,if_false]
        refine⟨h1,fun x=>?_⟩
        rw[h2]
        have:=(h2 s).1 ho
        grind
      · simp only[hs,ho,decide_true,decide_false,Bool.not_false,Bool.and_self,if_true]
        refine⟨?_,fun x=>?_⟩
        · rw[List.nodup_append]
          exact⟨h1,by simp,fun a ha b hb=>by simp at hb;subst hb;intro e;subst e;exact ho ha⟩
        · have:=h2 x
          grind
    · simp only[hs,decide_false,Bool.false_and,Bool.false_eq_true,if_false]
      refine⟨h1,fun x=>?_⟩
      have:=h2 x
      grind)
   simpa using this
 simpa using key ws [] ⟨by simp[Zci],by simp[Zci]⟩
theorem Zao:∀ {xs ys:List BA},xs.Nodup→(∀ x∈xs,x∈ys)→xs.length≤ys.length
 | [],_,_,_=>by simp
 | x::xs,ys,h,hs=>by
  have h1:=List.nodup_cons.1 h
  have h2:=Zao (xs:=xs) (ys:=ys.erase x) h1.2 fun z hz=>by
   have hne:z≠x:=fun e=>h1.1 (e▸hz)
   exact(List.mem_erase_of_ne hne).2 (hs z (by simp[hz]))
  have h3:=List.length_erase_of_mem (hs x yz)
  have h4:0<ys.length:=List.length_pos_of_mem (hs x yz)
  simp only[List.length_cons]
  omega
def QQ (hs:List Hy):List Hy:=hs.filter fun h=>!h.floating
def hysF (fs:List Fr):List Hy:=fs.flatMap fun f=>f.hyps++f.dummies
theorem ZcK {α β:Type} [Inhabited α] {f:α→β} {xs:List α} {k:Nat} (h:k<xs.length):(xs.take (k+1)).map f=(xs.take k).map f++[f (ge xs k)]:=by rw[ZZ h,List.map_append];rfl
theorem Zhz {α:Type} [Inhabited α] {p:α→Bool} {xs:List α} {k:Nat} (h:k<xs.length):(xs.take (k+1)).any p=((xs.take k).any p||p (ge xs k)):=by
 rw[ZZ h,List.any_append];simp
theorem Zc0 {α:Type} [Inhabited α] {p:α→Bool} {xs:List α} {k:Nat} (h:k<xs.length):(xs.take (k+1)).all p=((xs.take k).all p&&p (ge xs k)):=by
 rw[ZZ h,List.all_append];simp
def frL (d:Db) (n:Nat) (s:BA):Bool:=(d.frames.take n).any fun f=>decide (f.label=s)
def hyL (d:Db) (n:Nat) (s:BA):Bool:=(d.frames.take n).any fun f=>(f.hyps++f.dummies).any fun h=>decide (h.label=s)
def oth (d:Db) (k:Nat):List Hy:=hysF (d.frames.take k)
theorem ZlD (d:Db):oth d 0=[]:=rfl
theorem ZdT {d:Db} {k:Nat} (h:k<d.frames.length):oth d (k+1)=oth d k++((ge d.frames k).hyps++(ge d.frames k).dummies):=by
 simp[oth,hysF,ZZ h]
def ZaS (y:Hy) (dm:Bool):Bool:=((!ZiI y.label|| (dm&& !y.floating))|| (y.floating&& !decide (((y.text.length:Nat):Int)=2)))|| (!y.floating&& (decide (((y.text.length:Nat):Int)=0)||decide (200< ((y.text.length:Nat):Int))))
theorem YN {y:Hy} {dm:Bool} (h:ZaS y dm=false) (hf:y.floating=true):y.text.length=2:=by
 simp[ZaS,hf]at h;omega
theorem Zp3 {y:Hy} {dm:Bool} (h:ZaS y dm=false):0<y.text.length:=by
 cases hf:y.floating with
 | true=>have:=YN h hf;omega
 | false=>simp[ZaS,hf]at h;exact List.length_pos_iff.2 (by grind)
def Zgb (d:Db) (y:Hy):Bool:=y.floating&& (!decide (ge y.text 0∈d.consts)|| !decide (ge y.text 1∈d.vars))
def Zu4 (y x:Hy):Bool:=decide (x.label=y.label)
def hOf (y x:Hy):Bool:=ofB x (y.text.drop 1)
def ZwO (y x:Hy):Bool:=ofB x (y.text.drop 1)&& !decide (ge x.text 0=ge y.text 0)
def ZwP (y x:Hy):Bool:=decide (x.label=y.label)&& !Zu3 x y
def ZpX (d:Db) (k:Nat) (y:Hy) (bs:List Hy) (dm:Bool):Int:=
 if ZaS y dm then 2 else if frL d (k+1) y.label||ZfN d y.label then 6 else if bs.any (Zu4 y)then 6
 else if Zgb d y then 12 else if !y.floating&& !decide (ZbB d y.text=0)then ZbB d y.text
 else if y.floating&& (oth d k++bs).any (ZwO y)then 11 else if y.floating&&bs.any (hOf y)then 6
 else if(oth d k).any (ZwP y)then 6 else 0
def Xy (n:Nat) (g:Nat→Int):Int:=match(List.range n).find? (fun i=>!decide (g i=0))with | some i=>g i | none=>0
theorem ZaW {n:Nat} {g:Nat→Int} (h:∀ j,j<n→g j=0):Xy n g=0:=by
 have:(List.range n).find? (fun i=>!decide (g i=0))=none:=by
  rw[List.find?_eq_none]
  intro x hx
  simp[h x (by simpa using hx)]
 rw[Xy,this]
theorem QV {n k:Nat} {g:Nat→Int} (hk:k<n) (h:∀ j,j<k→g j=0) (hg:g k≠0):Xy n g=g k:=by
 have:(List.range n).find? (fun i=>!decide (g i=0))=some k:=by
  rw[List.find?_eq_some_iff_getElem]
  refine⟨by simp[hg],k,by simpa using hk,by simp,fun j hj=>?_⟩
  simp[h j hj]
 rw[Xy,this]
theorem Xw {n:Nat} {g:Nat→Int} (h:Xy n g=0):∀ j,j<n→g j=0:=by
 intro j hj
 rw[Xy]at h
 split at h
 · rename_i i hi
   have:=List.find?_some hi
   simp[h]at this
 · rename_i hi
   rw[List.find?_eq_none]at hi
   simpa using hi j (by simpa using hj)
def ltP (x y:Pr):Bool:=Op.bytesLess x.a.toList y.a.toList|| (decide (x.a=y.a)&&Op.bytesLess x.b.toList y.b.toList)
def Znd:List Pr→Pr→List Pr
 | [],p=>[p]
 | x::xs,p=>if ltP x p then x::Znd xs p else if Zrh x p then x::xs else p::x::xs
def ZsL (w z:List Pr):List Pr:=(w++z).foldl Znd []
theorem Ze1 {α β:Type} [Inhabited α] {f:β→α→β} {a:β} {xs:List α} {k:Nat} (h:k<xs.length):(xs.take (k+1)).foldl f a=f ((xs.take k).foldl f a) (ge xs k):=by
 rw[ZZ h,List.foldl_append];rfl
def Zdh (d:Db) (f:Fr):List BA:=Zci d.vars (f.text::(QQ f.hyps).map Hy.text).flatten
def ZhR (hs:List Hy):List BA:=(hs.filter fun h=>h.floating).map fun h=>ge h.text 1
def hIn (m:List BA) (h:Hy):Bool:=!h.floating||ofB h m
def badW (d:Db) (p:Pr):Bool:=(!Op.bytesLess p.a.toList p.b.toList|| !decide (p.a∈d.vars))|| !decide (p.b∈d.vars)
def Zx1 (d:Db) (f:Fr):Bool:=
 ((f.hyps.all (hIn (Zdh d f))&& (Zdh d f).all fun s=>decide (s∈ZhR f.hyps))&& !f.wide.any (badW d))&& (decide (f.wide=ZsL f.wide [])&&decide (f.apart=f.wide.filter (inV (Zdh d f))))
def befL (d:Db) (k:Nat):List BA:=if k=0 then []else(QQ (ge d.frames (k-1)).hyps).map Hy.label
def ZuZ (d:Db) (k i:Nat):Int:=ZpX d k (ge ((ge d.frames k).hyps++(ge d.frames k).dummies) i) (((ge d.frames k).hyps++(ge d.frames k).dummies).take i) (decide ((((ge d.frames k).hyps.length:Nat):Int)≤((i:Nat):Int)))
def Zu0 (d:Db) (k:Nat):Int:=Xy ((ge d.frames k).hyps++(ge d.frames k).dummies).length (ZuZ d k)
theorem Zbz {d:Db} {k:Nat} {y:Hy} {bs:List Hy} {dm:Bool} (h:ZpX d k y bs dm=0):ZaS y dm=false:=by
 cases hf:ZaS y dm with
 | false=>rfl
 | true=>simp[ZpX,hf]at h
theorem Zqw:∀(xs ys:List BA),Zhh xs ys≤ys.length
 | [],_=>by simp[Zhh]
 | _::_,[]=>by simp[Zhh]
 | x::xs,y::ys=>by
  simp only[Zhh,List.length_cons]
  have:=Zqw xs ys
  split<;>omega
def ordB (d:Db) (k:Nat) (f:Fr):Bool:=(((QQ f.hyps).map Hy.label).drop (Zhh (befL d k) ((QQ f.hyps).map Hy.label))).any (hyL d k)
theorem Zwu {p:Prop} [Decidable p] (h:(!decide p)=true):¬ p:=by simpa using h
theorem Zwv {p:Prop} [Decidable p] (h:(!decide p)=false):p:=by simpa using h
def ZwX (d:Db) (k:Nat) (f:Fr):Int:=
 if !ZiI f.label then 2 else if(frL d k f.label||hyL d k f.label)||ZfN d f.label then 6
 else if decide (40< ((f.hyps.length:Nat):Int))||decide (40< ((f.dummies.length:Nat):Int))then 4
 else if !decide (Zu0 d k=0)then Zu0 d k
 else if decide (((f.text.length:Nat):Int)=0)||decide (200< ((f.text.length:Nat):Int))then 2
 else if !decide (ZbB d f.text=0)then ZbB d f.text
 else if !Zx1 d f then 70
 else if(decide (0< ((f.proof.length:Nat):Int))&& !f.thm)||decide (8000< ((f.proof.length:Nat):Int))then 2
 else if !f.proof.all Qe then 2
 else if ordB d k f then 7 else 0
def frE (d:Db) (k:Nat):Int:=ZwX d k (ge d.frames k)
theorem ZlY {d:Db} {k:Nat} (h:frE d k=0):(ge d.frames k).hyps.length≤40∧(ge d.frames k).dummies.length≤40:=by
 rw[frE,ZwX]at h
 split at h
 · simp at h
 split at h
 · simp at h
 split at h
 · simp at h
 rename_i h0
 simp at h0
 omega
def ZhI (d:Db) (i:Nat):Int:=if !ZfP (ge d.consts i)then 2 else if decide (ge d.consts i∈d.consts.take i)then 6 else 0
def ZkU (d:Db) (i:Nat):Int:=if !ZfP (ge d.vars i)then 2 else if decide (ge d.vars i∈d.consts)||decide (ge d.vars i∈d.vars.take i)then 6 else 0
def Zdu (d:Db):Int:=if !decide (Xy d.consts.length (ZhI d)=0)then Xy d.consts.length (ZhI d)else Xy d.vars.length (ZkU d)
def ZcU (d:Db):Int:=
 if(decide (400< ((d.frames.length:Nat):Int))||decide (8000< ((d.consts.length:Nat):Int)))||decide (8000< ((d.vars.length:Nat):Int))then 8
 else if !decide (Zdu d=0)then Zdu d else Xy d.frames.length (frE d)
def Yk (d:Db) (s:BA):Int:=match d.frames.findIdx? (fun f=>decide (f.label=s))with | some i=>(i:Int) | none=> -1
theorem Zql {d:Db} {s:BA} {k:Nat} (hk:k<d.frames.length) (h:(ge d.frames k).label=s) (h0:∀ j,j<k→¬ (ge d.frames j).label=s):Yk d s=(k:Int):=by
 have:d.frames.findIdx? (fun f=>decide (f.label=s))=some k:=by
  rw[List.findIdx?_eq_some_iff_getElem]
  refine⟨hk,?_,fun j hj=>?_⟩
  · simpa [ge,List.getD_eq_getElem?_getD,List.getElem?_eq_getElem hk]using h
  · have:=h0 j hj
    simpa [ge,List.getD_eq_getElem?_getD,List.getElem?_eq_getElem (show j<d.frames.length by omega)]using this
 rw[Yk,this]
end Go.Proofs.YtdfadihhfppjaaaGreatDoor
