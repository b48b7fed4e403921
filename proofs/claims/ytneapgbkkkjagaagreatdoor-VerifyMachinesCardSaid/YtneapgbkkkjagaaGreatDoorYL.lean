/-
  A DATABASE AS AN ARGUMENT: what its reading says of memory; what a law that keeps all leaves.
-/
import Derived.Test.YtneapgbkkkjagaaGreatDoorYK
import Derived.Test.YtneapgbkkkjagaaGreatDoorTie
import Derived.Deep.SlicePairs
import Derived.Deep.DeepHandedRow
import Derived.Lib.LaidTab
import Derived.Carry
namespace Go.Proofs.YtneapgbkkkjagaaGreatDoor
open Go.Proofs.Tryz (prog)
open Go.ChangeShapes Go.WideShapes Go.ChangeAt Go.RowKit Go.Deep
def ZlC {H:Type} (t:TypeId) (d:DataW H):Prop:=∀ x∈d.weights prog t,x≤reachBytes
section
variable {H:Type} {enc:TypeId×Value→H} {W:World}
set_option maxRecDepth 100000 in
theorem Zv7:Zd3 prog 10 25=some dbT:=by kernel_rfl
set_option maxRecDepth 100000 in
theorem Zpv:Zd3 prog 10 22=some [ZgI]:=by kernel_rfl
set_option maxRecDepth 100000 in
theorem Zvy {r:Reach} {b0:Nat} {v:Value} {d:DataW H} {ps:List MemPlace} (hval:Value.okWide prog W r b0 25 v) (h:DataW.Trod enc prog W 0 (fun _=>true) true 25 v d ps) (hw:ZlC 25 d):∃ x:Db,Rel All W (.agg (dbC x)) v∧x.Ok:=by
 simp only[Value.okWide,Tryz.underlying25]at hval
 obtain⟨cs,rfl,hsz,_⟩:=hval
 obtain⟨n,hn⟩:=h
 obtain⟨cds,h1,h2⟩:=Zb1 10 25 dbT Zv7 n _ _ hn hw
 obtain⟨x,rfl,hok⟩:=Zv2 h1
 refine⟨x,?_,hok⟩
 simp only[Rel]
 exact⟨cs.toList,by simp,by simpa [Value.cells]using h2⟩
set_option maxRecDepth 100000 in
theorem Zox {r:Reach} {b0:Nat} {v:Value} {d:DataW H} {ps:List MemPlace} (hval:Value.okWide prog W r b0 22 v) (h:DataW.Trod enc prog W 0 (fun _=>true) true 22 v d ps) (hw:ZlC 22 d):∃ xs:List BA,Rel All W (.rd (Zf xs)) v∧ZcL xs.length 16:=by
 obtain⟨n,hn⟩:=h
 obtain⟨cds,h1,h2⟩:=Zb1 10 22 [ZgI] Zpv n _ _ hn hw
 obtain⟨c,rfl,h3⟩:=FitsL.one h1
 obtain⟨xs,rfl,hs⟩:=Za6 h3
 refine⟨xs,?_,hs⟩
 cases v with
 | agg cs=>simp[Value.okWide,Cell.okWide,Cell.ok,Tryz.underlying22]at hval
 | tuple cs=>simp[Value.okWide,Cell.okWide,Cell.ok,Tryz.underlying22]at hval
 | _=>simp only[Rel];exact h2.1
set_option maxRecDepth 100000 in
theorem Zvx {r:Reach} {b0:Nat} {v:Value} {d:DataW H} {ps:List MemPlace} (hval:Value.okWide prog W r b0 5 v) (h:DataW.Trod enc prog W 0 (fun _=>true) true 5 v d ps):∃ x:UInt8,Rel All W (.rd (.lit (.int .u8 (x.toNat:Int)))) v:=by
 obtain⟨n,rfl,_,_,hwf⟩:=open_int Tryz.underlying5 hval h
 have hb:0≤n∧n≤255:=by simpa [Lit.wf,IntKind.min,IntKind.max,IntKind.signed,IntKind.bits]using hwf
 refine⟨UInt8.ofNat n.toNat,?_⟩
 have e:(UInt8.ofNat n.toNat).toNat=n.toNat:=by rw[UInt8.toNat_ofNat'];exact Nat.mod_eq_of_lt oz
 rw[e,show((n.toNat:Nat):Int)=n by omega]
 exact Rel.of_lit _
theorem ZrW:laidOutB prog=true:=by kernel_rfl
theorem ZcT {W':World} {sp:Nat→Bool} (hsame:∀ p:MemPlace,p.block<W.heap.size→W.sameAt W' p):∀ {ts:List TypeId} {vs:List Value} {ds:List (DataW H)} {ps:List MemPlace},(∀ t∈ts,prog.readableRec t=true∧t<prog.types.size)→
 DataW.TrodAll enc prog W 0 (fun _=>true) true ts vs ds ps→(∀ p∈ps,p.block<W.heap.size)→(∀ p∈ps,sp p.block=true)→DataW.TrodAll enc prog W' 0 sp true ts vs ds ps
 | [],vs,ds,ps,_,h,_,_=>by
  obtain⟨rfl,rfl,rfl⟩:=trodAll_nil h
  exact trodAll_mk0
 | t::ts,vs,ds,ps,ht,h,hlt,hsp=>by
  obtain⟨v,vs',d,ds',p,q,rfl,rfl,rfl,h1,h2⟩:=trodAll_cons h
  have ht1:=ht t yz
  exact trodAll_cons_mk (WideElems.Trod_stays ZrW ht1.1 ht1.2 h1 (fun x hx=>hsame x (hlt x (by simp[hx]))) fun x hx=>hsp x (by simp[hx]))
   (ZcT hsame (fun t h=>ht t (by simp[h])) h2 (fun x hx=>hlt x (by simp[hx])) fun x hx=>hsp x (by simp[hx]))
set_option maxRecDepth 100000 in
theorem ZrV {f:Func} {s:ChangeSpec} {apart fresh handsOn again:Bool} {W':World} {args:Array Value} {ds gs:List (DataW H)} {before:List MemPlace}
 (hW:DataW.Whole enc prog f.params.toList s.vars apart W args.toList ds gs before) (hsv:s.vars=[]) (hr:f.resultTypes= #[4]) (hfn:s.fn H ds= { results:=[.lit (.bool true)],args:=ds })
 (hts:∀ t∈f.params.toList,prog.readableRec t=true∧t<prog.types.size) (hk:Keeps All W W'):s.post enc prog f apart fresh handsOn again W args (.bool true) W':=by
 have hb:Below W.heap.size W W':=hk.below nlr fun _ _=>trivial
 have hW0:=hW
 obtain⟨p,q,hA,hV,rfl,hz,hn⟩:=hW
 rw[hsv]at hV
 obtain⟨rfl,rfl⟩:=trodVars_none hV
 have hlt:∀ x∈p,x.block<W.heap.size:=fun x hx=>hW0.lt x (by simpa using hx)
 have hfn':s.fn H (ds++[])= { results:=[.lit (.bool true)],args:=ds }:=by rw[List.append_nil];exact hfn
 have hres:∀(b:Nat) (sp:Nat→Bool) (hd:Bool),DataW.TrodAll enc prog W' b sp hd f.resultTypes.toList ((Value.bool true).resultList f.resultTypes.size) (s.fn H (ds++[])).results []:=fun b sp hd=>by
  rw[hr,hfn']
  exact trodAll_cons_mk (shut_bool Tryz.underlying4 true) trodAll_mk0
 have hargs:∀ sp:Nat→Bool,(∀ x∈p,sp x.block=true)→DataW.TrodAll enc prog W' 0 sp true f.params.toList args.toList (s.fn H (ds++[])).args p:=fun sp hsp=>by
  rw[hfn']
  exact ZcT (fun x hx=>hb.same hx) hts hA hlt hsp
 have hvars:∀ sp:Nat→Bool,DataW.TrodVars enc prog W' sp s.vars (s.fn H (ds++[])).vars []:=fun sp=>by
  rw[hfn',hsv]
  rfl
 refine⟨ds,[],p++[],[],p,[],hW0,hres _ _ _,hargs _ (fun x hx=>by simpa using hlt x hx),hvars _,hb.frame _,fun _=>?_⟩
 refine⟨ok_one hr rfl (okWide_bool_mk Tryz.underlying4 _),_,_,([]++p)++[],⟨[]++p,[],trodAll_append (hargs _ (fun _ _=>rfl)) (hres _ _ _),hvars _,rfl,?_,?_⟩,?_⟩
 · intro b off hp
   have hp':MemPlace.cell b off∈p:=by simpa using hp
   have h1:=hz b off (by simpa using hp')
   rw[hb.frozen (p:=⟨b,off,none⟩) (hlt _ hp')]
   exact h1
 · intro ha
   simpa using hn ha
 · intro x hx _
   simpa using hx
end
theorem ZiL:prog.cellsOf 9=1:=by kernel_rfl
theorem ZmJ:prog.cellsOf 4=1:=by kernel_rfl
theorem ZpJ:prog.cellsOf 3=1:=by kernel_rfl
theorem Zgl:prog.cellsOf 228=4:=by kernel_rfl
section
variable {H:Type} {enc:TypeId×Value→H} {W:World} {base:Nat} {spare:Nat→Bool} {held:Bool}
set_option maxRecDepth 100000 in
theorem XC {n:Nat} {cs:List Value} {x:DataW H×List MemPlace} (h:DataW.trod enc prog W base spare held n 228 cs=some x) {s:List UInt8} {b:Bool} {i j:Int}
 (hx:x.1= .agg [.lit (.string s),.lit (.bool b),.lit (.int .i64 i),.lit (.int .i64 j)]):cs=[.string ⟨s.toArray⟩,.bool b,.int .i64 i,.int .i64 j]:=by
 obtain⟨xs,m,rfl,rfl,hl,hxl,hf⟩:=DataW.trod_struct Tryz.underlying228 h
 rw[Zgl]at hl
 match cs,hl with
 | [c0,c1,c2,c3],_=>
 match xs,hxl with
 | [x0,x1,x2,x3],_=>
 simp only[List.map_cons,List.map_nil,DataW.agg.injEq,List.cons.injEq,and_true]at hx
 obtain⟨e0,e1,e2,e3⟩:=hx
 have f0:DataW.trod enc prog W base spare held m 9 (([c0,c1,c2,c3].drop 0).take (prog.cellsOf 9))=[x0,x1,x2,x3][0]?:=hf 0 _ rfl
 have f1:DataW.trod enc prog W base spare held m 4 (([c0,c1,c2,c3].drop 1).take (prog.cellsOf 4))=[x0,x1,x2,x3][1]?:=hf 1 _ rfl
 have f2:DataW.trod enc prog W base spare held m 3 (([c0,c1,c2,c3].drop 2).take (prog.cellsOf 3))=[x0,x1,x2,x3][2]?:=hf 2 _ rfl
 have f3:DataW.trod enc prog W base spare held m 3 (([c0,c1,c2,c3].drop 3).take (prog.cellsOf 3))=[x0,x1,x2,x3][3]?:=hf 3 _ rfl
 simp only[ZiL,ZmJ,ZpJ,List.drop_zero,List.drop_succ_cons,List.take_succ_cons,List.take_zero,List.getElem?_cons_zero,List.getElem?_cons_succ]at f0 f1 f2 f3
 obtain⟨s0,g0,rfl,_⟩:=DataW.trod_string Tryz.underlying9 f0
 obtain⟨s1,g1,rfl⟩:=DataW.trod_bool Tryz.underlying4 f1
 obtain⟨s2,g2,rfl,_⟩:=DataW.trod_int Tryz.underlying3 f2
 obtain⟨s3,g3,rfl,_⟩:=DataW.trod_int Tryz.underlying3 f3
 simp only[DataW.lit.injEq,Lit.string.injEq,Lit.bool.injEq,Lit.int.injEq,true_and,List.cons.injEq,and_true]at e0 e1 e2 e3 g0 g1 g2 g3
 subst e0 e1 e2 e3 g0 g1 g2 g3
 simp
end
theorem gForms:prog.globalNamed "apodixis/layout.forms" =some 0:=by kernel_rfl
theorem gFormsType:(prog.globals[0]?).map (·.type)=some 229:=by kernel_rfl
set_option maxRecDepth 100000 in
theorem Zmv {W:World} {rest:List (String×DataW Unit)} (h:laidMet prog (("apodixis/layout.forms",Rows.laid_apodixis_layout_forms)::rest) W):Zgv W:=by
 obtain⟨ps,⟨g',t',cs,fuel,p,q,hg',ht',hvar,hd,_,_⟩,_⟩:=h
 obtain rfl:=Option.some.inj (gForms.symm.trans hg')
 obtain rfl:=Option.some.inj (gFormsType.symm.trans ht')
 have hcell:=World.var?_cell gForms hvar
 obtain⟨xs,m,rfl,hx,hl,hxl,hf⟩:=DataW.trod_array Tryz.underlying229 hd
 have hx1:=congrArg Prod.fst hx
 rw[Zgl]at hf
 match xs,hxl with
 | [x0,x1,x2,x3,x4,x5,x6,x7,x8,x9],_=>
 simp only[Rows.laid_apodixis_layout_forms,List.map_cons,List.map_nil,DataW.agg.injEq,List.cons.injEq,and_true]at hx1
 obtain⟨e0,e1,e2,e3,e4,e5,e6,e7,e8,e9⟩:=hx1
 have hall:∀ i,i<10→(cs.toList.drop (i*4)).take 4=(formsV.drop (i*4)).take 4:=by
  intro i hi
  have hfi:=hf i hi
  match i,hi with
  | 0,_=>exact XC hfi e0.symm
  | 1,_=>exact XC hfi e1.symm
  | 2,_=>exact XC hfi e2.symm
  | 3,_=>exact XC hfi e3.symm
  | 4,_=>exact XC hfi e4.symm
  | 5,_=>exact XC hfi e5.symm
  | 6,_=>exact XC hfi e6.symm
  | 7,_=>exact XC hfi e7.symm
  | 8,_=>exact XC hfi e8.symm
  | 9,_=>exact XC hfi e9.symm
 have hat:∀(l:List Value) (p:Nat),l[p]?=((l.drop (p/4*4)).take 4)[p%4]?:=fun l p=>by
  rw[List.getElem?_take,if_pos (Nat.mod_lt _ dz),List.getElem?_drop,Nat.div_add_mod']
 intro p u hu
 have hp:p<40:=by
  rcases Nat.lt_or_ge p 40 with h | h
  · exact h
  · rw[List.getElem?_eq_none (show formsV.length≤p from h)]at hu;cases hu
 rw[hcell,←Array.getElem?_toList,hat,hall (p/4) oz,←hat]
 exact hu
theorem Zpg:Stab Zgv:=fun _ _ hk h i u hu=>hk.cell trivial (h i u hu)
theorem Zph:Q2 Zgv:=fun _ h=>h
end Go.Proofs.YtneapgbkkkjagaaGreatDoor
