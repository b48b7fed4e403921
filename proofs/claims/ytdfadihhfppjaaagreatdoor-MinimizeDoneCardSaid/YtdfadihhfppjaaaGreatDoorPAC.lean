/-
  DERIVED: the shelf's contracts at this dump, in plain words.
  CONTRACT of the library: substitutions are sorted.
  CONTRACTS of the program: a binding's substitutions; whether an assertion gives a formula.
  THE ENGINE: as EngRx, where effects may be guarded, and may end by a panic.
  THE ENGINE: a call of yield as an effect of a drawn region.
  THE ENGINE: keys that are struck from a map.
  MINIMIZE (plain): what the search for candidates keeps, as the walk wants it.
  CONTRACTS of the program: candidates.
  MINIMIZE (plain): how many candidates and changes there are; what the walk knows of a job.
  THE ENGINE: a range over a function in a loop: as many marks as there were rounds.
-/
import Derived.Test.YtdfadihhfppjaaaGreatDoorPAB
namespace Go.Proofs
open Go.Shelf
def Tryz.sortB_ren:Go.Shelf.Ren:=⟨fun | 6=>124 | 15=>151 | 14=>150 | 28=>197 | 29=>198 | 20=>189 | 21=>190 | 22=>191 | 23=>192 | 24=>193 | 25=>194 | 26=>195 | 27=>196 | 46=>229 | 47=>230 | 48=>231 | 49=>232 | 50=>233 | 57=>252 | n=>n,fun | 22=>165 | 24=>182 | 25=>205 | 3=>3 | 39=>230 | 0=>0 | 53=>266 | 55=>268 | 4=>4 | 46=>260 | 45=>259 | 50=>172 | 5=>5 | 9=>9 | 66=>294 | 70=>298 | 76=>313 | 77=>314 | n=>n,fun | n=>n⟩
theorem Tryz.sortB:Go.Proofs.SlLaysF0.n6 Tryz.prog Tryz.sortB_ren:= {
 mixed:=by kernel_rfl
 f6:=⟨Tryz.f124.name,by decide,Tryz.func124.trans (congrArg some (by kernel_rfl))⟩
 f14:=⟨Tryz.f150.name,by decide,Tryz.func150.trans (congrArg some (by kernel_rfl))⟩
 f15:=Tryz.func151.trans (congrArg some (by kernel_rfl))
 f20:=⟨Tryz.f189.name,by decide,Tryz.func189.trans (congrArg some (by kernel_rfl))⟩
 f21:=⟨Tryz.f190.name,by decide,Tryz.func190.trans (congrArg some (by kernel_rfl))⟩
 f22:=⟨Tryz.f191.name,by decide,Tryz.func191.trans (congrArg some (by kernel_rfl))⟩
 f23:=⟨Tryz.f192.name,by decide,Tryz.func192.trans (congrArg some (by kernel_rfl))⟩
 f24:=⟨Tryz.f193.name,by decide,Tryz.func193.trans (congrArg some (by kernel_rfl))⟩
 f25:=⟨Tryz.f194.name,by decide,Tryz.func194.trans (congrArg some (by kernel_rfl))⟩
 f26:=⟨Tryz.f195.name,by decide,Tryz.func195.trans (congrArg some (by kernel_rfl))⟩
 f27:=⟨Tryz.f196.name,by decide,Tryz.func196.trans (congrArg some (by kernel_rfl))⟩
 f28:=Tryz.func197.trans (congrArg some (by kernel_rfl))
 f29:=Tryz.func198.trans (congrArg some (by kernel_rfl))
 f46:=⟨Tryz.f229.name,by decide,Tryz.func229.trans (congrArg some (by kernel_rfl))⟩
 f47:=Tryz.func230.trans (congrArg some (by kernel_rfl))
 f48:=Tryz.func231.trans (congrArg some (by kernel_rfl))
 f49:=⟨Tryz.f232.name,by decide,Tryz.func232.trans (congrArg some (by kernel_rfl))⟩
 f50:=⟨Tryz.f233.name,by decide,Tryz.func233.trans (congrArg some (by kernel_rfl))⟩
 f57:=⟨Tryz.f252.name,by decide,Tryz.func252.trans (congrArg some (by kernel_rfl))⟩
 t0:=Tryz.underlying0
 a0:=Tryz.isAgg0
 z0:=Tryz.sizeOf0
 v0:=Tryz.zeroValue0
 t3:=Tryz.underlying3
 a3:=Tryz.isAgg3
 z3:=Tryz.sizeOf3
 v3:=Tryz.zeroValue3
 t4:=Tryz.underlying4
 a4:=Tryz.isAgg4
 z4:=Tryz.sizeOf4
 v4:=Tryz.zeroValue4
 t5:=Tryz.underlying5
 a5:=Tryz.isAgg5
 z5:=Tryz.sizeOf5
 v5:=Tryz.zeroValue5
 t9:=Tryz.underlying9
 a9:=Tryz.isAgg9
 z9:=Tryz.sizeOf9
 v9:=Tryz.zeroValue9
 t22:=Tryz.underlying165
 a22:=Tryz.isAgg165
 z22:=Tryz.sizeOf165
 v22:=Tryz.zeroValue165
 t25:=Tryz.underlying205
 a25:=Tryz.isAgg205
 z25:=Tryz.sizeOf205
 v25:=Tryz.zeroValue205
 t39:=Tryz.underlying230
 a39:=Tryz.isAgg230
 z39:=Tryz.sizeOf230
 v39:=Tryz.zeroValue230
 t45:=Tryz.underlying259
 a45:=Tryz.isAgg259
 z45:=Tryz.sizeOf259
 v45:=Tryz.zeroValue259
 t46:=Tryz.underlying260
 a46:=Tryz.isAgg260
 z46:=Tryz.sizeOf260
 v46:=Tryz.zeroValue260
 t50:=Tryz.underlying172
 a50:=Tryz.isAgg172
 z50:=Tryz.sizeOf172
 v50:=Tryz.zeroValue172
 t53:=Tryz.underlying266
 a53:=Tryz.isAgg266
 z53:=Tryz.sizeOf266
 v53:=Tryz.zeroValue266
 t55:=Tryz.underlying268
 a55:=Tryz.isAgg268
 z55:=Tryz.sizeOf268
 v55:=Tryz.zeroValue268
 t66:=Tryz.underlying294
 a66:=Tryz.isAgg294
 z66:=Tryz.sizeOf294
 v66:=Tryz.zeroValue294
 t70:=Tryz.underlying298
 a70:=Tryz.isAgg298
 z70:=Tryz.sizeOf298
 v70:=Tryz.zeroValue298
 t76:=Tryz.underlying313
 a76:=Tryz.isAgg313
 z76:=Tryz.sizeOf313
 v76:=Tryz.zeroValue313
 t77:=Tryz.underlying314
 a77:=Tryz.isAgg314
 z77:=Tryz.sizeOf314
 v77:=Tryz.zeroValue314 }
end Go.Proofs
set_option maxHeartbeats 8000000
set_option maxRecDepth 100000
namespace Go.Proofs.YtdfadihhfppjaaaGreatDoor
open Go.RowKit
open Go.Sort Go.Shelf
theorem Zmf (x y:BA) (u v:Value) (hx:x.size≤maxLen) (hy:y.size≤maxLen) (hu:okLit u) (hv:okLit v) (W:World):Calls Tryz.prog 125 #[.agg #[.string x,u],.agg #[.string y,v]] W fun e w'=>e= .returned (.int .i64 (Zac x y))∧Ex W w':=by
 have r1:∀(s:BA) (z:Value),s.size≤maxLen→okLit z→Rel (fun _=>True) W (.agg [.lit (.string s),.lit z]) (.agg #[.string s,z]):=fun s z h1 h2=>by
  simp only[Rel]
  exact⟨[.string s,z],rfl,.lit _ h1,.lit _ h2,trivial⟩
 have ha:RelL (fun _=>True) W [.agg [.lit (.string x),.lit u],.agg [.lit (.string y),.lit v]] [.agg #[.string x,u],.agg #[.string y,v]]:=Za (r1 x u hx hu) (Za (r1 y v hy hv) Zd)
 obtain⟨g1,g2⟩:=X8 (N:=10) (M:=10) yz rfl ha
 refine(callsIn_wide (n:=5)).1 (callsIn_of_wp Tryz.func125 rfl trivial ?_ rfl)
 suffices h:Tr 5 Tryz.prog (St All (fun _=>True) W 10 (YV 0 [.agg [.lit (.string x),.lit u],.agg [.lit (.string y),.lit v]]) (Ex W)) _ _ from h _ _ ⟨rfl,g1,Keeps.refl _ _,Zou W,g2⟩
 refine tsq (sy (.ptr [.lit (.string x),.lit u]) (fun h=>Zpt rfl (h.get 0 rfl) trivial h.x) ?_)
 refine sy (.ptr [.lit (.string y),.lit v]) (fun h=>Zpt rfl (h.get 2 rfl) trivial h.x) ?_
 refine sy (.int 0) (fun h=>YK rfl (Rel.of_lit _) h.x) ?_
 refine seK [1,2] [_,_] rfl (nx (tsq ?_))
 refine sy (.ptr [.lit (.string x),.lit u]) (fun h=>ZE Zeg rfl (h.get 1 rfl) h.x) ?_
 refine sy (.str x) (fun h=>Zz Qf rfl (h.get 0 rfl) h.x) ?_
 refine sy (.ptr [.lit (.string y),.lit v]) (fun h=>ZE Zeg rfl (h.get 2 rfl) h.x) ?_
 refine sy (.str y) (fun h=>Zz Qf rfl (h.get 0 rfl) h.x) ?_
 refine sq (.int (Zac x y)) rfl rfl (lb rfl) (fun a w h=>ZjC (args:=[.tmp 6,.tmp 8]) (vs:=[.string x,.string y]) Zcf rfl (by rw[List.map_cons,List.map_cons,List.map_nil,(h.get 2 rfl).lit,(h.get 0 rfl).lit]) (ZoK _ _ _) True.intro h.x) ?_
 refine sy (.int (Zac x y)) (fun h=>YK rfl (h.get 0 rfl) h.x) ?_
 refine seK [0] [_] rfl (Zv fun a w h=>⟨h.defs,a.tmps.getD 4 undef,by simp[results,Tryz.results125,Sem.run_pure],?_,h.x⟩)
 rw[show a.tmps.getD 4 undef= .int .i64 (Zac x y)from(h.get 0 rfl).lit]
abbrev BdV:Type:= {p:Bd×Value // p.1.var.size≤maxLen∧okLit p.2∧p.2.oneCell'=true}
instance instInhBdV:Inhabited BdV:=⟨⟨(⟨⟨#[]⟩,[]⟩,.slice none 0 0),nzl,True.intro,rfl⟩⟩
def ZeC (p:BdV):List Value:=[.string p.1.1.var,p.1.2]
def cfV (p q:BdV):Int:=Zac p.1.1.var q.1.1.var
theorem ltV (p q:BdV):ltOf cfV p q=Op.bytesLess p.1.1.var.toList q.1.1.var.toList:=by
 unfold ltOf cfV
 by_cases h:Op.bytesLess p.1.1.var.toList q.1.1.var.toList=true
 · rw[decide_eq_true (cmpX_lt.2 h),h]
 · rw[decide_eq_false (fun h2=>h (cmpX_lt.1 h2))]
   simpa using h
theorem swoV:Go.Sort.SWO (ltOf cfV) where
 irrefl x:=by rw[ltV];exact QO _
 trans x y z h1 h2:=by rw[ltV]at*;exact ZaO _ _ _ h1 h2
 ntrans x y z h1 h2:=by
  rw[ltV]at*
  cases h3:Op.bytesLess x.1.1.var.toList z.1.1.var.toList with
  | false=>rfl
  | true=>
   cases h4:Op.bytesLess y.1.1.var.toList x.1.1.var.toList with
   | true=>rw[ZaO _ _ _ h4 h3]at h2;cases h2
   | false=>rw[Zbq _ _ h1 h4,h2]at h3;cases h3
theorem Zq5 (blk off size:Nat) (w:World):CmpLays Tryz.prog 125 #[] ZeC 2 cfV blk off size w:=fun m os dk _ x y=>by
 have:=Zmf x.1.1.var y.1.1.var x.1.2 y.1.2 x.2.1 y.2.1 x.2.2.1 y.2.2.1 (sortWorldK ZeC 2 w blk off m dk os)
 rw[Array.append_empty]
 exact this
theorem Zpb {S:Nat→Prop} {w:World}:∀ {ps:List Bd} {us:List Value},RdL S w (ps.map bdC).flatten us→∃ zs:List BdV,zs.map (·.1.1)=ps∧us=zs.flatMap ZeC∧∀ z∈zs,Rd S w (Zb z.1.1.text) z.1.2
 | [],us,h=>by
  have:=h.length
  simp at this
  exact⟨[],rfl,by simpa using this,by simp⟩
 | p::ps,us,h=>by
  match us,h with
  | u1::u2::us,⟨h1,h2,h3⟩=>
   obtain⟨zs,e1,e2,e3⟩:=Zpb (ps:=ps) h3
   have ok1:p.var.size≤maxLen:=by cases h1 with | lit _ hv=>exact hv
   have ok2:okLit u2:=by obtain⟨ad,cap,e,_,_⟩:=h2.form;rw[e];exact True.intro
   refine⟨⟨(p,u2),ok1,ok2,h2.one⟩::zs,by rw[List.map_cons,e1],by rw[h1.of_lit,e2];rfl,fun z hz=>?_⟩
   rcases List.mem_cons.1 hz with rfl | hz
   · exact h2
   · exact e3 z hz
theorem bd_rd {S:Nat→Prop} {w:World}:∀ {zs:List BdV},(∀ z∈zs,Rd S w (Zb z.1.1.text) z.1.2)→RdL S w ((zs.map (·.1.1)).map bdC).flatten (zs.flatMap ZeC)
 | [],_=>trivial
 | z::zs,h=>⟨.lit _ z.2.1,h z yz,bd_rd fun q hq=>h q (by simp[hq])⟩
theorem ZtQ {J:WP} (hJ:Stab J) (v:Value) (ps:List Bd) (hn:ps.length≤140737488355328):FnM (ι:= {qs:List Bd // qs.Perm ps∧WkB qs}) Tryz.prog J 124 [] [.lit v,.fn 125 []] [OB.row v 182 2 (ps.map bdC)] (fun _=>.tup []) (fun i=>[OB.row v 182 2 (i.1.map bdC)]):=by
 intro S w0 R w vs hS hJ0 hH hk hx ha
 simp only[RelL]at ha
 obtain⟨u,_,rfl,h1,u2,_,rfl,h2,rfl⟩:=ha
 obtain rfl:=h1.lit
 obtain rfl:u2= .func (.func 125) #[] #[]:=by
  simp only[Rel,RelL]at h2
  obtain⟨_,rfl,rfl⟩:=h2
  rfl
 have hi:=hx.2.1 (OB.row u 182 2 (ps.map bdC)) yz
 obtain⟨us,⟨hul,hrow⟩,hrd,h3⟩:=hi
 rcases hrow with⟨rfl,hz⟩ | ⟨g,cap,cur,rfl,hb,hg,hnc,hcm,hcs,ht⟩
 · have hps:ps=[]:=by simpa using hz
   subst hps
   refine(AnyF.slices_SortFunc_none Tryz.sortB none 0 _ w).mono ?_
   rintro e w' ⟨rfl,rfl⟩
   exact⟨⟨[],.refl _,.nil⟩,_,rfl,by simp only[Rel,RelL];exact⟨[],rfl,rfl⟩,hk,hx⟩
 · obtain⟨zs,hzs,hus,hok⟩:=Zpb hrd
   have hlen:(ps.map bdC).length=ps.length:=List.length_map _
   rw[hlen]at hnc ht hul
   obtain⟨d,hd⟩:∃ d:Array BdV,d.toList=zs:=⟨zs.toArray,by simp⟩
   have hds:d.size=ps.length:=by rw[←hzs,←hd];simp
   have hkB:∀ x:BdV,(ZeC x).length=2:=fun _=>rfl
   have hfl:∀ e:Array BdV,(flatK ZeC 2 e).toList=e.toList.flatMap ZeC:=fun e=>Zft hkB oz e
   have hgl:g<w.heap.size:=(Array.getElem?_eq_some_iff.1 hg).1
   have hfz:∀ j,w.frozen? ⟨g,j,none⟩=false:=fun j=>by simp[World.frozen?,hg]
   have hH:HoldsK ZeC 2 w g 0 d:=fun j hj=>by
    refine⟨?_,hfz _⟩
    have hj2:j<ps.length*2:=by rw[size_flatK,hds]at hj;exact hj
    have e1:cur.toList[j]?=some ((flatK ZeC 2 d)[j]!):=by
     have e2:(cur.toList.take (ps.length*2))[j]?=cur.toList[j]?:=by rw[List.getElem?_take,if_pos hj2]
     rw[←e2,ht,hus,←hd,←hfl d,Array.getElem?_toList,Array.getElem?_eq_getElem hj,getElem!_pos _ j hj]
    rw[Nat.zero_add]
    simp only[World.cell?,hg]
    simpa using e1
   have hcall:=AnyQ.slices_SortFunc Tryz.sortB 2 Tryz.isAgg182 Tryz.sizeOf182 ZeC hkB (fun x v hv=>by
    simp only[ZeC,List.mem_cons,List.not_mem_nil,or_false]at hv
    rcases hv with rfl | rfl
    · rfl
    · exact x.2.2.2) cfV swoV 125 #[] g 0 cap d w (enters_of Tryz.func125 (by kernel_rfl) rfl) (Zq5 g 0 d.size w) hH hgl oz
   rw[hds]at hcall
   rw[hlen]
   refine hcall.mono ?_
   rintro e w' ⟨rfl,d',n,os,hperm,hsrt,rfl⟩
   have hd's:d'.size=ps.length:=by rw[hperm.1,hds]
   have hpd:d'.toList.Perm d.toList:=by
    have h9:=hperm.2.2
    rw[show d'.extract 0 ps.length=d' by rw[←hd's];exact Array.extract_size,show d.extract 0 ps.length=d by rw[←hds];exact Array.extract_size]at h9
    exact h9
   have hpm:(d'.toList.map (·.1.1)).Perm ps:=by
    rw[←hzs,←hd]
    exact hpd.map _
   have hwk:WkB (d'.toList.map (·.1.1)):=by
    unfold WkB
    rw[List.pairwise_map,List.pairwise_iff_getElem]
    intro i j hi hj hij
    have h9:=hsrt i j nzl hij (by rw[←hd's];simpa using hj)
    rw[ltV,getElem!_pos _ j (by simpa using hj),getElem!_pos _ i (by simpa using hi)]at h9
    rw[cmpX_lt]
    simpa using h9
   have hheap:(sortWorldK ZeC 2 w g 0 n d' os).heap[g]?=some (.cells (putCells id 0 (flatK ZeC 2 d') cur) 182):=by
    show(grow (putRow id (Sort.ahead w n) g 0 (flatK ZeC 2 d')) os).heap[g]?=_
    rw[heap_grow_old _ _ (by simpa [Sort.ahead]using hgl)]
    show((Sort.ahead w n).heap.modify g _)[g]?=_
    rw[Array.getElem?_modify,if_pos rfl]
    show(w.heap[g]?).map _=_
    rw[hg]
    rfl
   have hkk:Keeps (fun k=>k≠g) w (sortWorldK ZeC 2 w g 0 n d' os):=by
    refine⟨?_,?_,?_,?_,?_⟩
    · simp[sortWorldK,putRowK,grow,putRow,mapBlock,Sort.ahead]
    · simp[sortWorldK,putRowK,grow,putRow,mapBlock,Sort.ahead]
    · simp[sortWorldK,putRowK,grow,putRow,mapBlock,Sort.ahead]
    · simp[sortWorldK,putRowK,grow,putRow,mapBlock,Sort.ahead]
    · intro k hk hne
      show(grow (putRow id (Sort.ahead w n) g 0 (flatK ZeC 2 d')) os).heap[k]?=_
      rw[heap_grow_old _ _ (by simpa [Sort.ahead]using hk)]
      show((Sort.ahead w n).heap.modify g _)[k]?=_
      rw[Array.getElem?_modify,if_neg (fun e=>hne e.symm)]
      rfl
   have hFs:(flatK ZeC 2 d').size=ps.length*2:=by rw[size_flatK,hd's]
   have hk0:Keeps All w0 (sortWorldK ZeC 2 w g 0 n d' os):=hk.upto' hkk fun k hk0 e=>by subst e;omega
   have hok':∀ z∈d'.toList,Rd (SO S ([OB.row (.slice (some ⟨g,0,none⟩) ps.length cap) 182 2 ((d'.toList.map (·.1.1)).map bdC)]++R)) (sortWorldK ZeC 2 w g 0 n d' os) (Zb z.1.1.text) z.1.2:=fun z hz=>
    (hok z (by rw[←hd];exact hpd.mem_iff.1 hz)).move hkk fun k _ hs=>⟨fun e=>by
     refine hs.2 _ (List.mem_cons_self) ?_
     rw[e];rfl,hs.1,fun p hp=>by
     rcases List.mem_cons.1 hp with rfl | hp
     · exact fun e=>hs.2 _ (List.mem_cons_self) e
     · exact hs.2 p (List.mem_cons_of_mem _ hp)⟩
   have hinv:(OB.row (.slice (some ⟨g,0,none⟩) ps.length cap) 182 2 ((d'.toList.map (·.1.1)).map bdC)).inv w0.heap.size (SO S ([OB.row (.slice (some ⟨g,0,none⟩) ps.length cap) 182 2 ((d'.toList.map (·.1.1)).map bdC)]++R)) (sortWorldK ZeC 2 w g 0 n d' os):=by
    have hl2:((d'.toList.map (·.1.1)).map bdC).length=ps.length:=by simp[hd's]
    refine⟨d'.toList.flatMap ZeC,⟨?_,.inr ⟨g,cap,putCells id 0 (flatK ZeC 2 d') cur,by rw[hl2],hb,hheap,by rw[hl2];exact hnc,hcm,by simpa [putCells]using hcs,?_⟩⟩,bd_rd hok',fun r hr=>by obtain⟨p,_,rfl⟩:=List.mem_map.1 hr;rfl⟩
    · rw[hl2,←hfl d',Array.length_toList,hFs]
    · rw[hl2,←hfl d',←hFs]
      exact ZjP cur _ (by rw[hFs,hcs];exact Nat.mul_le_mul_right _ hnc)
   refine⟨⟨d'.toList.map (·.1.1),hpm,hwk⟩,_,rfl,by simp only[Rel,RelL];exact⟨[],rfl,rfl⟩,hk0,?_⟩
   have hx1:=hx
   rw[hlen]at hx1
   have:=ZgP (o':=OB.row (.slice (some ⟨g,0,none⟩) ps.length cap) 182 2 ((d'.toList.map (·.1.1)).map bdC)) hx1 (hJ _ _ hk0 hJ0) (hkk.sub fun k _ hk=>fun e=>hk (by show(OB.row (.slice (some ⟨g,0,none⟩) ps.length cap) 182 2 (ps.map bdC)).blk k;rw[e];rfl)) (fun k hk=>.inl hk) hinv
   exact this.1
end Go.Proofs.YtdfadihhfppjaaaGreatDoor
set_option maxHeartbeats 8000000
set_option maxRecDepth 100000
namespace Go.Proofs.YtdfadihhfppjaaaGreatDoor
open Go.Proofs.Tryz (prog)
open Go.RowKit
theorem ZfE:prog.underlying 158=some (.map 9 22):=by kernel_rfl
theorem ZrO:Zj prog 124:=Zn Tryz.func124 rfl rfl
theorem Zjm:Zj prog 94:=Zn Tryz.func94 rfl rfl
theorem Zfm:ZV prog 92 0 0:=fun b off w=>by kernel_rfl
theorem Zl7:ZV prog 92 1 3:=fun b off w=>by kernel_rfl
theorem Zjl:Zj prog 96:=Zn Tryz.func96 rfl rfl
theorem Znm {J:WP} (hJ:Stab J) (mb:Nat) (Mb:BM) (hnd:(Mb.map Prod.fst).Nodup) (hkz:∀ q'∈Mb.map (·.1),q'.size≤9223372036854775807) (hml:Mb.length≤100000):FnM (ι:=Unit) prog J 96 [] [.lit (.map (some mb))] [OB.map keyS (fun z':List BA=>AV.rd (Zb z')) mb Mb] (fun _=>.rd (ZfC (YO Mb))) (fun _=>[OB.map keyS (fun z':List BA=>AV.rd (Zb z')) mb Mb]):=by
 refine fEM Tryz.func96 fun S w0 R hS hJ0 hH=>?_
 refine YT (B:=So J S w0 22 (OB.map keyS (fun z':List BA=>AV.rd (Zb z')) mb Mb::R) [(0,.lit (.map (some mb)))]) ?_ fun a w h=>h
 refine qso tb hJ [0] [_] [_] ?_
 refine qso tb hJ [0,1000] [_] [_,_] ?_
 refine Zh (tsq (snK 1 tb rfl (ZjT (Kd:=keyS) (f:=(fun z':List BA=>AV.rd (Zb z'))) (L:=Mb) ZfE hJ hJ0 rfl rfl rfl (lb rfl) (fun a w h=>(h.get 0 rfl)) fun b1=>?_)))
 refine seK [0,3] [_,_] rfl (nx (Ze (tw (Z7 182 2 hJ) ?_)))
 refine lpo (ι:=Value×(List Bd)×(List BA)) (fun(_,out,vis)=>(out=vis.map (fun s=>(⟨s,(Zw Mb s).getD default⟩:Bd)))∧(vis.Nodup)∧(∀ q'∈vis,q'∈Mb.map (·.1))) (fun(v,out,vis)=>(OB.row v 182 2 (out.map bdC)::OB.iter b1 keyS (fun z':List BA=>AV.rd (Zb z')) mb Mb vis::R)) (fun(v,_,_)=>[(3,.lit v)]) (fun(_,_,vis)=>Mb.length-vis.length) [0,1] [_] ((.slice none 0 0),([]:List Bd),([]:List BA)) ⟨rfl,by simp,fun q' h=>by simp at h⟩ ?_
 rintro⟨v,out,vis⟩ ⟨f1_1,f1_2,f1_3⟩
 refine tsq (kw pm1 (ZmV (Kd:=keyS) (f:=(fun z':List BA=>AV.rd (Zb z'))) (L:=Mb) (vis:=vis) ((fun k' hk'=>hkz k' hk')) hJ hJ0 rfl rfl rfl (lb rfl) (fun a w h=>(h.get 0 rfl)) fun z2 h0z2 h1z2=>?_))
 refine sy (.bool z2.1) (fun h=>Yo rfl (h.get 0 rfl) rfl h.x) ?_
 refine seK [0,2,3] [_,_,_] rfl (nx (cjS 0 (fun hb1=>?_) fun hb1=>?_))
 ·
  have e5:=ZsO f1_2 f1_3
  have e6:out.length=vis.length:=by rw[f1_1,List.length_map]
  refine tw (ob0 (congrArg (fun z'=>OB.iter b1 keyS (fun z':List BA=>AV.rd (Zb z')) mb Mb (z')) (show(if z2.1 then vis++[z2.2]else vis)=(vis++[z2.2])from by rw[hb1];rfl))) (Zc (nx (Ze (ZK tb hJ [1,2,1002,1003,1004] [.tup [.str z2.2,.rd (Zb (((Zw Mb z2.2).getD default)))],_,_,_,_] [0] [_,_,_,_,_] rfl ⟨fun _ _ _ hx hl _=>Zm9 (Kd:=keyS) (f:=(fun z':List BA=>AV.rd (Zb z'))) (L:=Mb) (k:=z2.2) rfl (Zf hx (mo 0 rfl)) (hkz z2.2 (by have:=(h1z2 hb1).2;rw[YU]at this;simpa using this)) (hl.env 1 7 _ rfl rfl) hx,trivial⟩ ?_))))
  refine ln 2 fun hl1=>?_
  refine ZS (snK 3 tb rfl (sq (.agg (bdC ((⟨z2.2,((Zw Mb z2.2).getD default)⟩:Bd)))) rfl rfl (lb rfl) (fun a _ h=>XD (us:=[a.eval (Go.Operand.tmp 14),a.eval (Go.Operand.tmp 15)]) Zev rfl yz (Zp (h.get 1 rfl) (Zp (h.get 0 rfl) Z4)) rfl h.x) ?_))
  refine sy (.rd (ZfC ([(⟨z2.2,((Zw Mb z2.2).getD default)⟩:Bd)]))) (fun h=>Zb1 Zaa ZjA dz rfl rfl (h.get 0 rfl) (Zm hS _ h.keep h.x _ nlr) (jo hJ h.x)) ?_
  refine kw pm1 (Yx (f:=bdC) (m:=4) (s:=13) out ([(⟨z2.2,((Zw Mb z2.2).getD default)⟩:Bd)]) (fun _=>rfl) Zex hJ hJ0 rfl rfl rfl (lb rfl) rfl rfl (fun a w h=>(h.get 0 rfl)) (by simp;omega) (by simp;omega) fun v3=>?_)
  refine snK 1 tb rfl (seK [0,2,7] [_,_,_] rfl ?_)
  exact Xf (v3,out++([(⟨z2.2,((Zw Mb z2.2).getD default)⟩:Bd)]),vis++[z2.2]) [2,0] ⟨by rw[f1_1,List.map_append];rfl,by rw[List.nodup_append];exact⟨f1_2,by simp,fun x hx y hy e=>by rw[List.mem_singleton.1 hy]at e;subst e;exact(h1z2 hb1).1 hx⟩,fun q' hq'=>by rcases List.mem_append.1 hq' with h | h;exact f1_3 q' h;rw[List.mem_singleton.1 h];have:=(h1z2 hb1).2;rw[YU]at this;simpa using this⟩ (hm:=(show Mb.length-(vis++[z2.2]).length<Mb.length-vis.length from Zt8 f1_2 f1_3 (h1z2 hb1)))
 ·
  have e5:=ZsO f1_2 f1_3
  have e6:out.length=vis.length:=by rw[f1_1,List.length_map]
  have e7:=Zt7 hnd f1_2 f1_3 (h0z2 hb1)
  refine tw (ob0 (congrArg (fun z'=>OB.iter b1 keyS (fun z':List BA=>AV.rd (Zb z')) mb Mb (z')) (show(if z2.1 then vis++[z2.2]else vis)=vis from by rw[hb1];rfl))) (Zu (nx (tsq ?_)))
  refine snK 1 tb rfl (kw pm1 ?_)
  refine QT (O:=[OB.row v 182 2 (out.map bdC)]) (R:=(OB.iter b1 keyS (fun z':List BA=>AV.rd (Zb z')) mb Mb vis::R)) (ZtQ hJ v out oz) ZrO rfl rfl rfl (lb rfl) hS hJ0 Zq (fun a w h=>(Za (h.get 0 rfl) (Za (Qt 125) Zd))) fun z4=>?_
  refine seK [4] [_] rfl (nx (qso tb hJ [1001] [_,_] [_] ?_))
  refine tw (fun h=>Ya hS h (m:=0) (s:=2) rfl) (tw ZeY ?_)
  exact Zv (fun a w h=>ZN  (m:=0) () rfl h rfl (congrArg (fun z=>AV.rd (ZfC z)) (show z4.1=(YO Mb)from Zt6 hnd (z4.2.1.trans (f1_1▸e7)) z4.2.2)))
theorem ZtI {J:WP} (hJ:Stab J) (d:Db) (i:Nat) (ss:List Stp) (ts:List (List BA)) (M:Nat) (gf:Fr) (al:List Int) (step:Nat) (hfl:∀ h∈gf.hyps,h.floating=true→h.text.length=2) (hi:i<d.frames.length) (hts:∀ t∈ts,1≤t.length∧t.length≤2000) (hal:∀ j,j<al.length→0≤ge al j∧ge al j< (ts.length:Int)) (hgl:al.length=gf.hyps.length) (hst:step<ts.length) (hgh:gf.hyps.length≤2000) (hsz:∀ h∈gf.hyps,∀ s∈h.text,s.size≤60) (hwd:(ge d.frames i).wide.length*32≤140737488351232):Fn prog J 68 [.ptr [Zb d.consts,Zb d.vars,Yq d.frames,.lit (.int .i64 (((i:Nat):Int))),ZQ ss,Zo ts,.lit (.int .i64 ((((ZH ss):Nat):Int))),.lit (.map (some M))],.agg (frC gf),.rd (ZX al),.int (step:Nat)] (.bool (ZeB (⟨d,i,ss,ts,[]⟩:Jb) gf al step)):=by
 refine fE Tryz.func68 fun S w0 hS hJ0=>?_
 refine tw Ye (ln 2 fun hl1=>?_)
 have het:∀ t∈(YD ts al),1≤t.length∧t.length≤2000:=ZkN hts hal
 have hes:(YD ts al).length=gf.hyps.length:=by rw[Zdb];exact hgl
 have hgm:=Zi5 (hs:=gf.hyps) (es:=(YD ts al)) (p:=fun t=>t.length≤2000) (fun t ht=>by have:=het t ht;rw[List.length_drop];omega) hes
 have hgz:∀ k,k≤gf.hyps.length→∀ q'∈(gvM gf.hyps (YD ts al) k).map (·.1),q'.size≤9223372036854775807:=fun k hk q' hq'=>by obtain⟨x,hx,rfl⟩:=List.mem_map.1 hq';obtain⟨h,hh,hf,e⟩:=(hgm k hk x hx).2;have h8:=hfl h hh hf;have h9:=hsz h hh (ge h.text 1) (Zg oz);rw[e];omega
 refine ZK tb hJ [0,2,3,1000] [.ptr (frC gf),_] [0] [_,_,_,_] rfl ⟨iBo hS hJ,trivial⟩ ?_
 refine tsq (ZdA keyS (fun z':List BA=>AV.rd (Zb z')) hJ rfl rfl rfl (lb rfl) fun m1=>?_)
 refine snK 1 tb (env':=[(9,_),(21,_),(0,_),(2,_),(3,_),(5,_)]) rfl (seK [0,2,3,4,5] [_,_,_,_,_] rfl ?_)
 refine nx (Zh (ZK tb hJ [0,1,2,3,4,1001,1002,1003] [_,_,.int (gf.hyps.length:Nat),_] [2] [_,_,_,_,_,_,_,_] rfl ⟨Ym ZB,trivial⟩ ?_))
 refine ln 5 fun hl2=>?_
 refine Ze (lpo (ι:=Nat×BM) (fun(k,Mb)=>(k≤gf.hyps.length)∧(Mb=gvM gf.hyps (YD ts al) k)∧(∀ j,j<k→Zda gf.hyps (YD ts al) 0 j=true)) (fun(_,Mb)=>[OB.map keyS (fun z':List BA=>AV.rd (Zb z')) m1 Mb]) (fun(k,_)=>[(25,.int (k:Nat))]) (fun(k,_)=>gf.hyps.length-k) [0,1,2,3,4,5,6,7] [_,_,_,_,_,_,_] (0,([]:List (BA×List BA))) ⟨nzl,rfl,fun j hj=>by omega⟩ ?_)
 rintro⟨k,Mb⟩ ⟨f1_1,f1_2,f1_3⟩
 refine qso tb hJ [0,1,2,3,4,5,6,7,1000] [_] [_,_,_,_,_,_,_,_,_] ?_
 refine cjS 8 (fun hb1=>?_) fun hb1=>?_
 ·
  try simp at hb1
  have e0:ge (YD ts al) k=(ge ts (ge al k).toNat):=Zel oz
  have e1:=hal k oz
  refine Zc (nx (Zh (Ze (tsq (snK 1 tb (env':=[(27,_),(9,_),(0,_),(2,_),(3,_),(5,_),(23,_),(24,_),(25,_),(26,_)]) rfl (sy (.ptr (hyC (ge gf.hyps k))) (fun h=>ZU (i:=((k:Nat):Int)) ZG rfl (h.get 6 rfl) (h.get 8 rfl) nnn (Z0 (xs:=gf.hyps) (k:=k) (by first | omega | (simp;omega) | grind[Zg])) rfl h.x) ?_))))))
  refine snK 1 tb (env':=[(29,_),(28,_),(27,_),(9,_),(0,_),(2,_),(3,_),(5,_),(23,_),(24,_),(25,_),(26,_)]) rfl (ZA Yr hJ rfl rfl rfl (lb rfl) fun b2=>?_)
  refine snK 1 tb (env':=[(10,_),(11,_),(29,_),(28,_),(27,_),(9,_),(0,_),(2,_),(3,_),(5,_),(23,_),(24,_),(25,_),(26,_)]) rfl (Zt (b:=b2) (off:=0) (es:=[_,_,_]) (news:=[_,_,_]) hJ hJ0 YI rfl rfl rfl (lb rfl) rfl (fun a w h=>⟨(h.get 1 rfl),(h.get 2 rfl)⟩) ?_)
  refine kw (fun h=>ZM hS h (m:=1) (s:=11) rfl) (seK [0,1,5,6,7,8,9,10,11,12] [_,_,_,_,_,_,_,_,_,_] rfl ?_)
  refine nx (Zh (qso tb hJ [0,1,2,3,4,5,6,7,8,9,1002] [_,_,_] [_,_,_,_,_,_,_,_,_,_,_] ?_))
  refine cj 10 (fun hb2=>?_) fun hb2=>?_
  ·
   try simp at hb2
   refine Zu (nx (YR tb hJ [2,3,4,5,6,7,8,1001] [.int (k+1:Nat),_] [0] [_,_,_,_,_,_,_,_] rfl ⟨YN,trivial⟩ ?_))
   exact Xf (k+1,Mb) [0,1,2,3,4,5,6,7] ⟨oz,by first | (rw[gvM,if_neg (by simp[hb2]),←f1_2];done) | (rw[gvM,if_pos hb2,←f1_2,e0]),ZY f1_3 (by first | (simp[Zda,hb2];done) | (simp only[Zda,Nat.zero_add,e0];simpa [hb2]using hb3))⟩
  ·
   try simp at hb2
   have e3:(ge gf.hyps k).text.length=2:=hfl _ (Zg oz) hb2
   have e4:=hts _ (Zg (xs:=ts) (k:=(ge al k).toNat) oz)
   refine Zc (nx (ZK tb hJ [0,2,3,4,5,6,7,8,9,1003,1009,1010] [_,_,_,_,_,_,.ptr [.lit (.int .i64 (ge al k))],_,.ptr [Zb ((ge ts (ge al k).toNat))],_,_] [6,8] [_,_,_,_,_,_,_,_,_,_,_,_] rfl ⟨iIx ZC,iIz Yh,trivial⟩ ?_))
   refine ln 9 fun hl3=>?_
   refine ln 10 fun hl4=>?_
   refine Zh (ZK tb hJ [0,1,2,3,4,5,6,7,8,11,1004,1007] [_,.ptr [.lit (.string ((ge ((ge ts (ge al k).toNat)) 0)))],_,_,_,.ptr [.lit (.string ((ge ((ge gf.hyps k).text) 0)))],_,_] [1,5] [_,_,_,_,_,_,_,_,_,_,_,_] rfl ⟨iIx (k:=0) Zl,iIx (k:=0) Zl,trivial⟩ ?_)
   refine ln 10 fun hl5=>?_
   refine cj 11 (fun hb3=>?_) fun hb3=>?_
   ·
    have e5:Zda gf.hyps (YD ts al) 0 k=false:=by simp only[Zda,Nat.zero_add,e0,Bool.or_eq_false_iff,Bool.not_eq_false',decide_eq_false_iff_not];exact⟨by simpa using hb2,by simpa using hb3⟩
    have eU:ZeB (⟨d,i,ss,ts,[]⟩:Jb) gf al step=false:=Zuk (j:=(⟨d,i,ss,ts,[]⟩:Jb)) oz e5
    refine qso tb hJ [1000] [_] [_] ?_
    exact tRo 0 (hE:=eB (by first | (rw[eU];done) | (rw[eU,e6])))
   ·
    refine Zc (nx (fun a w h=>YJ (γ:=Unit) (fun ix'=>([.lit (.map (some m1)),.ptr [Zb ((ge gf.hyps k).text)],.rd (Zb ((ge gf.hyps k).text)),.ptr [.lit (.string ((ge ((ge gf.hyps k).text) 1)))],.str ((ge ((ge gf.hyps k).text) 1)),.rd (Zb ((ge ts (ge al k).toNat))),.rd (Zb (((ge ts (ge al k).toNat)).drop 1)),.any]:List AV).getD ix' .any) (fun _=>true) [(9,fun _=>.lit (.map (some m1))),(0,fun _=>.ptr [Zb d.consts,Zb d.vars,Yq d.frames,.lit (.int .i64 (((i:Nat):Int))),ZQ ss,Zo ts,.lit (.int .i64 ((((ZH ss):Nat):Int))),.lit (.map (some M))]),(2,fun _=>.rd (ZX al)),(3,fun _=>.int (step:Nat)),(5,fun _=>.ptr (frC gf)),(23,fun _=>.rd (XC gf.hyps)),(24,fun _=>.int (gf.hyps.length:Nat)),(25,fun _=>.int (k:Nat))] (fun j' _=>match j' with | 0=>[OB.map keyS (fun z':List BA=>AV.rd (Zb z')) m1 Mb] | _=>[OB.map keyS (fun z':List BA=>AV.rd (Zb z')) m1 (Xu Mb ((ge ((ge gf.hyps k).text) 1)) (((ge ts (ge al k).toNat)).drop 1))]) (fun _ _=>undef) [7] 0 () (fun _=>rfl) h hJ Yk rfl rfl rfl rfl rfl rfl hsb ⟨?_,?_,?_,?_,?_,?_,?_,?_,trivial⟩ ⟨?e9_1_0,trivial⟩ ⟨.old 1 9 _,.old 2 0 _,.old 3 2 _,.old 4 3 _,.old 5 5 _,.old 6 23 _,.old 7 24 _,.old 8 25 _,trivial⟩ ?n9_1))
    exact oX rfl fun hx hl=>ZW rfl (hl.env 1 9 _ rfl rfl) hx
    exact oX rfl fun hx hl=>ZE Y0 rfl (hl.env 0 11 _ rfl rfl) hx
    exact oX rfl fun hx hl=>Zz Qg rfl (hl.D 1 52 rfl rfl) hx
    exact oX rfl fun hx hl=>ZU (i:=((1:Nat):Int)) Zl rfl (hl.D 2 53 rfl rfl) (Rel.of_lit (Go.Value.int Go.IntKind.i64 1)) nnn (Z0 (xs:=(ge gf.hyps k).text) (k:=1) (by first | omega | (simp;omega) | grind[Zg])) rfl hx
    exact oX rfl fun hx hl=>Zz Qf rfl (hl.D 3 54 rfl rfl) hx
    exact oX rfl fun hx hl=>ZW rfl (hl.env 9 12 _ rfl rfl) hx
    exact oX rfl fun hx hl=>QY (ys:=((ge ts (ge al k).toNat)).drop 1) (lo:=1) (hi:=((ge ts (ge al k).toNat)).length) (by rw[List.take_length]) Zl (fun _=>rfl) rfl (hl.D 5 56 rfl rfl) (Rel.of_lit (Go.Value.int Go.IntKind.i64 1)) rfl (by first | omega | (simp;omega) | grind[Zg]) (by first | omega | (simp;omega) | grind[Zg]) hx
    exact Zi rfl
    case e9_1_0=>exact⟨_,rfl,rfl,rfl,rfl,fun g _ w hk hx hl _=>Zk (Zjf (f:=(fun z':List BA=>AV.rd (Zb z'))) Xy hJ hJ0 ((ge ((ge gf.hyps k).text) 1)) (((ge ts (ge al k).toNat)).drop 1) (.inl rfl) hk hx (hl.D 0 51 rfl rfl) (hl.D 4 55 rfl rfl) (hl.D 6 57 rfl rfl)) fun v w' ⟨_,hp⟩=>⟨g,rfl,fun _ _=>rfl,fun e=>(by cases e),hp⟩⟩
    clear a w h
    intro _
    dsimp only[List.map]
    refine nx (YR tb hJ [0,1,2,3,4,5,6,1001] [.int (k+1:Nat),_] [0] [_,_,_,_,_,_,_,_] rfl ⟨YN,trivial⟩ ?_)
    exact Xf (k+1,Xu Mb ((ge ((ge gf.hyps k).text) 1)) (((ge ts (ge al k).toNat)).drop 1)) [0,1,2,3,4,5,6,7] ⟨oz,by first | (rw[gvM,if_neg (by simp[hb2]),←f1_2];done) | (rw[gvM,if_pos hb2,←f1_2,e0]),ZY f1_3 (by first | (simp[Zda,hb2];done) | (simp only[Zda,Nat.zero_add,e0];simpa [hb2]using hb3))⟩
 ·
  try simp at hb1
  have e6:Mb=gvM gf.hyps (YD ts al) gf.hyps.length:=by rw[f1_2,show k=gf.hyps.length by omega]
  refine Zu (nx (Zh (ZK tb hJ [0,1,2,3,4,1001,1002,1003] [_,_,.int (gf.hyps.length:Nat),_] [2] [_,_,_,_,_,_,_,_] rfl ⟨Ym ZB,trivial⟩ ?_)))
  refine Ze (lpo (ι:=Nat) (fun k=>(k≤gf.hyps.length)∧(∀ j,j<k→ZqF gf.hyps (gvM gf.hyps (YD ts al) gf.hyps.length) (YD ts al) j=true)) (fun _=>[OB.map keyS (fun z':List BA=>AV.rd (Zb z')) m1 Mb]) (fun k=>[(62,.int (k:Nat))]) (fun k=>gf.hyps.length-k) [0,1,2,3,4,5,6,7] [_,_,_,_,_,_,_] 0 ⟨nzl,fun j hj=>by omega⟩ ?_)
  rintro k ⟨f2_1,f2_2⟩
  refine qso tb hJ [0,1,2,3,4,5,6,7,1000] [_] [_,_,_,_,_,_,_,_,_] ?_
  refine cjS 8 (fun hb4=>?_) fun hb4=>?_
  ·
   try simp at hb4
   have e0:ge (YD ts al) k=(ge ts (ge al k).toNat):=Zel oz
   have e1:=hal k oz
   refine Zc (nx (Zh (Ze (tsq (snK 1 tb (env':=[(64,_),(9,_),(0,_),(2,_),(3,_),(5,_),(60,_),(61,_),(62,_),(63,_)]) rfl (sy (.ptr (hyC (ge gf.hyps k))) (fun h=>ZU (i:=((k:Nat):Int)) ZG rfl (h.get 6 rfl) (h.get 8 rfl) nnn (Z0 (xs:=gf.hyps) (k:=k) (by first | omega | (simp;omega) | grind[Zg])) rfl h.x) ?_))))))
   refine snK 1 tb (env':=[(66,_),(65,_),(64,_),(9,_),(0,_),(2,_),(3,_),(5,_),(60,_),(61,_),(62,_),(63,_)]) rfl (ZA Yr hJ rfl rfl rfl (lb rfl) fun b3=>?_)
   refine snK 1 tb (env':=[(13,_),(14,_),(66,_),(65,_),(64,_),(9,_),(0,_),(2,_),(3,_),(5,_),(60,_),(61,_),(62,_),(63,_)]) rfl (Zt (b:=b3) (off:=0) (es:=[_,_,_]) (news:=[_,_,_]) hJ hJ0 YI rfl rfl rfl (lb rfl) rfl (fun a w h=>⟨(h.get 1 rfl),(h.get 2 rfl)⟩) ?_)
   refine kw (fun h=>ZM hS h (m:=1) (s:=14) rfl) (seK [0,1,5,6,7,8,9,10,11,12] [_,_,_,_,_,_,_,_,_,_] rfl ?_)
   refine nx (ZK tb hJ [0,2,3,4,5,6,7,8,9,1003,1007,1013,1018] [_,_,_,_,_,_,_,_,_,_,.ptr [.lit (.int .i64 (ge al k))],_,.ptr [Zb ((ge ts (ge al k).toNat))],_,.tup [.bool ((Xt gf.hyps Mb ((ge gf.hyps k).text) ((ge ts (ge al k).toNat))).1),.bool ((Xt gf.hyps Mb ((ge gf.hyps k).text) ((ge ts (ge al k).toNat))).2)],_,_,_,_,_] [10,12,14] [_,_,_,_,_,_,_,_,_,_,_,_,_] rfl ⟨iIx ZC,iIz Yh,fun _ _ hk hx hl _=>YX (ZfV hJ m1 Mb gf ((ge gf.hyps k).text) ((ge ts (ge al k).toNat)) (by exact hfl)) Zjm rfl (Zm hS _ hk hx) (hx.1) (ZF (Zf hx (mo 0 rfl)) Zq) (Za (hl.D 0 68 rfl rfl) (Za (hl.D 1 69 rfl rfl) (Za (hl.D 3 71 rfl rfl) (Za (hl.D 13 81 rfl rfl) Zd)))) (jo hJ hx),trivial⟩ ?_)
   refine ln 9 fun hl6=>?_
   refine ln 10 fun hl7=>?_
   refine ln 11 fun hl8=>?_
   refine qso tb hJ [1,2,3,4,5,6,7,8,1006] [_,_,_,_,_,_,_] [_,_,_,_,_,_,_,_,_] ?_
   refine cj 8 (fun hb5=>?_) fun hb5=>?_
   ·
    have e7:ZqF gf.hyps (gvM gf.hyps (YD ts al) gf.hyps.length) (YD ts al) k=false:=by simp only[ZqF,e0];rw[←e6];cases h9:(ge gf.hyps k).floating<;>simp_all
    have eU:ZeB (⟨d,i,ss,ts,[]⟩:Jb) gf al step=false:=Zul (j:=(⟨d,i,ss,ts,[]⟩:Jb)) oz e7
    refine qso tb hJ [1000] [_] [_] ?_
    exact tRo 0 (hE:=eB (by first | (rw[eU];done) | (rw[eU,e6])))
   ·
    refine Zc (nx (YR tb hJ [0,1,2,3,4,5,6,1001] [.int (k+1:Nat),_] [0] [_,_,_,_,_,_,_,_] rfl ⟨YN,trivial⟩ ?_))
    exact Xf (k+1) [0,1,2,3,4,5,6,7] ⟨oz,ZY f2_2 (by simp only[ZqF,e0];rw[←e6];cases h9:(ge gf.hyps k).floating<;>simp_all)⟩
  ·
   try simp at hb4
   refine Zu (nx (Zh (ZK tb hJ [0,1,4,1003,1007,1010,1015] [_,_,_,_,_,_,_,_,_,.ptr [Zb (ge ts step)],_,.tup [.bool ((Xt gf.hyps Mb gf.text (ge ts step)).1),.bool ((Xt gf.hyps Mb gf.text (ge ts step)).2)],_,_,_,_,_] [9,11] [_,_,_,_,_,_,_] rfl ⟨iIx Yh,fun _ _ hk hx hl _=>YX (ZfV hJ m1 Mb gf gf.text (ge ts step) (by exact hfl)) Zjm rfl (Zm hS _ hk hx) (hx.1) (ZF (Zf hx (mo 0 rfl)) Zq) (Za (hl.D 0 94 rfl rfl) (Za (hl.D 1 95 rfl rfl) (Za (hl.D 3 97 rfl rfl) (Za (hl.D 10 104 rfl rfl) Zd)))) (jo hJ hx),trivial⟩ ?_)))
   refine ln 3 fun hl9=>?_
   refine ln 4 fun hl10=>?_
   refine ln 5 fun hl11=>?_
   refine qso tb hJ [0,1,2,1001] [_,_] [_,_,_,_] ?_
   refine cj 3 (fun hb6=>?_) fun hb6=>?_
   ·
    try simp at hb6
    have eU:ZeB (⟨d,i,ss,ts,[]⟩:Jb) gf al step=false:=Zum (j:=(⟨d,i,ss,ts,[]⟩:Jb)) (by show(Xt gf.hyps (gvM gf.hyps (YD ts al) gf.hyps.length) gf.text (ge ts step)).1=false;rw[←e6];exact hb6)
    refine qso tb hJ [1000] [_] [_] ?_
    exact tRo 0 (hE:=eB (by first | (rw[eU];done) | (rw[eU,e6])))
   ·
    try simp at hb6
    have eU:ZeB (⟨d,i,ss,ts,[]⟩:Jb) gf al step= !ZeO (YO (gvM gf.hyps (YD ts al) gf.hyps.length)) gf.apart d.vars (ge d.frames i).wide:=gvx_ok (j:=(⟨d,i,ss,ts,[]⟩:Jb)) (fun q hq=>f1_3 q oz) (fun q hq=>f2_2 q oz) (by show(Xt gf.hyps (gvM gf.hyps (YD ts al) gf.hyps.length) gf.text (ge ts step)).1=true;rw[←e6];exact hb6)
    refine Zc (nx (Zh (fun a w h=>Qu [] (γ:=Value×Nat) (fun ix'=>([.lit (.map (some m1)),.rd (ZfC (YO Mb)),.ptr [XS gf.apart,Zb gf.text,XC gf.dummies,XS gf.wide,Zb gf.proof],.rd (XS gf.apart),.ptr [Zb d.consts,Zb d.vars,Yq d.frames,.lit (.int .i64 (((i:Nat):Int))),ZQ ss,Zo ts,.lit (.int .i64 ((((ZH ss):Nat):Int))),.lit (.map (some M))],.ptr [Zb d.consts,Zb d.vars,Yq d.frames,.lit (.int .i64 (((i:Nat):Int))),ZQ ss,Zo ts,.lit (.int .i64 ((((ZH ss):Nat):Int))),.lit (.map (some M))],.ptr [Zb d.consts,Zb d.vars,Yq d.frames,.lit (.int .i64 (((i:Nat):Int))),ZQ ss,Zo ts,.lit (.int .i64 ((((ZH ss):Nat):Int))),.lit (.map (some M))],.ptr [Zb d.vars,Yq d.frames,.lit (.int .i64 (((i:Nat):Int))),ZQ ss,Zo ts,.lit (.int .i64 ((((ZH ss):Nat):Int))),.lit (.map (some M))],.rd (Zb d.vars),.ptr [Zb d.consts,Zb d.vars,Yq d.frames,.lit (.int .i64 (((i:Nat):Int))),ZQ ss,Zo ts,.lit (.int .i64 ((((ZH ss):Nat):Int))),.lit (.map (some M))],.ptr [Zb d.consts,Zb d.vars,Yq d.frames,.lit (.int .i64 (((i:Nat):Int))),ZQ ss,Zo ts,.lit (.int .i64 ((((ZH ss):Nat):Int))),.lit (.map (some M))],.ptr [Zb d.consts,Zb d.vars,Yq d.frames,.lit (.int .i64 (((i:Nat):Int))),ZQ ss,Zo ts,.lit (.int .i64 ((((ZH ss):Nat):Int))),.lit (.map (some M))],.ptr [Yq d.frames,.lit (.int .i64 (((i:Nat):Int))),ZQ ss,Zo ts,.lit (.int .i64 ((((ZH ss):Nat):Int))),.lit (.map (some M))],.rd (Yq d.frames),.ptr [Zb d.consts,Zb d.vars,Yq d.frames,.lit (.int .i64 (((i:Nat):Int))),ZQ ss,Zo ts,.lit (.int .i64 ((((ZH ss):Nat):Int))),.lit (.map (some M))],.ptr [Zb d.consts,Zb d.vars,Yq d.frames,.lit (.int .i64 (((i:Nat):Int))),ZQ ss,Zo ts,.lit (.int .i64 ((((ZH ss):Nat):Int))),.lit (.map (some M))],.ptr [.lit (.int .i64 (((i:Nat):Int))),ZQ ss,Zo ts,.lit (.int .i64 ((((ZH ss):Nat):Int))),.lit (.map (some M))],.int (i:Nat),.ptr (frC (ge d.frames i)),.ptr [XS ((ge d.frames i).wide),Zb ((ge d.frames i).proof)],.rd (XS ((ge d.frames i).wide)),.tup [.agg (prC ((Zh6 (YO Mb) gf.apart d.vars ((ge d.frames i).wide)))),.bool (ZeO (YO Mb) gf.apart d.vars ((ge d.frames i).wide))],.tup [.agg (prC ((Zh6 (YO Mb) gf.apart d.vars ((ge d.frames i).wide)))),.bool (ZeO (YO Mb) gf.apart d.vars ((ge d.frames i).wide))],.agg (prC ((Zh6 (YO Mb) gf.apart d.vars ((ge d.frames i).wide)))),.bool (ZeO (YO Mb) gf.apart d.vars ((ge d.frames i).wide)),.any,.any,.bool (ZeO (YO Mb) gf.apart d.vars ((ge d.frames i).wide))]:List AV).getD ix' .any) (fun _=>true) [(20,fun _=>.bool (ZeO (YO Mb) gf.apart d.vars ((ge d.frames i).wide)))] (fun(b:List Bool) (g:Value×Nat)=>(bif b.getD 2 false then [OB.var g.2 (prC (((Zh6 (YO Mb) gf.apart d.vars ((ge d.frames i).wide)))))]else(bif b.getD 1 false then [OB.var g.2 [.lit (.string (⟨#[]⟩:BA)),.lit (.string (⟨#[]⟩:BA))]]else []))++([OB.map keyS (fun z':List BA=>AV.rd (Zb z')) m1 Mb]++([]))) (fun k' g=>match k' with | 0=>g.1 | 1=>(.pointer (some ⟨g.2,0,none⟩)) | _=>undef) [1,25,26] (undef,0) (fun _=>rfl) h hJ Yk rfl rfl rfl rfl (fun b g p hp=>(List.mem_append_right _ (List.mem_append_right _ hp))) ⟨?_,?_,?_,?_,?_,?_,?_,?_,?_,?_,?_,?_,?_,?_,?_,?_,?_,?_,?_,?_,?_,?_,?_,?_,?_,?_,?_,?_,trivial⟩ ⟨?e21_2_0,?e21_2_1,?e21_2_2,trivial⟩ ⟨.new 27 20 _,trivial⟩ ?n21_2)))
    exact oX rfl fun hx hl=>ZW rfl (hl.env 0 9 _ rfl rfl) hx
    exact Zi rfl
    exact oX rfl fun hx hl=>ZE Zfo rfl (hl.env 2 5 _ rfl rfl) hx
    exact oX rfl fun hx hl=>Zz Zks rfl (hl.D 2 113 rfl rfl) hx
    exact oX rfl fun hx hl=>ZW rfl (hl.env 1 0 _ rfl rfl) hx
    exact oX rfl fun hx hl=>Yy rfl (hl.D 4 115 rfl rfl) hx
    exact oX rfl fun hx hl=>ZE Zfm rfl (hl.D 5 116 rfl rfl) hx
    exact oX rfl fun hx hl=>ZE Zfs rfl (hl.D 6 117 rfl rfl) hx
    exact oX rfl fun hx hl=>Zz Qg rfl (hl.D 7 118 rfl rfl) hx
    exact oX rfl fun hx hl=>ZW rfl (hl.env 1 0 _ rfl rfl) hx
    exact oX rfl fun hx hl=>Yy rfl (hl.D 9 120 rfl rfl) hx
    exact oX rfl fun hx hl=>ZE Zfm rfl (hl.D 10 121 rfl rfl) hx
    exact oX rfl fun hx hl=>ZE Zau rfl (hl.D 11 122 rfl rfl) hx
    exact oX rfl fun hx hl=>Zz Zho rfl (hl.D 12 123 rfl rfl) hx
    exact oX rfl fun hx hl=>ZW rfl (hl.env 1 0 _ rfl rfl) hx
    exact oX rfl fun hx hl=>Yy rfl (hl.D 14 125 rfl rfl) hx
    exact oX rfl fun hx hl=>ZE Zl7 rfl (hl.D 15 126 rfl rfl) hx
    exact oX rfl fun hx hl=>Zz Zcv rfl (hl.D 16 127 rfl rfl) hx
    exact oX rfl fun hx hl=>ZU (i:=((i:Nat):Int)) YH rfl (hl.D 13 124 rfl rfl) (hl.D 17 128 rfl rfl) nnn (Z0 (xs:=d.frames) (k:=i) (by first | omega | (simp;omega) | grind[Zg])) rfl hx
    exact oX rfl fun hx hl=>ZE Zfn rfl (hl.D 18 129 rfl rfl) hx
    exact oX rfl fun hx hl=>Zz Zks rfl (hl.D 19 130 rfl rfl) hx
    exact oY rfl fun hk hx hl=>Zbj (Zkp hJ (YO Mb) gf.apart d.vars ((ge d.frames i).wide) (by rw[e6];exact ZnN (p:=fun t=>t.length≤2000) fun q hq=>(hgm _ nlr q hq).1) (by exact hwd)) ZoR rfl (Zm hS _ hk hx) (hx.1) (Za (hl.D 1 112 rfl rfl) (Za (hl.D 3 114 rfl rfl) (Za (hl.D 8 119 rfl rfl) (Za (hl.D 20 131 rfl rfl) Zd)))) (jo hJ hx)
    exact oX rfl fun hx hl=>ZW rfl (hl.D 21 132 rfl rfl) hx
    exact oX rfl fun hx hl=>Yo rfl (hl.D 22 110 rfl rfl) rfl hx
    exact oX rfl fun hx hl=>Yo rfl (hl.D 22 110 rfl rfl) rfl hx
    exact Zi rfl
    exact Zi rfl
    exact oX rfl fun hx hl=>YK rfl (hl.D 24 134 rfl rfl) hx
    case e21_2_0=>exact ZeL [[false,false,false],[false,true,false]] (by kernel_rfl) rfl rfl rfl rfl ⟨fun g _ w hk hx hl hs=>Zk (ZsW (O:=[OB.map keyS (fun z':List BA=>AV.rd (Zb z')) m1 Mb]) (R:=[]) (Znm hJ m1 Mb (by rw[e6];exact Zgf _) (by rw[e6];exact hgz _ nlr) (by have:=Zod (hs:=gf.hyps) (es:=(YD ts al)) gf.hyps.length;rw[e6];omega)) Zjl rfl hS hJ0 Zq hk hx (Za (hl.D 0 111 rfl rfl) Zd)) fun v w' ⟨i,hp,hv⟩=>⟨(v,g.2),(fun k' hk'=>by rcases k' with _ | _ | _ | k'<;>first | rfl | cases hk'),fun _=>rfl,hv,hp⟩,fun g _ w hk hx hl hs=>Zk (ZsW (O:=[OB.map keyS (fun z':List BA=>AV.rd (Zb z')) m1 Mb]) (R:=[OB.var g.2 [.lit (.string (⟨#[]⟩:BA)),.lit (.string (⟨#[]⟩:BA))]]) (Znm hJ m1 Mb (by rw[e6];exact Zgf _) (by rw[e6];exact hgz _ nlr) (by have:=Zod (hs:=gf.hyps) (es:=(YD ts al)) gf.hyps.length;rw[e6];omega)) Zjl rfl hS hJ0 Zq hk (Yw (Yp (A:=[OB.var g.2 [.lit (.string (⟨#[]⟩:BA)),.lit (.string (⟨#[]⟩:BA))]])) hx) (Zg4 (Yp (A:=[OB.var g.2 [.lit (.string (⟨#[]⟩:BA)),.lit (.string (⟨#[]⟩:BA))]])) (Za (hl.D 0 111 rfl rfl) Zd))) fun v w' ⟨i,hp,hv⟩=>⟨(v,g.2),(fun k' hk'=>by rcases k' with _ | _ | _ | k'<;>first | rfl | cases hk'),fun _=>rfl,(hv.sub fun _ _ hs=>hs.perm (Yp (A:=[OB.var g.2 [.lit (.string (⟨#[]⟩:BA)),.lit (.string (⟨#[]⟩:BA))]])).symm),Xd (Yp (A:=[OB.var g.2 [.lit (.string (⟨#[]⟩:BA)),.lit (.string (⟨#[]⟩:BA))]])).symm (Yp (A:=[OB.var g.2 [.lit (.string (⟨#[]⟩:BA)),.lit (.string (⟨#[]⟩:BA))]])).symm hp⟩,trivial⟩
    case e21_2_1=>exact ZeL [[false,false,false],[true,false,false]] (by kernel_rfl) rfl rfl rfl rfl ⟨fun g _ w hk hx _ _=>Zk (Xs XM hJ rfl hk hx) fun v w' ⟨b',hv,hp⟩=>⟨(g.1,b'),(fun k' hk'=>by rcases k' with _ | _ | _ | k'<;>first | rfl | cases hk'),fun _=>hv,True.intro,hp⟩,fun g _ w hk hx _ _=>Zk (Xs XM hJ rfl hk hx) fun v w' ⟨b',hv,hp⟩=>⟨(g.1,b'),(fun k' hk'=>by rcases k' with _ | _ | _ | k'<;>first | rfl | cases hk'),fun _=>hv,True.intro,hp⟩,trivial⟩
    case e21_2_2=>exact ZeL [[true,true,false]] (by kernel_rfl) rfl rfl rfl rfl ⟨fun g a w hk hx hl hs=>(by obtain⟨us2,hv2,hr3⟩:=X6 (hl.D 23 133 rfl rfl);exact Zk (Y3 (S':=S) (off:=0) (news:=[_,_]) (es:=[_,_]) (us:=us2) hJ hJ0 Y6 rfl hk hx (ZaY (hs 1 25 _ 19 rfl rfl rfl rfl)) (by rw[hv2];rfl) hr3 (lb rfl) rfl) fun v w' hp=>⟨g,fun _ _=>rfl,fun e=>(by cases e),True.intro,hp⟩),trivial⟩
    clear a w h
    rintro⟨x4,b5⟩
    dsimp only[List.map]
    refine kw ZJ (nx (qso tb hJ [1002] [_,_,_] [_] ?_))
    exact tRo 0 (hE:=eB (by first | (rw[eU];done) | (rw[eU,e6])))
end Go.Proofs.YtdfadihhfppjaaaGreatDoor
namespace Go.Proofs.YtdfadihhfppjaaaGreatDoor
open Go.RowKit
section
variable {n:Rn} {P:Program} {l:List Oper} {Q:Exit→Act→WP}
variable {N:Nat} {J:WP} {S:Nat→Prop} {O:List OB} {w0:World} {env:List (Nat×AV)} {avs:Nat→AV} {conds:Nat→Bool} {T:Array Value} {γ:Type}
theorem RInv.wanted {K S1 S:Nat→Prop} {X:WP} {b:Nat→Bool} {a:Act} {w:World} (h:RInv K S1 S w0 N env X l avs conds T b a w) (hN:Zab l N=true) {i:Nat} {o:Oper} (hd:∀ j∈ZL o,b j=true) (hg:QQ l avs conds i o) (hc:conds i=true):Region.wanted o (yielded l.toArray a.tmps)=true:=by
 unfold Region.wanted
 unfold QQ at hg
 split
 · rfl
 · rename_i j pol hgd
   rw[hgd]at hg
   obtain⟨g,p,d,hj,hpd,hav,hcj,hdep⟩:=hg
   rw[hc]at hcj
   have hcj':conds j=true∧(g==pol)=true:=by simpa using hcj.symm
   have hjd:j∈ZL o:=by simpa using hdep
   have hrel:=h.new j p d hj hpd (hd j hjd) hcj'.1
   rw[hav]at hrel
   have hval:=hrel.lit
   have hlt:d<a.tmps.size:=by rw[h.size];exact Z2 hN hj hpd
   have hget:a.tmps[d]?=some (.bool g):=by
    rw[Array.getD_eq_getD_getElem?,Array.getElem?_eq_getElem hlt]at hval
    rw[Array.getElem?_eq_getElem hlt];simpa using hval
   have hgp:g=pol:=by simpa using hcj'.2
   simp only[yielded,List.getElem?_toArray,hj,Option.bind_some,hpd,hget,hgp]
   simp
def EffY {μ:Type} (pv:μ→Value) (O3:μ→List OB) (n:Rn) (P:Program) (J:WP) (S:Nat→Prop) (w0:World) (env:List (Nat×AV)) (l:List Oper) (avs:Nat→AV) (conds:Nat→Bool) (Stg:(Nat→Bool)→γ→List OB) (sv:Nat→γ→Value) (ch:List Nat) (k i:Nat):Prop:=
 ∃ o,l[i]?=some o∧QQ l avs conds i o∧conds i=true∧
  ∀ D g a w,D k=false→(∀ k' i',ch[k']?=some i'→Zag l l.length i i'=true→D k'=true)→(∀ k1 k2 i1 i2,ch[k1]?=some i1→ch[k2]?=some i2→D k1=true→Zag l l.length i1 i2=true→D k2=true)→
   Keeps All w0 w→XO J S w0.heap.size (Stg D g) w→Look (SO S (Stg D g)) w env l avs conds i a→(∀(k' i':Nat) (o':Oper) (d:Nat),D k'=true→ch[k']?=some i'→l[i']?=some o'→o'.dst=some d→a.eval (.tmp d)=sv k' g)→
   ZgJ n P o a w (fun v w'=>∃ g',(∀ k',D k'=true→sv k' g'=sv k' g)∧(o.dst.isSome=true→v=sv k g')∧Rel (SO S (Stg (Zc6 D k) g')) w' (avs i) v∧QS J S w0 (Stg D g) w (Stg (Zc6 D k) g') w') (fun c w'=>∃ q,c=pch (pv q)∧QS J S w0 (Stg D g) w (O3 q) w')
theorem ZpK {μ:Type} (pv:μ→Value) (O3:μ→List OB) (Or:List OB) {id:Nat} {draw:Bool} {a:Act} {w:World} (avs:Nat→AV) (conds:Nat→Bool) (env':List (Nat×(γ→AV))) (Stg:(Nat→Bool)→γ→List OB) (sv:Nat→γ→Value) (ch:List Nat) (g0:γ) (h0:∀ g,Stg (fun _=>false) g=O)
 (h:So J S w0 N O env a w) (hJ:Stab J) (hm:P.follows .mixedOrders=true) (hu:Y4 l=true) (hN:Zab l N=true) (hback:Zbe l=true) (hnd:Zfc ch=true)
 (hsub:∀ D g p,p∈Or→p∈Stg D g) (ob:Obs (ObP n P J S Or w0 env l avs conds ch) 0 l) (eff:Effs (EffY pv O3 n P J S w0 env l avs conds Stg sv ch) 0 ch) (hf:FromGs env l avs conds sv ch env')
 (pan:∀ q a w,So J S w0 N (O3 q) [] a w→Q (.panic (pch (pv q))) a w)
 (hq:∀ g a w,So J S w0 N (Stg (fun k=>decide (k<ch.length)) g) (env'.map fun p=>(p.1,p.2 g)) a w→Q .normal a w):(Code.region id l.toArray draw).wpIn n.F n.d P Q a w:=by
 have start:∀ w',Keeps All w w'→DInv J S w0 N env l avs conds a.tmps Stg sv ch (fun _=>false) g0 (fun _=>false) a w':=fun w' hk=>
  ⟨by
   rw[h0]
   exact⟨h.defs,h.size,h.keep.trans hk,Yn hJ _ _ hk h.x,fun _ _=>rfl,fun _ _ _ _ _ e _=>(by cases e),fun _ _ _ _ _ e _=>(by cases e),fun _ _ _ e=>(by cases e),fun _ h=>h,fun p hp=>⟨(h.env p hp).1,(h.env p hp).2.on hk⟩⟩,
   fun _ _ _=>rfl,fun _ _=>rfl,fun _ _ _ _ hk=>by cases hk⟩
 have hnodup:∀(k k' i:Nat),ch[k]?=some i→ch[k']?=some i→k=k':=fun k k' i h1 h2=>by
  have g1:=List.all_eq_true.1 hnd (i,k) (by rw[List.mem_zipIdx_iff_getElem?];simpa using h1)
  have g2:=List.all_eq_true.1 g1 (i,k') (by rw[List.mem_zipIdx_iff_getElem?];simpa using h2)
  simpa using g2
 refine Zm6 (Pn:=fun c a' w'=>∃ q,c=pch (pv q)∧So J S w0 N (O3 q) [] a' w') (I:=fun b a' w'=>∃ D g,DInv J S w0 N env l avs conds a.tmps Stg sv ch D g b a' w') (fun c a' w' ⟨q,hc,hs⟩=>hc▸pan q a' w' hs) hm hback ?_ ?_ ⟨_,g0,start w (Keeps.refl _ _)⟩ ⟨_,g0,start _ (Keeps.refl _ _).drew⟩
 · rintro Q hP b a1 w1 i o rest hi hb hd ⟨D,g,hg⟩ hK
   by_cases hin:∃ k:Nat,ch[k]?=some i
   · obtain⟨k,hk⟩:=hin
     obtain⟨o',ho',hgd,hc,hob⟩:=eff.get k i hk
     rw[hi]at ho';cases ho'
     simp only[Nat.zero_add]at hob
     refine wpListIn_step fun K' hKr=>?_
     rw[if_pos (hg.inv.wanted hN hd hgd hc)]
     refine hob D g a1 w1 (by rw[←hg.done k i hk];exact hb) (fun k' i' hk' hun=>?_) (fun k1 k2 i1 i2 h1 h2 hD hun=>?_) hg.inv.keep hg.inv.x (hg.inv.look hi hb hd) (fun k' i' o' d hk' hi' hl' hd'=>hg.slot k' i' o' d hk' hi' hl' hd') K' Q (fun u w2 ⟨g',e2,e3,e4,hs⟩=>?_) (fun c w2 ⟨q,hc,hs⟩=>hP c a1 w2 ⟨q,hc,hg.inv.defs,hg.inv.size,hs.1,hs.2.1,fun p hp=>by cases hp⟩)
     · rw[←hg.done k' i' hk']
       exact X4 hg.inv.closed _ i _ o hi hd hun
     · rw[←hg.done k2 i2 h2]
       rw[←hg.done k1 i1 h1]at hD
       cases hl:l[i1]? with
       | none=>
        have:∀ f,Zag l f i1 i2=false:=fun f=>by cases f<;>simp[Zag,hl]
        rw[this]at hun;cases hun
       | some p=>exact X4 hg.inv.closed _ _ _ p hl (hg.inv.closed _ p hl hD) hun
     refine hKr _ _ (hK _ _ ⟨Zc6 D k,g',hg.inv.step3 hu hN hi hd u hs.1 hs.2.2 hs.2.1 hc e4,fun k' i' hk'=>?_,fun k' hk'=>?_,fun k' i' o' d hk' hi' hl' hd'=>?_⟩)
     · by_cases e:i'=i
       · subst e
         have:=hnodup k' k i' hk' hk
         subst this
         simp[Yd,Zc6]
       · simp only[Yd,if_neg e]
         rw[hg.done k' i' hk']
         have:k'≠k:=fun e'=>by subst e';rw[hk]at hk';cases hk';exact e rfl
         simp[Zc6,this]
     · have hkl:k<ch.length:=(List.getElem?_eq_some_iff.1 hk).1
       have:k'≠k:=by omega
       simp[Zc6,this,hg.out k' hk']
     · by_cases e:k'=k
       · subst e
         rw[hk]at hi';cases hi'
         rw[hi]at hl';cases hl'
         rw[hd',Xx _ _ _ (by rw[hg.inv.size];exact Z2 hN hi hd')]
         exact e3 (by simp[hd'])
       · have hne:i'≠i:=fun e'=>e (by subst e';exact hnodup k' k i' hi' hk)
         have hk'':D k'=true:=by simpa [Zc6,e]using hk'
         rw[Yv _ _ _ _ (fun e'=>hne (Z9 hu hl' hi hd' e'))]
         rw[hg.slot k' i' o' d hk'' hi' hl' hd',e2 k' hk'']
   · have hnin:ch.contains i=false:=by
      simp only[List.contains_eq_mem,decide_eq_false_iff_not]
      intro hmem
      obtain⟨k,hk,he⟩:=List.getElem_of_mem hmem
      exact hin ⟨k,by rw[List.getElem?_eq_getElem hk,he]⟩
     have hobi:=Za2 l 0 ob i o hi
     rw[Nat.zero_add]at hobi
     refine hg.inv.does2 hu hN hi hb hd (hobi hnin _ (hsub D g)) fun a' w' h' hsl=>hK _ _ ⟨D,g,h',fun k' i' hk'=>?_,hg.out,fun k' i' o' d hk' hi' hl' hd'=>?_⟩
     · have:i'≠i:=fun e=>hin ⟨k',e▸hk'⟩
       simp only[Yd,if_neg this]
       exact hg.done k' i' hk'
     · have hne:i'≠i:=fun e=>hin ⟨k',e▸hi'⟩
       rw[hsl d (fun e'=>hne (Z9 hu hl' hi hd' e'))]
       exact hg.slot k' i' o' d hk' hi' hl' hd'
 · rintro a1 w1 ⟨D,g,hg⟩
   have hall:∀ k,k<ch.length→D k=true:=fun k hk=>by
    have hget:ch[k]?=some (ch[k]'hk):=List.getElem?_eq_getElem _
    obtain⟨o',ho',_⟩:=eff.get k _ hget
    have hb:=hg.done k _ hget
    have hlt2:ch[k]<l.length:=(List.getElem?_eq_some_iff.1 ho').1
    simpa [hlt2]using hb.symm
   have hD:D=fun k=>decide (k<ch.length):=by
    funext k
    by_cases hk:k<ch.length
    · rw[hall k hk];simp[hk]
    · rw[hg.out k oz];simp[hk]
   subst hD
   refine hq g a1 w1 ⟨hg.inv.defs,hg.inv.size,hg.inv.keep,hg.inv.x,fun p hp=>?_⟩
   obtain⟨q,hq',rfl⟩:=List.mem_map.1 hp
   cases hf.mem q hq' with
   | old m s av he hn=>
    have h1:=hg.inv.env (s,av) (List.mem_of_getElem? he)
    refine⟨h1.1,?_⟩
    show Rel _ w1 av (a1.tmps.getD s undef)
    rw[hg.inv.old s fun i o hi ho=>by
     have:=List.all_eq_true.1 hn o (List.mem_of_getElem? hi)
     simp[ho]at this]
    exact h1.2
   | new i s av hs hc he=>
    cases hi:l[i]? with
    | none=>rw[hi]at hs;cases hs
    | some o=>
     rw[hi]at hs
     have hs':o.dst=some s:=hs
     have hlt:i<l.length:=(List.getElem?_eq_some_iff.1 hi).1
     refine⟨Z2 hN hi hs',?_⟩
     have hr:=hg.inv.new i o s hi hs' (by simpa using hlt) hc
     rw[he]at hr
     exact hr
   | eff k i s f hk hs hf ho=>
    cases hi:l[i]? with
    | none=>rw[hi]at hs;cases hs
    | some o=>
     rw[hi]at hs
     have hs':o.dst=some s:=hs
     refine⟨Z2 hN hi hs',?_⟩
     have hr:=hg.slot k i o s (by simpa using(List.getElem?_eq_some_iff.1 hk).1) hk hi hs'
     simp only
     rw[hr,hf]
     exact Rel.of_lit _ (ho g)
theorem Zfv {o:Oper} {a:Act} {w:World} {p p':Value→WP} {f f':List PanicEntry→WP} (h:ZgJ n P o a w p f) (h1:∀ v w',p v w'→p' v w') (h2:∀ c w',f c w'→f' c w'):ZgJ n P o a w p' f':=fun K Q hK hF=>h K Q (fun v w' hp=>hK v w' (h1 v w' hp)) fun c w' hf=>hF c w' (h2 c w' hf)
def EffZ {μ:Type} (pv:μ→Value) (O3:μ→List OB) (n:Rn) (P:Program) (J:WP) (S:Nat→Prop) (w0:World) (env:List (Nat×AV)) (l:List Oper) (avs:Nat→AV) (conds:Nat→Bool) (F:List Bool→γ→List OB) (sv:Nat→γ→Value) (ch:List Nat) (k i:Nat):Prop:=
 EffY pv O3 n P J S w0 env l avs conds (fun D g=>F ((List.range ch.length).map D) g) (fun k' g=>if k'<ch.length then sv k' g else undef) ch k i
theorem effZ {μ:Type} {pv:μ→Value} {O3:μ→List OB} {F:List Bool→γ→List OB} {sv:Nat→γ→Value} {ch:List Nat} {k i:Nat} {o:Oper} (cs:List (List Bool)) (hcs:ZkR l ch k=cs) (hki:ch[k]?=some i) (ho:l[i]?=some o) (hg:QQ l avs conds i o) (hc:conds i=true)
 (core:AllB (fun b=>∀ g a w,Keeps All w0 w→XO J S w0.heap.size (F b g) w→Look (SO S (F b g)) w env l avs conds i a→(∀(k' i':Nat) (o':Oper) (d:Nat),b.getD k' false=true→ch[k']?=some i'→l[i']?=some o'→o'.dst=some d→a.eval (.tmp d)=sv k' g)→
  ZgJ n P o a w (fun v w'=>∃ g',(∀ k',b.getD k' false=true→sv k' g'=sv k' g)∧(o.dst.isSome=true→v=sv k g')∧Rel (SO S (F (b.set k true) g')) w' (avs i) v∧QS J S w0 (F b g) w (F (b.set k true) g') w') (fun c w'=>∃ q,c=pch (pv q)∧QS J S w0 (F b g) w (O3 q) w')) cs):
 EffZ pv O3 n P J S w0 env l avs conds F sv ch k i:=by
 refine⟨o,ho,hg,hc,fun D g a w hD hpre hcl hk hx hl hs=>?_⟩
 have hkl:k<ch.length:=(List.getElem?_eq_some_iff.1 hki).1
 have hkv:ch[k]=i:=(List.getElem?_eq_some_iff.1 hki).2
 have hmem:(List.range ch.length).map D∈cs:=by
  rw[←hcs,ZkR,List.mem_filter]
  refine⟨Zjs D _,?_⟩
  simp only[Xi,Bool.and_eq_true,List.all_eq_true]
  refine⟨by simp[hD],fun p hp q hq=>?_⟩
  obtain⟨hp1,hp2⟩:=List.mem_zipIdx' hp
  obtain⟨hq1,hq2⟩:=List.mem_zipIdx' hq
  by_cases hu:Zag l l.length p.1 q.1=true
  · have e1:ch[p.2]?=some p.1:=by rw[List.getElem?_eq_getElem hp1,hp2]
    have e2:ch[q.2]?=some q.1:=by rw[List.getElem?_eq_getElem hq1,hq2]
    rw[hu]
    simp only[Bool.not_true,Bool.false_or,Bool.and_eq_true,Bool.or_eq_true,bne_iff_ne,ne_eq,hq1,decide_true,Bool.true_and,hp1]
    refine⟨?_,?_⟩
    · by_cases e:p.2=k
      · right
        rw[e,hki]at e1
        cases e1
        exact hpre q.2 q.1 e2 hu
      · exact .inl e
    · cases hd:D p.2 with
      | false=>exact .inl rfl
      | true=>exact .inr (hcl p.2 q.2 p.1 q.1 e1 e2 hd hu)
  · simp[hu]
 have hset:(List.range ch.length).map (Zc6 D k)=((List.range ch.length).map D).set k true:=by
  apply List.ext_getElem?
  intro j
  rw[List.getElem?_set]
  by_cases hj:j<ch.length
  · by_cases e:k=j
    · subst e;simp[hj,Zc6]
    · simp[hj,e,Zc6,Ne.symm (show k≠j from e)]
  · by_cases e:k=j
    · omega
    · simp[hj,e]
 have:=ZgD core hmem g a w hk hx hl fun k' i' o' d hb h1 h2 h3=>by
  rw[Xi]at hb
  simp only[Bool.and_eq_true,decide_eq_true_eq]at hb
  have:=hs k' i' o' d hb.2 h1 h2 h3
  have e:(if k'<ch.length then sv k' g else undef)=sv k' g:=if_pos hb.1
  rw[←e];exact this
 refine Zfv this (fun v w' ⟨g',e1,e2,e3,e4⟩=>⟨g',fun k' hk'=>?_,fun h=>by
  have e:(if k<ch.length then sv k g' else undef)=sv k g':=if_pos hkl
  show v=if k<ch.length then sv k g' else undef
  rw[e];exact e2 h,?_,?_⟩) (fun c w' h=>h)
 · by_cases hlt:k'<ch.length
   · show(if k'<ch.length then sv k' g' else undef)=if k'<ch.length then sv k' g else undef
     rw[if_pos hlt,if_pos hlt]
     exact e1 k' (by rw[Xi];simp[hlt,hk'])
   · show(if k'<ch.length then sv k' g' else undef)=if k'<ch.length then sv k' g else undef
     rw[if_neg hlt,if_neg hlt]
 · show Rel (SO S (F ((List.range ch.length).map (Zc6 D k)) g')) w' (avs i) v
   rw[hset];exact e3
 · show QS J S w0 (F ((List.range ch.length).map D) g) w (F ((List.range ch.length).map (Zc6 D k)) g') w'
   rw[hset];exact e4
theorem Zj1 {μ:Type} (pv:μ→Value) (O3:μ→List OB) (Or:List OB) {id:Nat} {draw:Bool} {a:Act} {w:World} (avs:Nat→AV) (conds:Nat→Bool) (env':List (Nat×(γ→AV))) (F:List Bool→γ→List OB) (sv:Nat→γ→Value) (ch:List Nat) (g0:γ) (h0:∀ g,F (ch.map fun _=>false) g=O)
 (h:So J S w0 N O env a w) (hJ:Stab J) (hm:P.follows .mixedOrders=true) (hu:Y4 l=true) (hN:Zab l N=true) (hback:Zbe l=true) (hnd:Zfc ch=true)
 (hsub:∀ b g p,p∈Or→p∈F b g) (ob:Obs (ObP n P J S Or w0 env l avs conds ch) 0 l) (eff:Effs (EffZ pv O3 n P J S w0 env l avs conds F sv ch) 0 ch) (hf:FromGs env l avs conds (fun k' g=>if k'<ch.length then sv k' g else undef) ch env')
 (pan:∀ q a w,So J S w0 N (O3 q) [] a w→Q (.panic (pch (pv q))) a w)
 (hq:∀ g a w,So J S w0 N (F (ch.map fun _=>true) g) (env'.map fun p=>(p.1,p.2 g)) a w→Q .normal a w):(Code.region id l.toArray draw).wpIn n.F n.d P Q a w:=by
 refine ZpK pv O3 Or avs conds env' (fun D g=>F ((List.range ch.length).map D) g) (fun k' g=>if k'<ch.length then sv k' g else undef) ch g0 (fun g=>?_) h hJ hm hu hN hback hnd (fun D g p hp=>hsub _ g p hp) ob eff hf pan fun g a w h=>hq g a w ?_
 · rw[←h0 g]
   congr 1
   apply List.ext_getElem?
   intro j
   by_cases hj:j<ch.length<;>simp[hj]
 · have e:(List.range ch.length).map (fun k=>decide (k<ch.length))=ch.map fun _=>true:=by
    apply List.ext_getElem?
    intro j
    by_cases hj:j<ch.length<;>simp[hj]
   rw[←e]
   exact h
end
theorem Zj6 {S S':Nat→Prop} {w:World}:∀ {xs:List Int} {us:List Value},RdL S w (xs.map Xa).flatten us→RdL S' w (xs.map Xa).flatten us
 | [],[],_=>trivial
 | [],_::_,h=>h.elim
 | x::xs,[],h=>h.elim
 | x::xs,u::us,⟨h1,h2⟩=>⟨by cases h1 with | lit _ hv=>exact .lit _ hv,Zj6 (xs:=xs) h2⟩
section
variable {n:Rn} {P:Program} {J:WP} {S:Nat→Prop} {O:List OB} {w0 w:World} {o:Oper} {a:Act} {f:FuncId} {args:List Operand} {ts:Array TypeId} {avs:List AV}
theorem r_fnB {b:Bool} (hF:Fn P J f avs (.bool b)) (h1:Zj P f) (hop:o.op= .call { callee:=.value (.func f),args:=args.toArray,argTypes:=ts }) (hS:∀ b,w0.heap.size≤b→S b) (hJ:Stab J) (hk:Keeps All w0 w) (hx:XO J S w0.heap.size O w) (ha:RelL S w avs (args.map a.eval)):
 Does n P o a w (YC (SO S O) (XO J S w0.heap.size O) (.bool b) w):=
 Zk (Zbj (X:=XO J S w0.heap.size O) hF h1 hop (fun k hk'=>hS k (Nat.le_trans hk.size hk')) hx.1 ha fun w' hk'=>Yn hJ _ _ hk' hx) fun v w' ⟨e1,e2,e3⟩=>⟨by rw[e1.lit];exact Rel.of_lit _,e2,e3⟩
theorem ZpV {e:TypeId} {xs:List Int} (hF:FnM (ι:=Value) P J f [] avs [] (fun i=>.lit i) (fun i=>[OB.row i e 1 (xs.map Xa)])) (h1:Zj P f) (hop:o.op= .call { callee:=.value (.func f),args:=args.toArray,argTypes:=ts }) (hS:∀ b,w0.heap.size≤b→S b) (hJ:Stab J) (hk:Keeps All w0 w) (hx:XO J S w0.heap.size O w) (ha:RelL S w avs (args.map a.eval)):
 Does n P o a w (YC (SO S O) (XO J S w0.heap.size O) (.rd (ZX xs)) w):=by
 refine Zkd h1 hop ?_
 have hS':∀ b,w.heap.size≤b→S b:=fun b hb=>hS b (Nat.le_trans hk.size hb)
 have:=hF S w [] w _ hS' hx.1 Zq (Keeps.refl _ _) (ZjB hx.1) (ha.sub fun k _ hk=>⟨hk,fun q hq=>(by cases hq)⟩)
 rw[List.map_toArray]
 refine Calls.mono this ?_
 rintro e' w' ⟨i,v,he,hv,hk',hx'⟩
 have hi:=hx'.2.1 (OB.row i e 1 (xs.map Xa)) yz
 obtain rfl:=hv.lit
 refine⟨_,he,?_,hk',Yn hJ _ _ hk' hx⟩
 obtain⟨us,g1,g2,g3⟩:=hi
 exact Ze3 (lo:=w.heap.size) (fun b hb=>Zm hS w hk hx b ((OB.row v e 1 (xs.map Xa)).lt ⟨us,g1,g2,g3⟩ b hb).1) ⟨us,g1,Zj6 g2,g3⟩
end
section
variable {N:Nat} {J:WP} {S:Nat→Prop} {w0 w:World} {env:List (Nat×AV)} {a:Act} {O:List OB} {o0 o1 o2 o3 o4 o5 o6 o7 o8 o9:OB}
theorem pm8 (h:So J S w0 N (o0::o1::o2::o3::o4::o5::o6::o7::o8::O) env a w):So J S w0 N (o8::o0::o1::o2::o3::o4::o5::o6::o7::O) env a w:=ZaB (Yp (A:=[o0,o1,o2,o3,o4,o5,o6,o7])) h
end
section
variable {n:Rn} {P:Program} {J:WP} {S:Nat→Prop} {O R:List OB} {w0 w:World} {o:Oper} {a:Act}
theorem ZuI {κ μ σ:Type} (A:List OB) {l:Nat} {xs:List Operand} {callee:Operand} {ts:Array TypeId} {avl:List AV} {I':κ→List OB} {pv:μ→Value} {O3:μ→List OB} {O4:σ→List OB} (hr:n.r=none) (hop:o.op= .call { callee:=.value callee,args:=xs.toArray,argTypes:=ts })
 (hk0:Keeps All w0 w) (hx:XO J S w0.heap.size (A++(O++R)) w) (hc:a.eval callee= .func (.yield l) #[] #[]) (hv:RelL (SO S (A++(O++R))) w avl (xs.map a.eval))
 (hY:∀(m:Nat) (R':List OB) (w1:World) (vs:List Value),Keeps All w0 w1→XO J S w0.heap.size (O++R') w1→RelL (SO S (O++R')) w1 avl vs→YieldAt Fence.wide m P l vs.toArray w1 (rndE J S w0 I' pv O3 O4 R')):
 ZgJ n P o a w (fun v w'=>∃ g:κ ⊕ σ,v= .bool g.isLeft∧QS J S w0 (A++(O++R)) w (A++g.elim (fun z=>I' z++R) fun s=>O4 s++R) w') (fun c w'=>∃ q,c=pch (pv q)∧QS J S w0 (A++(O++R)) w (O3 q++(A++R)) w'):=by
 intro K Q hK hF
 obtain⟨nd,nr⟩:=n
 subst hr
 have hp:=ZdK A O R
 have hx1:=Yw hp hx
 have hv1:=Zg4 hp hv
 let B:AV→Value→Prop:=fun av v=>Rel (SO S (O++(A++R))) w av v
 have hx2:=ZgO (B:=B) hx1 fun _ _ h=>h
 obtain⟨fn,tmps,assign,body,hy,hR⟩:=hY (nd-1) (OB.was B::(A++R)) w (xs.map a.eval) hk0 hx2 (hv1.sub fun k _ hs=>so_was.2 hs)
 have hrun:(execOp a.eval o).run P w= .ok (.round l fn tmps assign body) w:=by
  simp only[execOp,hop,resolve,hc,Deferred.ofValue,Sem.run_bind,Sem.run_pure,Result.andThen_ok,invoke]
  simpa using hy
 have back:∀ {O':List OB} {w':World},Keeps All w0 w'→XO J S w0.heap.size (O'++OB.was B::(A++R)) w'→QS J S w0 (A++(O++R)) w (O'++(A++R)) w':=fun hk' hx'=>by
  obtain⟨g1,g2⟩:=Zaz hx'
  exact Xd hp.symm (.refl _) ⟨hk',g1,g2⟩
 refine⟨fun _ _=>trivial,?_⟩
 show o.uponIn _ nd P a K Q ((o.semAt none a.eval).run P w)
 rw[Oper.semAt_none,hrun]
 refine⟨fun h=>by simp[Rn.F,Fence.wide]at h,RoundIn.mono hR fun e w' he=>?_⟩
 rcases he with⟨rfl,k,hk',hx'⟩ | ⟨rfl,s,hk',hx'⟩ | ⟨q,rfl,hk',hx'⟩
 · exact hK _ _ ⟨.inl k,rfl,Xd (.refl _) (ZdK _ _ _) (back hk' hx')⟩
 · exact hK _ _ ⟨.inr s,rfl,Xd (.refl _) (ZdK _ _ _) (back hk' hx')⟩
 · exact hF _ _ ⟨q,rfl,back hk' hx'⟩
end
section
variable {κ:Type} [DecidableEq κ] {Kd:Zad κ} {α:Type}
theorem Zhv {k:κ}:∀ {L:List (κ×α)},(L.findIdx? fun p=>decide (k=p.1))=none→Zd1 L k=L
 | [],_=>rfl
 | p::L,h=>by
  rw[List.findIdx?_cons]at h
  by_cases hk:k=p.1
  · simp[hk]at h
  · rw[decide_eq_false hk]at h
    rw[Zd1,if_neg hk,Zhv (by simpa using h)]
theorem Zhu {k:κ}:∀ {L:List (κ×α)} {n:Nat},(L.findIdx? fun p=>decide (k=p.1))=some n→Zd1 L k=L.eraseIdx n
 | [],_,h=>by simp at h
 | p::L,n,h=>by
  rw[List.findIdx?_cons]at h
  by_cases hk:k=p.1
  · rw[decide_eq_true hk]at h
    obtain rfl:0=n:=by simpa using h
    rw[Zd1,if_pos hk];rfl
  · rw[decide_eq_false hk]at h
    cases hf:L.findIdx? fun p=>decide (k=p.1)with
    | none=>rw[hf]at h;simp at h
    | some m=>
     rw[hf]at h
     obtain rfl:m+1=n:=by simpa using h
     rw[Zd1,if_neg hk,Zhu hf];rfl
omit [DecidableEq κ]in
theorem Qk {β γ:Type} (f:β→γ):∀(l:List β) (n:Nat),(l.eraseIdx n).map f=(l.map f).eraseIdx n
 | [],_=>rfl
 | _::_,0=>rfl
 | x::l,n+1=>by simp only[List.eraseIdx_cons_succ,List.map_cons,Qk f l n]
theorem RelM.del {S:Nat→Prop} {w:World} {f:α→AV} (k:κ):∀ {L:List (κ×α)} {Lv:List (κ×Value)},RelM S w f L Lv→RelM S w f (Zd1 L k) (Zd1 Lv k)
 | [],[],_=>trivial
 | [],_::_,h=>h.elim
 | _::_,[],h=>h.elim
 | p::L,q::Lv,h=>by
  obtain⟨h1,h2,h3⟩:=h
  unfold Zd1
  rw[h1]
  split
  · exact h3
  · exact⟨h1,h2,RelM.del k h3⟩
theorem ZiH {P:Program} {T K E u:TypeId} (r:TypeId) (hT:P.underlying T=some (.map K E)) (hK:P.underlying K=some Kd.kind) (k:κ) {w:World} {M:Nat} {Lv:List (κ×Value)} (h:IsMap Kd w M Lv):
 ∃ w',(Builtin.delete_ #[T,u] r #[.map (some M),Kd.kv k]).run P w= .ok (.tuple #[]) w'∧IsMap Kd w' M (Zd1 Lv k)∧Keeps (· ≠M) w w':=by
 obtain⟨es,clock,hm,hn,hd,hb,hc⟩:=h
 have hlt:M<w.heap.size:=(Array.getElem?_eq_some_iff.1 hm).1
 have hg:(getObj M).run P w= .ok (.map es clock) w:=by simp[getObj,Sem.run,hm]
 have hf:=QF (w:=w) hK k es.toList _ hn
 have hck:=Kd.chk P K es.isEmpty k w hK
 have e0:(#[T,u]:Array TypeId)[0]?=some T:=rfl
 have e1:(#[.map (some M),Kd.kv k]:Array Value)[0]?=some (.map (some M)):=rfl
 have e2:(#[.map (some M),Kd.kv k]:Array Value)[1]?=some (Kd.kv k):=rfl
 cases hi:Lv.findIdx? fun p=>decide (k=p.1)with
 | none=>
  rw[hi]at hf
  refine⟨{ w with heap:=w.heap.setIfInBounds M (.map es clock) },?_,?_,(Keeps.refl _ _).putObj (fun _ hn=>hn rfl) _⟩
  · unfold Builtin.delete_
    simp only[e0,e1,e2,Sem.run_bind,run_underlying hT,Result.andThen_ok,hg,hck,hf,Sem.run_pure]
    simp[setObj,Sem.run,hm]
  · rw[Zhv hi]
    exact⟨_,_,Array.getElem?_setIfInBounds_self_of_lt hlt,hn,hd,hb,hc⟩
 | some n=>
  rw[hi]at hf
  have htl:(es.eraseIdxIfInBounds n).toList=es.toList.eraseIdx n:=by simp
  refine⟨{ w with heap:=w.heap.setIfInBounds M (.map (es.eraseIdxIfInBounds n) clock) },?_,?_,(Keeps.refl _ _).putObj (fun _ hn=>hn rfl) _⟩
  · unfold Builtin.delete_
    simp only[e0,e1,e2,Sem.run_bind,run_underlying hT,Result.andThen_ok,hg,hck,hf,Sem.run_pure]
    simp[setObj,Sem.run,hm]
  · rw[Zhu hi]
    refine⟨_,_,Array.getElem?_setIfInBounds_self_of_lt hlt,?_,?_,?_,?_⟩
    · rw[htl]
      unfold Zdj at hn ⊢
      rw[Qk,hn,Qk]
    · rw[Qk]
      exact hd.sublist (List.eraseIdx_sublist _ _)
    · rw[htl,Qk]
      exact hb.sublist (List.eraseIdx_sublist _ _)
    · intro e hee
      rw[htl]at hee
      exact hc e (List.mem_of_mem_eraseIdx hee)
end
section
variable {κ:Type} [DecidableEq κ] {Kd:Zad κ} {α:Type} {f:α→AV} {L:List (κ×α)} {n:Rn} {N:Nat} {P:Program} {J:WP} {S S':Nat→Prop} {O:List OB} {w0:World} {env:List (Nat×AV)} {Q:Exit→Act→WP} {M:Nat} {t K E:TypeId} {o:Oper} {x y:Operand}
theorem d_del {u:TypeId} {a:Act} {w:World} (hT:Zjz P t K E Kd.kind) (hJ:Stab J) (hJ0:J w0) (k:κ) (hop:o.op= .call { callee:=.builtin .delete,args:= #[x,y],argTypes:= #[t,u] }) (hk0:Keeps All w0 w) (hx:XO J S w0.heap.size (OB.map Kd f M L::O) w)
 (g1:Rel S' w (.lit (.map (some M))) (a.eval x)) (g2:Rel S' w (.lit (Kd.kv k)) (a.eval y)):Does n P o a w fun v w'=>v= .tuple #[]∧QS J S w0 (OB.map Kd f M L::O) w (OB.map Kd f M (Zd1 L k)::O) w':=by
 obtain⟨h0,Lv,hm,hr⟩:=hx.2.1 (OB.map Kd f M L) yz
 obtain⟨w',hrun,hm',hk⟩:=ZiH (P:=P) (u:=u) o.type hT.1 hT.2 k hm
 have hk':Keeps (fun b=>¬ (OB.map Kd f M L).blk b) w w':=hk.sub fun b _ hb=>hb
 have hsub:∀ b,b<w.heap.size→SO S (OB.map Kd f M L::O) b→(¬ (OB.map Kd f M L).blk b)∧SO S (OB.map Kd f M (Zd1 L k)::O) b:=fun b _ hs=>⟨hs.2 (OB.map Kd f M L) yz,hs.1,fun p hp=>by
  rcases List.mem_cons.1 hp with rfl | hp
  · exact hs.2 (OB.map Kd f M L) yz
  · exact hs.2 p (List.mem_cons_of_mem _ hp)⟩
 refine ZR (v:=.tuple #[]) (w':=w') ?_ ⟨rfl,QW (o':=OB.map Kd f M (Zd1 L k)) hJ hJ0 hk0 hx hk' (fun b hb=>.inl hb) ⟨h0,_,hm',(hr.move hk' hsub).del k⟩⟩
 simp[execOp,hop,resolve,invoke,builtin,g1.lit,g2.lit,hrun,Result.andThen]
end
end Go.Proofs.YtdfadihhfppjaaaGreatDoor
namespace Go.Proofs.YtdfadihhfppjaaaGreatDoor
structure Zez (j:Jb) (g:Fr) (step:Nat):Prop where
 fl:∀ h∈g.hyps,h.floating=true→h.text.length=2
 tx:∀ h∈g.hyps,1≤h.text.length∧∀ s∈h.text,s.size≤60
 ts:∀ t∈j.ts,(1≤t.length∧t.length≤2000)∧∀ s∈t,s.size≤60
 st:step<j.ts.length
 m1:∀ s z,Zw j.M s=some z→0≤z∧z< (j.ts.length:Int)
 m2:∀ i,i<j.ts.length→(Zw j.M (Xz (ge j.ts i))).isSome=true
 gh:g.hyps.length≤2000
 hi:j.i<j.d.frames.length
 wd:(ge j.d.frames j.i).wide.length*32≤140737488351232
structure BmOk (hs:List Hy) (M:BM):Prop where
 nd:(M.map Prod.fst).Nodup
 ky:∀ q∈M,∃ h∈hs,h.floating=true∧q.1=ge h.text 1
 vl:∀ q∈M,q.2.length≤2000∧∀ s∈q.2,s.size≤60
section
variable {hs:List Hy} {M:BM} {k:BA} {v:List BA}
theorem bm_nil:BmOk hs []:=⟨by simp,by simp,by simp⟩
theorem Zfd:∀ {M:BM},(Xu M k v).map Prod.fst=if k∈M.map Prod.fst then M.map Prod.fst else M.map Prod.fst++[k]
 | []=>by simp[Xu]
 | p::M=>by
  rw[Xu]
  by_cases h:k=p.1
  · rw[if_pos h,if_pos (by simp[h])];rfl
  · rw[if_neg h,List.map_cons,Zfd (M:=M),List.map_cons]
    by_cases h2:k∈M.map Prod.fst
    · rw[if_pos h2,if_pos (List.mem_cons_of_mem _ h2)]
    · rw[if_neg h2,if_neg (by simp only[List.mem_cons,not_or];exact⟨h,h2⟩)];rfl
theorem mdel_sub:∀ {M:BM},(Zd1 M k).Sublist M
 | []=>.slnil
 | p::M=>by
  rw[Zd1];split
  · exact List.sublist_cons_self _ _
  · exact mdel_sub.cons_cons _
theorem BmOk.put (h:BmOk hs M) {y:Hy} (hy:y∈hs) (hf:y.floating=true) (hv:v.length≤2000∧∀ s∈v,s.size≤60):BmOk hs (Xu M (ge y.text 1) v):=by
 refine⟨?_,fun q hq=>?_,fun q hq=>?_⟩
 · rw[Zfd]
   split
   · exact h.nd
   · rename_i h2
     rw[List.nodup_append]
     exact⟨h.nd,by simp,fun x hx z hz e=>by rw[List.mem_singleton.1 hz]at e;subst e;exact h2 hx⟩
 · rcases Zf6 hq with hq | ⟨e,_⟩
   · exact h.ky q hq
   · exact⟨y,hy,hf,e⟩
 · rcases Zf6 hq with hq | ⟨_,e⟩
   · exact h.vl q hq
   · rw[e];exact hv
theorem BmOk.del (h:BmOk hs M):BmOk hs (Zd1 M k):=
 ⟨h.nd.sublist (mdel_sub.map _),fun q hq=>h.ky q (mdel_sub.subset hq),fun q hq=>h.vl q (mdel_sub.subset hq)⟩
theorem BmOk.len (h:BmOk hs M):M.length≤hs.length:=by
 have:=Q0 (ys:=hs.map fun y=>ge y.text 1) h.nd fun x hx=>by
  obtain⟨q,hq,rfl⟩:=List.mem_map.1 hx
  obtain⟨y,hy,_,e⟩:=h.ky q hq
  rw[e];exact List.mem_map_of_mem (f:=fun y:Hy=>ge y.text 1) hy
 simpa using this
theorem BmOk.key (h:BmOk hs M) (ht:∀ y∈hs,y.floating=true→y.text.length=2) (hz:∀ y∈hs,∀ s∈y.text,s.size≤60):∀ q∈M.map (·.1),q.size≤9223372036854775807:=fun q hq=>by
 obtain⟨x,hx,rfl⟩:=List.mem_map.1 hq
 obtain⟨y,hy,hf,e⟩:=h.ky x hx
 have h2:=ht y hy hf
 have h1:=hz y hy (ge y.text 1) (Zg oz)
 show x.1.size≤_
 rw[e];omega
theorem BmOk.lst (h:BmOk hs M):∀ b∈YO M,b.text.length≤2000∧∀ s∈b.text,s.size≤60:=ZnN (p:=fun t=>t.length≤2000∧∀ s∈t,s.size≤60) h.vl
end
section
variable {j:Jb} {g:Fr} {step k a n:Nat} {M:BM} {al:List Int}
theorem ZmJ (hT:Zez j g step):∀(hs:List Hy),(∀ h∈hs,h∈g.hyps)→∀(M:BM) (al:List Int),BmOk g.hyps M→BmOk g.hyps (ZgK j g step hs M al).2
 | [],_,M,al,h=>by
  rw[ZgK];split<;>exact h
 | y::hs,hm,M,al,h=>by
  rw[ZgK]
  split
  · have hy:y∈g.hyps:=hm y List.mem_cons_self
    have key:∀(l:List Nat) (q:List (List Int)×BM),(∀ t∈l,Zmp j y t=true→t<j.ts.length)→BmOk g.hyps q.2→BmOk g.hyps (l.foldl (Zim (ZgK j g step hs) j y al) q).2:=by
     intro l
     induction l with
     | nil=>intro q _ hq;exact hq
     | cons t l ih=>
      intro q hl hq
      rw[List.foldl_cons]
      refine ih _ (fun t' ht'=>hl t' (List.mem_cons_of_mem _ ht')) ?_
      unfold Zim
      split
      · rename_i ho
        have hlt:=hl t List.mem_cons_self ho
        have h1:=hT.ts _ (Zg hlt)
        have h2:((ge j.ts t).drop 1).length≤2000∧∀ s∈(ge j.ts t).drop 1,s.size≤60:=⟨by rw[List.length_drop];omega,fun s hs=>h1.2 s (List.mem_of_mem_drop hs)⟩
        cases hf:y.floating with
        | true=>exact(ZmJ hT hs (fun h hh=>hm h (List.mem_cons_of_mem _ hh)) _ _ (hq.put hy hf h2)).del
        | false=>exact ZmJ hT hs (fun h hh=>hm h (List.mem_cons_of_mem _ hh)) _ _ hq
      · exact hq
    refine key _ _ (fun t _ ho=>?_) h
    unfold Zmp at ho
    simp only[Bool.and_eq_true,decide_eq_true_eq]at ho
    have:=(hT.m1 _ _ ho.1).2
    omega
  · exact h
theorem ZmL (hT:Zez j g step) (h:BmOk g.hyps M):BmOk g.hyps (ZaQ j g step k M al).2:=ZmJ hT _ (fun _ hh=>List.mem_of_mem_drop hh) M al h
theorem Zth (ho:Zmp j (ge g.hyps k) (a+n)=true):ZbE j g step k M al a (n+1)=
 ((ZbE j g step k M al a n).1++(ZaQ j g step (k+1) (if(ge g.hyps k).floating then Xu (ZbE j g step k M al a n).2 (ge (ge g.hyps k).text 1) ((ge j.ts (a+n)).drop 1)else(ZbE j g step k M al a n).2) (al++[((a+n:Nat):Int)])).1,
  if(ge g.hyps k).floating then Zd1 (ZaQ j g step (k+1) (if(ge g.hyps k).floating then Xu (ZbE j g step k M al a n).2 (ge (ge g.hyps k).text 1) ((ge j.ts (a+n)).drop 1)else(ZbE j g step k M al a n).2) (al++[((a+n:Nat):Int)])).2 (ge (ge g.hyps k).text 1)
  else(ZaQ j g step (k+1) (if(ge g.hyps k).floating then Xu (ZbE j g step k M al a n).2 (ge (ge g.hyps k).text 1) ((ge j.ts (a+n)).drop 1)else(ZbE j g step k M al a n).2) (al++[((a+n:Nat):Int)])).2):=by
 rw[Zdv,Zim,if_pos ho]
theorem ZsG (hT:Zez j g step) {t:Nat} (ht:t<j.ts.length) {y:Hy}:Zmp j y t= !(!decide ((Zw j.M (Xz (ge j.ts t))).getD default=(t:Int))|| !decide (ge (ge j.ts t) 0=ge y.text 0)):=by
 obtain⟨z,hz⟩:=Option.isSome_iff_exists.1 (hT.m2 t ht)
 unfold Zmp
 rw[hz]
 simp only[Option.getD_some,Option.some.injEq,Bool.not_or,Bool.not_not]
variable {hs:List Hy} {h:Hy}
theorem ZfK (hf:h.floating=true):ZaC j hs step h M=(0,step):=if_neg fun e=>by simp[hf]at e
theorem ZiB (hb:Zvg hs M h.text=false):ZaC j hs step h M=(0,step):=if_neg fun e=>by simp[hb]at e
theorem ZdC (hf:h.floating=false) (hb:Zvg hs M h.text=true) (hn:((!decide ((if XL (ZO (YO M)) h.text 2000 then(0:Int)else 15)=0)|| !(Zw j.M (Xz (if XL (ZO (YO M)) h.text 2000 then Xb (ZO (YO M)) h.text else []))).isSome)||decide ((step:Int)≤(Zw j.M (Xz (if XL (ZO (YO M)) h.text 2000 then Xb (ZO (YO M)) h.text else []))).getD default))=true):ZaC j hs step h M=(0,0):=by
 rw[ZaC,if_pos ⟨hf,hb⟩]
 cases hl:XL (ZO (YO M)) h.text 2000 with
 | false=>simp
 | true=>
  rw[hl]at hn
  simp only[if_true]at hn ⊢
  cases hm:Zw j.M (Xz (Xb (ZO (YO M)) h.text))with
  | none=>rfl
  | some z=>
   rw[hm]at hn
   simp only[Option.isSome_some,Option.getD_some,decide_true,Bool.not_true,Bool.or_self,Bool.false_or,decide_eq_true_eq]at hn
   exact if_neg oz
theorem sp_one (hT:Zez j g step) (hf:h.floating=false) (hb:Zvg hs M h.text=true) (hn:((!decide ((if XL (ZO (YO M)) h.text 2000 then(0:Int)else 15)=0)|| !(Zw j.M (Xz (if XL (ZO (YO M)) h.text 2000 then Xb (ZO (YO M)) h.text else []))).isSome)||decide ((step:Int)≤(Zw j.M (Xz (if XL (ZO (YO M)) h.text 2000 then Xb (ZO (YO M)) h.text else []))).getD default))=false):
 0≤(Zw j.M (Xz (if XL (ZO (YO M)) h.text 2000 then Xb (ZO (YO M)) h.text else []))).getD default∧(Zw j.M (Xz (if XL (ZO (YO M)) h.text 2000 then Xb (ZO (YO M)) h.text else []))).getD default< (step:Int)∧
 ZaC j hs step h M=(((Zw j.M (Xz (if XL (ZO (YO M)) h.text 2000 then Xb (ZO (YO M)) h.text else []))).getD default).toNat,((Zw j.M (Xz (if XL (ZO (YO M)) h.text 2000 then Xb (ZO (YO M)) h.text else []))).getD default).toNat+1):=by
 rw[ZaC,if_pos (c:=h.floating=false∧Zvg hs M h.text=true) ⟨hf,hb⟩]
 cases hl:XL (ZO (YO M)) h.text 2000 with
 | false=>rw[hl]at hn;simp at hn
 | true=>
  rw[hl]at hn
  simp only[if_true]at hn ⊢
  cases hm:Zw j.M (Xz (Xb (ZO (YO M)) h.text))with
  | none=>rw[hm]at hn;simp at hn
  | some z=>
   rw[hm]at hn
   simp only[Option.isSome_some,Option.getD_some,decide_true,Bool.not_true,Bool.or_self,Bool.false_or,decide_eq_false_iff_not]at hn
   have h0:=(hT.m1 _ _ hm).1
   refine⟨h0,by simp only[Option.getD_some];omega,?_⟩
   simp only[Option.getD_some]
   exact if_pos (show z< (step:Int) by omega)
theorem Zdh (hT:Zez j g step) (h:BmOk g.hyps M) {y:Hy} (hy:y∈g.hyps):(if XL (ZO (YO M)) y.text 2000 then Xb (ZO (YO M)) y.text else []).length≤2000∧∀ s∈(if XL (ZO (YO M)) y.text 2000 then Xb (ZO (YO M)) y.text else []),s.size≤60:=by
 cases hl:XL (ZO (YO M)) y.text 2000 with
 | false=>simp
 | true=>
  simp only[if_true]
  refine⟨by simpa [XL]using hl,Zpe (p:=fun s=>s.size≤60) (fun b hb s hs=>(h.lst b hb).2 s hs) (hT.tx y hy).2⟩
end
section
variable {j:Jb} {g:Fr} {step k a n b:Nat} {M M2 M3:BM} {al al2:List Int} {pre pre2:List (List Int)}
theorem ZmK (hT:Zez j g step) (hk:k<g.hyps.length) (h:BmOk g.hyps M):∀ n,BmOk g.hyps (ZbE j g step k M al a n).2
 | 0=>h
 | n+1=>by
  have ih:=ZmK hT hk h n
  rw[Zdv]
  unfold Zim
  split
  · rename_i ho
    have hlt:a+n<j.ts.length:=by
     unfold Zmp at ho
     simp only[Bool.and_eq_true,decide_eq_true_eq]at ho
     have:=(hT.m1 _ _ ho.1).2
     omega
    have h1:=hT.ts _ (Zg hlt)
    have h2:((ge j.ts (a+n)).drop 1).length≤2000∧∀ s∈(ge j.ts (a+n)).drop 1,s.size≤60:=⟨by rw[List.length_drop];omega,fun s hs=>h1.2 s (List.mem_of_mem_drop hs)⟩
    cases hf:(ge g.hyps k).floating with
    | true=>exact(ZmL hT (ih.put (Zg hk) hf h2)).del
    | false=>exact ZmL hT ih
  · exact ih
theorem put_ok (hT:Zez j g step) (hk:k<g.hyps.length) (ha:a<j.ts.length) (h:BmOk g.hyps M):BmOk g.hyps (if(ge g.hyps k).floating then Xu M (ge (ge g.hyps k).text 1) ((ge j.ts a).drop 1)else M):=by
 have h1:=hT.ts _ (Zg ha)
 have h2:((ge j.ts a).drop 1).length≤2000∧∀ s∈(ge j.ts a).drop 1,s.size≤60:=⟨by rw[List.length_drop];omega,fun s hs=>h1.2 s (List.mem_of_mem_drop hs)⟩
 cases hf:(ge g.hyps k).floating with
 | true=>exact h.put (Zg hk) hf h2
 | false=>exact h
theorem Zdt (h:(Xt g.hyps M g.text (ge j.ts step)).1=false):pre=pre++(ZaQ j g step k M al).1∧M=(ZaQ j g step k M al).2:=by rw[Ztd h];simp
theorem ZmI (h:(Xt g.hyps M g.text (ge j.ts step)).1=true) (hk:k=g.hyps.length) (hg:ZeB j g al step=false):pre=pre++(ZaQ j g step k M al).1∧M=(ZaQ j g step k M al).2:=by rw[Zsg h hk,hg];simp
theorem ZeV (h:(Xt g.hyps M g.text (ge j.ts step)).1=true) (hk:k=g.hyps.length) (hg:ZeB j g al step=true):pre++[al]=pre++(ZaQ j g step k M al).1∧M=(ZaQ j g step k M al).2:=by rw[Zsg h hk,hg];simp
theorem Zdu (h:(Xt g.hyps M g.text (ge j.ts step)).1=true) (hk:k<g.hyps.length) (hs:ZaC j g.hyps step (ge g.hyps k) M=(0,0)):pre=pre++(ZaQ j g step k M al).1∧M=(ZaQ j g step k M al).2:=by rw[Zte h hk,hs];simp[Ziw]
theorem ZgU (h:(Xt g.hyps M g.text (ge j.ts step)).1=true) (hk:k<g.hyps.length) (hs:ZaC j g.hyps step (ge g.hyps k) M=(a,b)) (hn:a+n=b) (h1:pre2=pre++(ZbE j g step k M al a n).1) (h2:M2=(ZbE j g step k M al a n).2):pre2=pre++(ZaQ j g step k M al).1∧M2=(ZaQ j g step k M al).2:=by
 rw[Zte h hk,hs]
 have:b-a=n:=by omega
 simp only[this]
 exact⟨h1,h2⟩
theorem tz_pre {xs:List (List Int)} (h:(Xt g.hyps M g.text (ge j.ts step)).1=true) (hk:k<g.hyps.length) (hs:ZaC j g.hyps step (ge g.hyps k) M=(a,b)) (hp:pre++(ZaQ j g step k M al).1<+:xs):pre++(ZbE j g step k M al a (b-a)).1<+:xs:=by
 rw[Zte h hk,hs]at hp;exact hp
theorem ZaA {z1:List (List Int)} {zM:BM} (h1:pre2=pre++(ZbE j g step k M al a n).1) (h2:M2=(ZbE j g step k M al a n).2) (h3:M3=if(ge g.hyps k).floating then Xu M2 (ge (ge g.hyps k).text 1) ((ge j.ts (a+n)).drop 1)else M2) (h4:al2=al) (ho:Zmp j (ge g.hyps k) (a+n)=true)
 (ez:z1=pre2++(ZaQ j g step (k+1) M3 (al2++[((a+n:Nat):Int)])).1∧zM=(ZaQ j g step (k+1) M3 (al2++[((a+n:Nat):Int)])).2):
 z1=pre++(ZbE j g step k M al a (n+1)).1∧(if(ge g.hyps k).floating then Zd1 zM (ge (ge g.hyps k).text 1)else zM)=(ZbE j g step k M al a (n+1)).2:=by
 rw[Zth ho,←h2,←h3,←h4]
 exact⟨by rw[ez.1,h1,h4,List.append_assoc],by rw[ez.2]⟩
theorem Zsi {x:Int} (h:al.length=k):(al++[x]).take k=al:=by rw[←h];simp
end
end Go.Proofs.YtdfadihhfppjaaaGreatDoor
set_option maxHeartbeats 8000000
set_option maxRecDepth 100000
namespace Go.Proofs.YtdfadihhfppjaaaGreatDoor
open Go.Proofs.Tryz (prog)
open Go.RowKit
theorem Zkr:XH prog 77:=fun w=>by kernel_rfl
theorem ZoW:Zj prog 68:=Zn Tryz.func68 rfl rfl
theorem ZtZ:XH prog 169:=fun w=>by kernel_rfl
theorem ZrX:Zj prog 104:=Zn Tryz.func104 rfl rfl
theorem Zl5:ZV prog 92 5 7:=fun b off w=>by kernel_rfl
theorem one_90:XH prog 90:=fun w=>by kernel_rfl
theorem Zgo:Zj prog 64:=Zn Tryz.func64 rfl rfl
theorem ZaI:Zjz prog 90 9 3 keyS.kind:=⟨by kernel_rfl,by kernel_rfl⟩
theorem ZbC:Zij prog 3 (.int default):=⟨(.int .i64 0),fun w=>by kernel_rfl,fun S w=>(show Rel S w (.int 0) _ from Rel.of_lit _)⟩
theorem ZsF:XH prog 33:=fun w=>by kernel_rfl
theorem Zlb:Zj prog 102:=Zn Tryz.func102 rfl rfl
theorem Zln:Zc2 prog 158 [.lit (.map none)]:=⟨(.map none),fun w=>by kernel_rfl,fun S w=>(show RdL S w [.lit (.map none)] [.map none]from⟨.lit _ True.intro,trivial⟩)⟩
theorem Zly:Y9 prog 158 1:=fun w=>by kernel_rfl
theorem ZmE:Zc2 prog 29 [.lit (.slice none 0 0)]:=⟨(.slice none 0 0),fun w=>by kernel_rfl,fun S w=>(show RdL S w [.lit (.slice none 0 0)] [.slice none 0 0]from⟨.lit _ True.intro,trivial⟩)⟩
theorem ZmD:Zc2 prog 33 [.lit .nilFunc]:=⟨(.nilFunc),fun w=>by kernel_rfl,fun S w=>(show RdL S w [.lit .nilFunc] [.nilFunc]from⟨.lit _ True.intro,trivial⟩)⟩
theorem Zm2:Y9 prog 33 1:=fun w=>by kernel_rfl
theorem Zsx {J:WP} (hJ:Stab J) {S:Nat→Prop} {w0:World} (hS:∀ b,w0.heap.size≤b→S b) (hJ0:J w0) {l:Nat} {κ μ σ:Type} {I:List (List Int)→κ→List OB} {pv:μ→Value} {O3:μ→List OB} {O4:σ→List OB} (bb mb:Nat) (bf of:Nat) (bj oj:Nat) (bs os:Nat) (ba bY bt:Nat) (d:Db) (i:Nat) (ss:List Stp) (ts:List (List BA)) (M:Nat) (mm:List (BA×Int)) (gf:Fr) (step:Nat) (va:Value) (xs:List (List Int)) (q:Nat) (Mb:BM) (al:List Int) (hH:Has [OB.mI M mm] S w0) (hY:YldE prog J S w0 l (fun x9=>[.rd (ZX x9)]) (xs) I pv O3 O4) (pre0:List (List Int)) (k0:κ) (hT:Zez (⟨d,i,ss,ts,mm⟩:Jb) gf step) (hq:al.length=q) (hqk:q≤gf.hyps.length) (hal:∀ x∈al,0≤x∧x< (step:Int)) (hM:BmOk gf.hyps Mb) (hp:pre0++(ZaQ (⟨d,i,ss,ts,mm⟩:Jb) gf step q Mb al).1<+:xs) (ih:∀(pre':List (List Int)) (k':κ) (va':Value) (M':BM) (al':List Int),al'.length=(q+1)→(q+1)≤gf.hyps.length→(∀ x'∈al',0≤x'∧x'< (step:Int))→BmOk gf.hyps M'→pre'++(ZaQ (⟨d,i,ss,ts,mm⟩:Jb) gf step (q+1) M' al').1<+:xs→FnV (ι:= { q':List (List Int)×κ×Value×BM // q'.1=pre'++(ZaQ (⟨d,i,ss,ts,mm⟩:Jb) gf step (q+1) M' al').1∧q'.2.2.2=(ZaQ (⟨d,i,ss,ts,mm⟩:Jb) gf step (q+1) M' al').2 } ⊕ { q':σ×Value×List Int×BM // (q+1)≤q'.2.2.1.length }) prog J S w0 102 [.at bb 0,.at bf of,.at bj oj,.at bs os,.at ba 0,.at bY 0,.at bt 0] (OB.var bb [.lit (.map (some mb))]::OB.map keyS (fun z':List BA=>AV.rd (Zb z')) mb (M')::OB.pt bf of (frC gf)::OB.pt bj oj [.ptr [Zb d.consts,Zb d.vars,Yq d.frames,.lit (.int .i64 (((i:Nat):Int))),ZQ ss,Zo ts,.lit (.int .i64 ((((ZH ss):Nat):Int))),.lit (.map (some M))]]::OB.pt bs os [.lit (.int .i64 (((step:Nat):Int)))]::OB.var ba [.lit (va')]::OB.row va' 3 1 ((al').map Xa)::OB.var bY [.lit ((.func (.yield l) #[] #[]))]::OB.var bt [.lit (.func (.func 102) #[] #[.pointer (some ⟨bb,0,none⟩),.pointer (some ⟨bf,of,none⟩),.pointer (some ⟨bj,oj,none⟩),.pointer (some ⟨bs,os,none⟩),.pointer (some ⟨ba,0,none⟩),.pointer (some ⟨bY,0,none⟩),.pointer (some ⟨bt,0,none⟩)])]::I (pre') k') (fun i'=>.bool i'.isLeft) (Zvm (fun z'=>OB.var bb [.lit (.map (some mb))]::OB.map keyS (fun z':List BA=>AV.rd (Zb z')) mb (z'.1.2.2.2)::OB.pt bf of (frC gf)::OB.pt bj oj [.ptr [Zb d.consts,Zb d.vars,Yq d.frames,.lit (.int .i64 (((i:Nat):Int))),ZQ ss,Zo ts,.lit (.int .i64 ((((ZH ss):Nat):Int))),.lit (.map (some M))]]::OB.pt bs os [.lit (.int .i64 (((step:Nat):Int)))]::OB.var ba [.lit (z'.1.2.2.1)]::OB.row z'.1.2.2.1 3 1 ((al').map Xa)::OB.var bY [.lit ((.func (.yield l) #[] #[]))]::OB.var bt [.lit (.func (.func 102) #[] #[.pointer (some ⟨bb,0,none⟩),.pointer (some ⟨bf,of,none⟩),.pointer (some ⟨bj,oj,none⟩),.pointer (some ⟨bs,os,none⟩),.pointer (some ⟨ba,0,none⟩),.pointer (some ⟨bY,0,none⟩),.pointer (some ⟨bt,0,none⟩)])]::I z'.1.1 z'.1.2.1) fun s'=>OB.var bb [.lit (.map (some mb))]::OB.map keyS (fun z':List BA=>AV.rd (Zb z')) mb (s'.1.2.2.2)::OB.pt bf of (frC gf)::OB.pt bj oj [.ptr [Zb d.consts,Zb d.vars,Yq d.frames,.lit (.int .i64 (((i:Nat):Int))),ZQ ss,Zo ts,.lit (.int .i64 ((((ZH ss):Nat):Int))),.lit (.map (some M))]]::OB.pt bs os [.lit (.int .i64 (((step:Nat):Int)))]::OB.var ba [.lit (s'.1.2.1)]::OB.row s'.1.2.1 3 1 ((s'.1.2.2.1).map Xa)::OB.var bY [.lit ((.func (.yield l) #[] #[]))]::OB.var bt [.lit (.func (.func 102) #[] #[.pointer (some ⟨bb,0,none⟩),.pointer (some ⟨bf,of,none⟩),.pointer (some ⟨bj,oj,none⟩),.pointer (some ⟨bs,os,none⟩),.pointer (some ⟨ba,0,none⟩),.pointer (some ⟨bY,0,none⟩),.pointer (some ⟨bt,0,none⟩)])]::O4 s'.1.1) pv O3):FnV (ι:= { q':List (List Int)×κ×Value×BM // q'.1=pre0++(ZaQ (⟨d,i,ss,ts,mm⟩:Jb) gf step q Mb al).1∧q'.2.2.2=(ZaQ (⟨d,i,ss,ts,mm⟩:Jb) gf step q Mb al).2 } ⊕ { q':σ×Value×List Int×BM // q≤q'.2.2.1.length }) prog J S w0 102 [.at bb 0,.at bf of,.at bj oj,.at bs os,.at ba 0,.at bY 0,.at bt 0] (OB.var bb [.lit (.map (some mb))]::OB.map keyS (fun z':List BA=>AV.rd (Zb z')) mb Mb::OB.pt bf of (frC gf)::OB.pt bj oj [.ptr [Zb d.consts,Zb d.vars,Yq d.frames,.lit (.int .i64 (((i:Nat):Int))),ZQ ss,Zo ts,.lit (.int .i64 ((((ZH ss):Nat):Int))),.lit (.map (some M))]]::OB.pt bs os [.lit (.int .i64 (((step:Nat):Int)))]::OB.var ba [.lit va]::OB.row va 3 1 (al.map Xa)::OB.var bY [.lit ((.func (.yield l) #[] #[]))]::OB.var bt [.lit (.func (.func 102) #[] #[.pointer (some ⟨bb,0,none⟩),.pointer (some ⟨bf,of,none⟩),.pointer (some ⟨bj,oj,none⟩),.pointer (some ⟨bs,os,none⟩),.pointer (some ⟨ba,0,none⟩),.pointer (some ⟨bY,0,none⟩),.pointer (some ⟨bt,0,none⟩)])]::I pre0 k0) (fun i'=>.bool i'.isLeft) (Zvm (fun z'=>OB.var bb [.lit (.map (some mb))]::OB.map keyS (fun z':List BA=>AV.rd (Zb z')) mb (z'.1.2.2.2)::OB.pt bf of (frC gf)::OB.pt bj oj [.ptr [Zb d.consts,Zb d.vars,Yq d.frames,.lit (.int .i64 (((i:Nat):Int))),ZQ ss,Zo ts,.lit (.int .i64 ((((ZH ss):Nat):Int))),.lit (.map (some M))]]::OB.pt bs os [.lit (.int .i64 (((step:Nat):Int)))]::OB.var ba [.lit (z'.1.2.2.1)]::OB.row z'.1.2.2.1 3 1 (al.map Xa)::OB.var bY [.lit ((.func (.yield l) #[] #[]))]::OB.var bt [.lit (.func (.func 102) #[] #[.pointer (some ⟨bb,0,none⟩),.pointer (some ⟨bf,of,none⟩),.pointer (some ⟨bj,oj,none⟩),.pointer (some ⟨bs,os,none⟩),.pointer (some ⟨ba,0,none⟩),.pointer (some ⟨bY,0,none⟩),.pointer (some ⟨bt,0,none⟩)])]::I z'.1.1 z'.1.2.1) fun s'=>OB.var bb [.lit (.map (some mb))]::OB.map keyS (fun z':List BA=>AV.rd (Zb z')) mb (s'.1.2.2.2)::OB.pt bf of (frC gf)::OB.pt bj oj [.ptr [Zb d.consts,Zb d.vars,Yq d.frames,.lit (.int .i64 (((i:Nat):Int))),ZQ ss,Zo ts,.lit (.int .i64 ((((ZH ss):Nat):Int))),.lit (.map (some M))]]::OB.pt bs os [.lit (.int .i64 (((step:Nat):Int)))]::OB.var ba [.lit (s'.1.2.1)]::OB.row s'.1.2.1 3 1 ((s'.1.2.2.1).map Xa)::OB.var bY [.lit ((.func (.yield l) #[] #[]))]::OB.var bt [.lit (.func (.func 102) #[] #[.pointer (some ⟨bb,0,none⟩),.pointer (some ⟨bf,of,none⟩),.pointer (some ⟨bj,oj,none⟩),.pointer (some ⟨bs,os,none⟩),.pointer (some ⟨ba,0,none⟩),.pointer (some ⟨bY,0,none⟩),.pointer (some ⟨bt,0,none⟩)])]::O4 s'.1.1) pv O3:=by
 have _:=hS
 refine Zon (N:=162) Tryz.func102 rfl rfl (lb rfl) fun R=>?_
 refine YT (B:=So J S w0 162 (OB.var bb [.lit (.map (some mb))]::OB.map keyS (fun z':List BA=>AV.rd (Zb z')) mb Mb::OB.pt bf of (frC gf)::OB.pt bj oj [.ptr [Zb d.consts,Zb d.vars,Yq d.frames,.lit (.int .i64 (((i:Nat):Int))),ZQ ss,Zo ts,.lit (.int .i64 ((((ZH ss):Nat):Int))),.lit (.map (some M))]]::OB.pt bs os [.lit (.int .i64 (((step:Nat):Int)))]::OB.var ba [.lit va]::OB.row va 3 1 (al.map Xa)::OB.var bY [.lit ((.func (.yield l) #[] #[]))]::OB.var bt [.lit (.func (.func 102) #[] #[.pointer (some ⟨bb,0,none⟩),.pointer (some ⟨bf,of,none⟩),.pointer (some ⟨bj,oj,none⟩),.pointer (some ⟨bs,os,none⟩),.pointer (some ⟨ba,0,none⟩),.pointer (some ⟨bY,0,none⟩),.pointer (some ⟨bt,0,none⟩)])]::(I pre0 k0++R)) [(0,.at bb 0),(1,.at bf of),(2,.at bj oj),(3,.at bs os),(4,.at ba 0),(5,.at bY 0),(6,.at bt 0)]) ?_ fun a w h=>h
 refine tw (ZmR (i:=2) (m:=1) rfl rfl) (tw (ZmR (i:=3) (m:=2) rfl rfl) ?_)
 refine tw (ZmR (i:=4) (m:=3) rfl rfl) ?_
 have hst:step<ts.length:=hT.st
 have hgh:=hT.gh
 refine qso tb hJ [0,1,2,3,4,5,6] [_] [_,_,_,_,_,_,_] ?_
 refine Zh (ZK tb hJ [0,1,2,3,4,5,6,1003,1007,1010,1015] [.lit (.map (some mb)),_,_,_,_,_,_,_,_,.ptr [Zb (ge ts step)],_,.tup [.bool ((Xt gf.hyps Mb gf.text (ge ts step)).1),.bool ((Xt gf.hyps Mb gf.text (ge ts step)).2)],_,_,_,_,_] [0,9,11] [_,_,_,_,_,_,_,_,_,_,_] rfl ⟨fun _ _ _ hx hl _=>Zs Zcw rfl (Zf hx (mo 0 rfl)) (hl.env 3 0 _ rfl rfl) rfl hx,iIx Yh,fun _ _ hk hx hl _=>YX (ZfV hJ mb Mb gf gf.text (ge ts step) (by exact hT.fl)) Zjm rfl (Zm hS _ hk hx) (hx.1) (ZF (Zf hx (mo 1 rfl)) Zq) (Za (hl.D 0 22 rfl rfl) (Za (hl.D 1 23 rfl rfl) (Za (hl.D 3 25 rfl rfl) (Za (hl.D 10 32 rfl rfl) Zd)))) (jo hJ hx),trivial⟩ ?_)
 refine ln 7 fun hl1=>?_
 refine ln 8 fun hl2=>?_
 refine ln 9 fun hl3=>?_
 refine qso tb hJ [0,1,2,3,4,5,6,1001] [_,_] [_,_,_,_,_,_,_,_] ?_
 refine cj 7 (fun hb1=>?_) fun hb1=>?_
 ·
  try simp at hb1
  refine qso tb hJ [1000] [_] [_] ?_
  exact Zv (fun a w h=>lvP (ZN (m:=0) (.inl ⟨(pre0,k0,va,Mb),by first | exact Zdt (j:=(⟨d,i,ss,ts,mm⟩:Jb)) (pre:=pre0) hb1 | exact ZmI (j:=(⟨d,i,ss,ts,mm⟩:Jb)) (pre:=pre0) hb1 oz hG | exact ZeV (j:=(⟨d,i,ss,ts,mm⟩:Jb)) (pre:=pre0) hb1 oz hG | exact Zdu (j:=(⟨d,i,ss,ts,mm⟩:Jb)) (pre:=pre0) hb1 oz (ZdC hb3 hb4 hb5) | exact ZgU (j:=(⟨d,i,ss,ts,mm⟩:Jb)) (pre:=pre0) hb1 oz g3_1 oz f1_2 f1_3⟩) rfl h rfl rfl))
 ·
  try simp at hb1
  refine Zc (nx (Zh (YR tb hJ [0,1,2,3,4,5,6,1002] [.lit va,.int (al.length:Nat),_] [0,1] [_,_,_,_,_,_,_,_] rfl ⟨fun _ _ _ hx hl _=>Zs QG rfl (Zf hx (mo 5 rfl)) (hl.env 4 4 _ rfl rfl) rfl hx,fun _ _ _ hx hl _=>Zb0 (by rw[List.length_map]) YE rfl (Zf hx (mo 6 rfl)) (hl.D 0 38 rfl rfl) hx,trivial⟩ ?_)))
  refine kw (sa 7 rfl (congrArg AV.int (show((al.length:Nat):Int)=((q:Nat):Int)from by omega))) (nx (Zh (ZK tb hJ [0,1,2,3,4,5,6,7,1002,1004] [_,_,_,.int (gf.hyps.length:Nat),_] [3] [_,_,_,_,_,_,_,_,_,_] rfl ⟨Ym ZB,trivial⟩ ?_)))
  refine ln 8 fun hl4=>?_
  refine cj 9 (fun hb2=>?_) fun hb2=>?_
  ·
   try simp at hb2
   refine Zh ?_
   have hgv:=ZtI hJ d i ss ts M gf al step (by exact hT.fl) hT.hi (fun t h'=>(hT.ts t h').1) (fun j h'=>by have h8:=hal _ (Zg h');exact⟨h8.1,oz⟩) oz hT.st hT.gh (fun h h'=>(hT.tx h h').2) hT.wd
   have hcl:=Zc7 hJ al (by have:=hT.gh;omega)
   rcases hG:ZeB (⟨d,i,ss,ts,[]⟩:Jb) gf al step with _ | _
   ·
    rw[hG]at hgv
    refine fun a w h=>Zj1 pv (fun q=>O3 q++([OB.var bb [.lit (.map (some mb))],OB.map keyS (fun z':List BA=>AV.rd (Zb z')) mb Mb,OB.pt bf of (frC gf),OB.pt bj oj [.ptr [Zb d.consts,Zb d.vars,Yq d.frames,.lit (.int .i64 (((i:Nat):Int))),ZQ ss,Zo ts,.lit (.int .i64 ((((ZH ss):Nat):Int))),.lit (.map (some M))]],OB.pt bs os [.lit (.int .i64 (((step:Nat):Int)))],OB.var ba [.lit va],OB.row va 3 1 (al.map Xa),OB.var bY [.lit ((.func (.yield l) #[] #[]))],OB.var bt [.lit (.func (.func 102) #[] #[.pointer (some ⟨bb,0,none⟩),.pointer (some ⟨bf,of,none⟩),.pointer (some ⟨bj,oj,none⟩),.pointer (some ⟨bs,os,none⟩),.pointer (some ⟨ba,0,none⟩),.pointer (some ⟨bY,0,none⟩),.pointer (some ⟨bt,0,none⟩)])]]++R)) [OB.var bb [.lit (.map (some mb))],OB.map keyS (fun z':List BA=>AV.rd (Zb z')) mb Mb,OB.pt bf of (frC gf),OB.pt bj oj [.ptr [Zb d.consts,Zb d.vars,Yq d.frames,.lit (.int .i64 (((i:Nat):Int))),ZQ ss,Zo ts,.lit (.int .i64 ((((ZH ss):Nat):Int))),.lit (.map (some M))]],OB.pt bs os [.lit (.int .i64 (((step:Nat):Int)))],OB.var ba [.lit va],OB.row va 3 1 (al.map Xa),OB.var bY [.lit ((.func (.yield l) #[] #[]))],OB.var bt [.lit (.func (.func 102) #[] #[.pointer (some ⟨bb,0,none⟩),.pointer (some ⟨bf,of,none⟩),.pointer (some ⟨bj,oj,none⟩),.pointer (some ⟨bs,os,none⟩),.pointer (some ⟨ba,0,none⟩),.pointer (some ⟨bY,0,none⟩),.pointer (some ⟨bt,0,none⟩)])]] (γ:=Unit) (fun ix'=>([.ptr [Zb d.consts,Zb d.vars,Yq d.frames,.lit (.int .i64 (((i:Nat):Int))),ZQ ss,Zo ts,.lit (.int .i64 ((((ZH ss):Nat):Int))),.lit (.map (some M))],.agg (frC gf),.lit va,.int (step:Nat),.bool false,.bool (!false),.bool (!false),.any,.lit va,.any,.any,.bool true,.bool true]:List AV).getD ix' .any) (fun ix'=>([true,true,true,true,true,true,true,(!false==false),(!false==false),(!false==false),(!false==false),true,true]:List Bool).getD ix' true) [(7,fun(_:Unit)=>.bool true)] (fun(_:List Bool) (_:Unit)=>[OB.var bb [.lit (.map (some mb))],OB.map keyS (fun z':List BA=>AV.rd (Zb z')) mb Mb,OB.pt bf of (frC gf),OB.pt bj oj [.ptr [Zb d.consts,Zb d.vars,Yq d.frames,.lit (.int .i64 (((i:Nat):Int))),ZQ ss,Zo ts,.lit (.int .i64 ((((ZH ss):Nat):Int))),.lit (.map (some M))]],OB.pt bs os [.lit (.int .i64 (((step:Nat):Int)))],OB.var ba [.lit va],OB.row va 3 1 (al.map Xa),OB.var bY [.lit ((.func (.yield l) #[] #[]))],OB.var bt [.lit (.func (.func 102) #[] #[.pointer (some ⟨bb,0,none⟩),.pointer (some ⟨bf,of,none⟩),.pointer (some ⟨bj,oj,none⟩),.pointer (some ⟨bs,os,none⟩),.pointer (some ⟨ba,0,none⟩),.pointer (some ⟨bY,0,none⟩),.pointer (some ⟨bt,0,none⟩)])]]++(I pre0 k0++R)) (fun _ _=>undef) [] () (fun _=>rfl) h hJ Yk rfl rfl rfl rfl (fun b g p hp=>List.mem_append_left _ hp) ⟨?of0,?of1,?of2,?of3,?of4,?of5,?of6,?of7,?of8,?of9,?of10,?of11,?of12,trivial⟩ trivial ⟨.new 12 7 _,trivial⟩ (fun q=>vPan [OB.var bb [.lit (.map (some mb))],OB.map keyS (fun z':List BA=>AV.rd (Zb z')) mb Mb,OB.pt bf of (frC gf),OB.pt bj oj [.ptr [Zb d.consts,Zb d.vars,Yq d.frames,.lit (.int .i64 (((i:Nat):Int))),ZQ ss,Zo ts,.lit (.int .i64 ((((ZH ss):Nat):Int))),.lit (.map (some M))]],OB.pt bs os [.lit (.int .i64 (((step:Nat):Int)))],OB.var ba [.lit va],OB.row va 3 1 (al.map Xa),OB.var bY [.lit ((.func (.yield l) #[] #[]))],OB.var bt [.lit (.func (.func 102) #[] #[.pointer (some ⟨bb,0,none⟩),.pointer (some ⟨bf,of,none⟩),.pointer (some ⟨bj,oj,none⟩),.pointer (some ⟨bs,os,none⟩),.pointer (some ⟨ba,0,none⟩),.pointer (some ⟨bY,0,none⟩),.pointer (some ⟨bt,0,none⟩)])]] q) ?nf
    case of0=>exact fun _ O' _=>⟨rfl,fun _ _ _ hx hl _=>ZaF Zkr rfl (hl.env 1 2 _ rfl rfl) hx⟩
    case of1=>exact fun _ O' _=>⟨rfl,fun _ _ _ hx hl _=>X7 Zbs rfl (hl.env 2 1 _ rfl rfl) nlr hx⟩
    case of2=>exact fun _ O' hO'=>⟨rfl,fun _ _ _ hx hl _=>Zs QG rfl (Zf hx (hO' _ (mo 5 rfl))) (hl.env 4 4 _ rfl rfl) rfl hx⟩
    case of3=>exact fun _ O' _=>⟨rfl,fun _ _ _ hx hl _=>Zz Zcv rfl (hl.env 0 3 _ rfl rfl) hx⟩
    case of4=>exact fun _ O' hO'=>⟨rfl,fun _ _ hk hx hl _=>r_fnB hgv ZoW rfl hS hJ hk hx (Za ((hl.D 0 45 rfl rfl).sub fun _ _ h'=>h'.1) (Za ((hl.D 1 46 rfl rfl).sub fun _ _ h'=>h'.1) (Za (XK hS hx (hO' _ (mo 6 rfl)) (hl.D 2 47 rfl rfl)) (Za ((hl.D 3 48 rfl rfl).sub fun _ _ h'=>h'.1) Zd))))⟩
    case of5=>exact fun _ O' _=>⟨rfl,fun _ _ _ hx hl _=>ZtD rfl (hl.D 4 49 rfl rfl) hx⟩
    case of6=>exact fun _ O' _=>⟨rfl,fun _ _ _ hx hl _=>ZW rfl (hl.D 5 50 rfl rfl) hx⟩
    case of7=>exact fun _ O' _=>⟨⟨_,_,_,rfl,rfl,rfl,rfl,rfl⟩,fun _ _ _ _ _ hc=>by cases hc⟩
    case of8=>exact fun _ O' hO'=>⟨⟨_,_,_,rfl,rfl,rfl,rfl,rfl⟩,fun _ _ _ hx hl _=>Zs QG rfl (Zf hx (hO' _ (mo 5 rfl))) (hl.env 4 4 _ rfl rfl) rfl hx⟩
    case of9=>exact fun _ O' _=>⟨⟨_,_,_,rfl,rfl,rfl,rfl,rfl⟩,fun _ _ _ _ _ hc=>by cases hc⟩
    case of10=>exact fun _ O' _=>⟨⟨_,_,_,rfl,rfl,rfl,rfl,rfl⟩,fun _ _ _ _ _ hc=>by cases hc⟩
    case of11=>exact fun _ O' _=>⟨rfl,fun _ _ _ hx hl _=>r_or (b:=false) rfl (hl.D 6 51 rfl rfl) (fun hg=>by cases hg) hx⟩
    case of12=>exact fun _ O' _=>⟨rfl,fun _ _ _ hx hl _=>YK rfl (hl.D 11 56 rfl rfl) hx⟩
    clear a w h
    rintro _
    dsimp only[List.map]
    exact nx (Zv (fun a w h=>lvP (ZN (m:=0) (.inl ⟨(pre0,k0,va,Mb),by first | exact Zdt (j:=(⟨d,i,ss,ts,mm⟩:Jb)) (pre:=pre0) hb1 | exact ZmI (j:=(⟨d,i,ss,ts,mm⟩:Jb)) (pre:=pre0) hb1 oz hG | exact ZeV (j:=(⟨d,i,ss,ts,mm⟩:Jb)) (pre:=pre0) hb1 oz hG | exact Zdu (j:=(⟨d,i,ss,ts,mm⟩:Jb)) (pre:=pre0) hb1 oz (ZdC hb3 hb4 hb5) | exact ZgU (j:=(⟨d,i,ss,ts,mm⟩:Jb)) (pre:=pre0) hb1 oz g3_1 oz f1_2 f1_3⟩) rfl h rfl rfl)))
   ·
    rw[hG]at hgv
    refine fun a w h=>Zj1 pv (fun q=>O3 q++([OB.var bb [.lit (.map (some mb))],OB.map keyS (fun z':List BA=>AV.rd (Zb z')) mb Mb,OB.pt bf of (frC gf),OB.pt bj oj [.ptr [Zb d.consts,Zb d.vars,Yq d.frames,.lit (.int .i64 (((i:Nat):Int))),ZQ ss,Zo ts,.lit (.int .i64 ((((ZH ss):Nat):Int))),.lit (.map (some M))]],OB.pt bs os [.lit (.int .i64 (((step:Nat):Int)))],OB.var ba [.lit va],OB.row va 3 1 (al.map Xa),OB.var bY [.lit ((.func (.yield l) #[] #[]))],OB.var bt [.lit (.func (.func 102) #[] #[.pointer (some ⟨bb,0,none⟩),.pointer (some ⟨bf,of,none⟩),.pointer (some ⟨bj,oj,none⟩),.pointer (some ⟨bs,os,none⟩),.pointer (some ⟨ba,0,none⟩),.pointer (some ⟨bY,0,none⟩),.pointer (some ⟨bt,0,none⟩)])]]++R)) [OB.var bb [.lit (.map (some mb))],OB.map keyS (fun z':List BA=>AV.rd (Zb z')) mb Mb,OB.pt bf of (frC gf),OB.pt bj oj [.ptr [Zb d.consts,Zb d.vars,Yq d.frames,.lit (.int .i64 (((i:Nat):Int))),ZQ ss,Zo ts,.lit (.int .i64 ((((ZH ss):Nat):Int))),.lit (.map (some M))]],OB.pt bs os [.lit (.int .i64 (((step:Nat):Int)))],OB.var ba [.lit va],OB.row va 3 1 (al.map Xa),OB.var bY [.lit ((.func (.yield l) #[] #[]))],OB.var bt [.lit (.func (.func 102) #[] #[.pointer (some ⟨bb,0,none⟩),.pointer (some ⟨bf,of,none⟩),.pointer (some ⟨bj,oj,none⟩),.pointer (some ⟨bs,os,none⟩),.pointer (some ⟨ba,0,none⟩),.pointer (some ⟨bY,0,none⟩),.pointer (some ⟨bt,0,none⟩)])]] (γ:=κ ⊕ σ) (fun ix'=>([.ptr [Zb d.consts,Zb d.vars,Yq d.frames,.lit (.int .i64 (((i:Nat):Int))),ZQ ss,Zo ts,.lit (.int .i64 ((((ZH ss):Nat):Int))),.lit (.map (some M))],.agg (frC gf),.lit va,.int (step:Nat),.bool true,.bool (!true),.bool (!true),.rd (.lit ((.func (.yield l) #[] #[]))),.lit va,.rd (ZX al),.any,.any,.any]:List AV).getD ix' .any) (fun ix'=>([true,true,true,true,true,true,true,(!true==false),(!true==false),(!true==false),(!true==false),true,true]:List Bool).getD ix' true) [(7,fun g=>.bool g.isLeft)] (fun(b:List Bool) (g:κ ⊕ σ)=>[OB.var bb [.lit (.map (some mb))],OB.map keyS (fun z':List BA=>AV.rd (Zb z')) mb Mb,OB.pt bf of (frC gf),OB.pt bj oj [.ptr [Zb d.consts,Zb d.vars,Yq d.frames,.lit (.int .i64 (((i:Nat):Int))),ZQ ss,Zo ts,.lit (.int .i64 ((((ZH ss):Nat):Int))),.lit (.map (some M))]],OB.pt bs os [.lit (.int .i64 (((step:Nat):Int)))],OB.var ba [.lit va],OB.row va 3 1 (al.map Xa),OB.var bY [.lit ((.func (.yield l) #[] #[]))],OB.var bt [.lit (.func (.func 102) #[] #[.pointer (some ⟨bb,0,none⟩),.pointer (some ⟨bf,of,none⟩),.pointer (some ⟨bj,oj,none⟩),.pointer (some ⟨bs,os,none⟩),.pointer (some ⟨ba,0,none⟩),.pointer (some ⟨bY,0,none⟩),.pointer (some ⟨bt,0,none⟩)])]]++(bif b.getD 0 false then g.elim (fun z=>I (pre0++[al]) z++R) (fun s=>O4 s++R)else(I pre0 k0++R))) (fun k' g=>match k' with | 0=>.bool g.isLeft | 1=>.bool g.isLeft | 2=>.bool g.isLeft | _=>undef) [10,11,12] (.inl k0) (fun _=>rfl) h hJ Yk rfl rfl rfl rfl (fun b g p hp=>List.mem_append_left _ hp) ⟨?ot0,?ot1,?ot2,?ot3,?ot4,?ot5,?ot6,?ot7,?ot8,?ot9,?ot10,?ot11,?ot12,trivial⟩ ⟨?et0,?et1,?et2,trivial⟩ ⟨.eff 2 12 7 (fun(g:κ ⊕ σ)=>.bool g.isLeft) rfl rfl (fun _=>rfl) (fun _=>True.intro),trivial⟩ (fun q=>vPan [OB.var bb [.lit (.map (some mb))],OB.map keyS (fun z':List BA=>AV.rd (Zb z')) mb Mb,OB.pt bf of (frC gf),OB.pt bj oj [.ptr [Zb d.consts,Zb d.vars,Yq d.frames,.lit (.int .i64 (((i:Nat):Int))),ZQ ss,Zo ts,.lit (.int .i64 ((((ZH ss):Nat):Int))),.lit (.map (some M))]],OB.pt bs os [.lit (.int .i64 (((step:Nat):Int)))],OB.var ba [.lit va],OB.row va 3 1 (al.map Xa),OB.var bY [.lit ((.func (.yield l) #[] #[]))],OB.var bt [.lit (.func (.func 102) #[] #[.pointer (some ⟨bb,0,none⟩),.pointer (some ⟨bf,of,none⟩),.pointer (some ⟨bj,oj,none⟩),.pointer (some ⟨bs,os,none⟩),.pointer (some ⟨ba,0,none⟩),.pointer (some ⟨bY,0,none⟩),.pointer (some ⟨bt,0,none⟩)])]] q) ?nt
    case ot0=>exact fun _ O' _=>⟨rfl,fun _ _ _ hx hl _=>ZaF Zkr rfl (hl.env 1 2 _ rfl rfl) hx⟩
    case ot1=>exact fun _ O' _=>⟨rfl,fun _ _ _ hx hl _=>X7 Zbs rfl (hl.env 2 1 _ rfl rfl) nlr hx⟩
    case ot2=>exact fun _ O' hO'=>⟨rfl,fun _ _ _ hx hl _=>Zs QG rfl (Zf hx (hO' _ (mo 5 rfl))) (hl.env 4 4 _ rfl rfl) rfl hx⟩
    case ot3=>exact fun _ O' _=>⟨rfl,fun _ _ _ hx hl _=>Zz Zcv rfl (hl.env 0 3 _ rfl rfl) hx⟩
    case ot4=>exact fun _ O' hO'=>⟨rfl,fun _ _ hk hx hl _=>r_fnB hgv ZoW rfl hS hJ hk hx (Za ((hl.D 0 45 rfl rfl).sub fun _ _ h'=>h'.1) (Za ((hl.D 1 46 rfl rfl).sub fun _ _ h'=>h'.1) (Za (XK hS hx (hO' _ (mo 6 rfl)) (hl.D 2 47 rfl rfl)) (Za ((hl.D 3 48 rfl rfl).sub fun _ _ h'=>h'.1) Zd))))⟩
    case ot5=>exact fun _ O' _=>⟨rfl,fun _ _ _ hx hl _=>ZtD rfl (hl.D 4 49 rfl rfl) hx⟩
    case ot6=>exact fun _ O' _=>⟨rfl,fun _ _ _ hx hl _=>ZW rfl (hl.D 5 50 rfl rfl) hx⟩
    case ot7=>exact fun _ O' hO'=>⟨⟨_,_,_,rfl,rfl,rfl,rfl,rfl⟩,fun _ _ _ hx hl _=>Zs ZtZ rfl (Zf hx (hO' _ (mo 7 rfl))) (hl.env 5 5 _ rfl rfl) rfl hx⟩
    case ot8=>exact fun _ O' hO'=>⟨⟨_,_,_,rfl,rfl,rfl,rfl,rfl⟩,fun _ _ _ hx hl _=>Zs QG rfl (Zf hx (hO' _ (mo 5 rfl))) (hl.env 4 4 _ rfl rfl) rfl hx⟩
    case ot9=>exact fun _ O' hO'=>⟨⟨_,_,_,rfl,rfl,rfl,rfl,rfl⟩,fun _ _ hk hx hl _=>ZpV hcl Zgp rfl hS hJ hk hx (Za (XK hS hx (hO' _ (mo 6 rfl)) (hl.D 8 53 rfl rfl)) Zd)⟩
    case ot10=>exact Zi rfl
    case ot11=>exact Zi rfl
    case ot12=>exact Zi rfl
    case et0=>exact effZ [[false,false,false]] (by kernel_rfl) rfl rfl ⟨_,_,_,rfl,rfl,rfl,rfl,rfl⟩ rfl ⟨fun g a w hk hx hl hs=>Zfv (ZuI (I':=fun z=>I (pre0++[al]) z) (O:=I pre0 k0) (R:=R) (avl:=[.rd (ZX al)]) (xs:=[.tmp 54]) [OB.var bb [.lit (.map (some mb))],OB.map keyS (fun z':List BA=>AV.rd (Zb z')) mb Mb,OB.pt bf of (frC gf),OB.pt bj oj [.ptr [Zb d.consts,Zb d.vars,Yq d.frames,.lit (.int .i64 (((i:Nat):Int))),ZQ ss,Zo ts,.lit (.int .i64 ((((ZH ss):Nat):Int))),.lit (.map (some M))]],OB.pt bs os [.lit (.int .i64 (((step:Nat):Int)))],OB.var ba [.lit va],OB.row va 3 1 (al.map Xa),OB.var bY [.lit ((.func (.yield l) #[] #[]))],OB.var bt [.lit (.func (.func 102) #[] #[.pointer (some ⟨bb,0,none⟩),.pointer (some ⟨bf,of,none⟩),.pointer (some ⟨bj,oj,none⟩),.pointer (some ⟨bs,os,none⟩),.pointer (some ⟨ba,0,none⟩),.pointer (some ⟨bY,0,none⟩),.pointer (some ⟨bt,0,none⟩)])]] rfl rfl hk hx (hl.D 7 52 rfl rfl).lit (Za (hl.D 9 54 rfl rfl) Zd) (fun m' R' w1 vs hk hx hv=>hY m' R' pre0 al k0 w1 vs (by rw[(ZeV (j:=(⟨d,i,ss,ts,mm⟩:Jb)) (pre:=pre0) (k:=q) hb1 oz hG).1];exact hp) hk hx hv)) (fun v w' ⟨g',e',hs'⟩=>⟨g',(fun k' hk'=>by rcases k' with _ | _ | _ | k'<;>first | rfl | cases hk'),fun _=>e',True.intro,hs'⟩) (fun c w' hc=>hc),trivial⟩
    case et1=>exact effZ [[true,false,false]] (by kernel_rfl) rfl rfl rfl rfl ⟨fun g a w hk hx hl hs=>(Zk (r_or (b:=g.isLeft) rfl (hl.D 6 51 rfl rfl) (fun _=>by rw[hs 0 10 _ 55 rfl rfl rfl rfl];exact Rel.of_lit _) hx) fun v w' hp=>⟨g,fun _ _=>rfl,fun _=>hp.1.lit,True.intro,Zdz hJ hk hx hp.2.1⟩).toP,trivial⟩
    case et2=>exact effZ [[true,true,false]] (by kernel_rfl) rfl rfl rfl rfl ⟨fun g a w hk hx hl hs=>(Zk (YK (S:=S) (av:=.bool g.isLeft) rfl (by rw[hs 1 11 _ 56 rfl rfl rfl rfl];exact Rel.of_lit _) hx) fun v w' hp=>⟨g,fun _ _=>rfl,fun _=>hp.1.lit,True.intro,Zdz hJ hk hx hp.2.1⟩).toP,trivial⟩
    clear a w h
    rintro(z9 | s9)
    ·
     dsimp only[List.map]
     exact nx (Zv (fun a w h=>lvP (ZN (m:=0) (.inl ⟨((pre0++[al]),z9,va,Mb),by first | exact Zdt (j:=(⟨d,i,ss,ts,mm⟩:Jb)) (pre:=pre0) hb1 | exact ZmI (j:=(⟨d,i,ss,ts,mm⟩:Jb)) (pre:=pre0) hb1 oz hG | exact ZeV (j:=(⟨d,i,ss,ts,mm⟩:Jb)) (pre:=pre0) hb1 oz hG | exact Zdu (j:=(⟨d,i,ss,ts,mm⟩:Jb)) (pre:=pre0) hb1 oz (ZdC hb3 hb4 hb5) | exact ZgU (j:=(⟨d,i,ss,ts,mm⟩:Jb)) (pre:=pre0) hb1 oz g3_1 oz f1_2 f1_3⟩) rfl h rfl rfl)))
    ·
     dsimp only[List.map]
     exact nx (Zv (fun a w h=>lvP (ZN (m:=0) (.inr ⟨(s9,va,al,Mb),by first | exact Nat.le_of_eq hq.symm | (simp only[List.length_take];omega)⟩) rfl h rfl rfl)))
  ·
   try simp at hb2
   have e2:q<gf.hyps.length:=by omega
   refine Zc (nx (tsq (snK 3 tb (env':=[(59,_),(58,_),(57,_),(3,_),(2,_),(1,_),(0,_),(4,_),(5,_),(6,_),(10,_),(42,_),(44,_)]) rfl (sy (.ptr (hyC (ge gf.hyps q))) (fun h=>ZU (i:=((q:Nat):Int)) ZG rfl (h.get 1 rfl) (h.get 0 rfl) nnn (Z0 (xs:=gf.hyps) (k:=q) (by first | omega | (simp;omega) | grind[Zg])) rfl h.x) ?_))))
   refine snK 1 tb (env':=[(61,_),(60,_),(59,_),(58,_),(57,_),(3,_),(2,_),(1,_),(0,_),(4,_),(5,_),(6,_),(10,_),(42,_),(44,_)]) rfl (X1 (cs:=hyC (ge gf.hyps q)) Zaf rfl rfl rfl (lb rfl) rfl rfl rfl dz (m:=0) rfl rfl (fun a w h=>Zm hS _ h.keep h.x _ nlr) (fun a w h w' hk'=>Yn hJ _ _ hk' h.x) ?_)
   refine seK [0,6,7,8,9,10,12,13] [_,_,_,_,_,_,_,_] rfl (nx (qso tb hJ [0,1,2,3,4,5,6,7,1001,1002] [_,_,_] [_,_,_,_,_,_,_,_,_,_] ?_))
   refine Zh (qso tb hJ [0,1,2,3,4,5,6,7,8,9,1002] [_,_,_] [_,_,_,_,_,_,_,_,_,_,_] ?_)
   refine jnoK (ι:=Nat×Nat) (fun(sA,sB)=>(ZaC (⟨d,i,ss,ts,mm⟩:Jb) gf.hyps step (ge gf.hyps q) Mb=(sA,sB))∧(sA≤sB)∧(sB≤step)) (fun(_,_)=>(OB.var bb [.lit (.map (some mb))]::OB.map keyS (fun z':List BA=>AV.rd (Zb z')) mb Mb::OB.pt bf of (frC gf)::OB.pt bj oj [.ptr [Zb d.consts,Zb d.vars,Yq d.frames,.lit (.int .i64 (((i:Nat):Int))),ZQ ss,Zo ts,.lit (.int .i64 ((((ZH ss):Nat):Int))),.lit (.map (some M))]]::OB.pt bs os [.lit (.int .i64 (((step:Nat):Int)))]::OB.var ba [.lit va]::OB.row va 3 1 (al.map Xa)::OB.var bY [.lit ((.func (.yield l) #[] #[]))]::OB.var bt [.lit (.func (.func 102) #[] #[.pointer (some ⟨bb,0,none⟩),.pointer (some ⟨bf,of,none⟩),.pointer (some ⟨bj,oj,none⟩),.pointer (some ⟨bs,os,none⟩),.pointer (some ⟨ba,0,none⟩),.pointer (some ⟨bY,0,none⟩),.pointer (some ⟨bt,0,none⟩)])]::(I pre0 k0++R))) (fun(sA,sB)=>[(11,.ptr (hyC (ge gf.hyps q))),(2,.ptr [.ptr [Zb d.consts,Zb d.vars,Yq d.frames,.lit (.int .i64 (((i:Nat):Int))),ZQ ss,Zo ts,.lit (.int .i64 ((((ZH ss):Nat):Int))),.lit (.map (some M))]]),(0,.at bb 0),(4,.at ba 0),(6,.at bt 0),(10,.int (q:Nat)),(12,.int (sA:Nat)),(13,.int (sB:Nat))]) ?_ ?_
   ·
    refine cj 10 (fun hb3=>?_) fun hb3=>?_
    ·
     try simp at hb3
     refine Zh (tw pm1 (fun a w h=>Qu (OB.var bb [.lit (.map (some mb))]::OB.pt bf of (frC gf)::OB.pt bj oj [.ptr [Zb d.consts,Zb d.vars,Yq d.frames,.lit (.int .i64 (((i:Nat):Int))),ZQ ss,Zo ts,.lit (.int .i64 ((((ZH ss):Nat):Int))),.lit (.map (some M))]]::OB.pt bs os [.lit (.int .i64 (((step:Nat):Int)))]::OB.var ba [.lit va]::OB.row va 3 1 (al.map Xa)::OB.var bY [.lit ((.func (.yield l) #[] #[]))]::OB.var bt [.lit (.func (.func 102) #[] #[.pointer (some ⟨bb,0,none⟩),.pointer (some ⟨bf,of,none⟩),.pointer (some ⟨bj,oj,none⟩),.pointer (some ⟨bs,os,none⟩),.pointer (some ⟨ba,0,none⟩),.pointer (some ⟨bY,0,none⟩),.pointer (some ⟨bt,0,none⟩)])]::(I pre0 k0++R)) (γ:=Value) (fun ix'=>([.ptr [Zb ((ge gf.hyps q).text)],.rd (Zb ((ge gf.hyps q).text)),.lit (.map (some mb)),.rd (ZfC (YO Mb)),.tup [.rd (Zb (((if XL (ZO (YO Mb)) ((ge gf.hyps q).text) 2000 then Xb (ZO (YO Mb)) ((ge gf.hyps q).text)else [])))),.int ((if XL (ZO (YO Mb)) ((ge gf.hyps q).text) 2000 then 0 else 15))],.tup [.rd (Zb (((if XL (ZO (YO Mb)) ((ge gf.hyps q).text) 2000 then Xb (ZO (YO Mb)) ((ge gf.hyps q).text)else [])))),.int ((if XL (ZO (YO Mb)) ((ge gf.hyps q).text) 2000 then 0 else 15))],.rd (Zb (((if XL (ZO (YO Mb)) ((ge gf.hyps q).text) 2000 then Xb (ZO (YO Mb)) ((ge gf.hyps q).text)else [])))),.int ((if XL (ZO (YO Mb)) ((ge gf.hyps q).text) 2000 then 0 else 15)),.rd (Zb (((if XL (ZO (YO Mb)) ((ge gf.hyps q).text) 2000 then Xb (ZO (YO Mb)) ((ge gf.hyps q).text)else [])))),.int ((if XL (ZO (YO Mb)) ((ge gf.hyps q).text) 2000 then 0 else 15))]:List AV).getD ix' .any) (fun _=>true) [(11,fun _=>.ptr (hyC (ge gf.hyps q))),(3,fun _=>.ptr [.lit (.int .i64 (((step:Nat):Int)))]),(2,fun _=>.ptr [.ptr [Zb d.consts,Zb d.vars,Yq d.frames,.lit (.int .i64 (((i:Nat):Int))),ZQ ss,Zo ts,.lit (.int .i64 ((((ZH ss):Nat):Int))),.lit (.map (some M))]]),(1,fun _=>.ptr (frC gf)),(0,fun _=>.at bb 0),(4,fun _=>.at ba 0),(6,fun _=>.at bt 0),(10,fun _=>.int (q:Nat)),(12,fun _=>.int (0:Int)),(13,fun _=>.int (step:Nat)),(14,fun _=>.rd (Zb (((if XL (ZO (YO Mb)) ((ge gf.hyps q).text) 2000 then Xb (ZO (YO Mb)) ((ge gf.hyps q).text)else []))))),(15,fun _=>.int ((if XL (ZO (YO Mb)) ((ge gf.hyps q).text) 2000 then 0 else 15)))] (fun(b:List Bool) (g:Value)=>[OB.map keyS (fun z':List BA=>AV.rd (Zb z')) mb Mb]++((OB.var bb [.lit (.map (some mb))]::OB.pt bf of (frC gf)::OB.pt bj oj [.ptr [Zb d.consts,Zb d.vars,Yq d.frames,.lit (.int .i64 (((i:Nat):Int))),ZQ ss,Zo ts,.lit (.int .i64 ((((ZH ss):Nat):Int))),.lit (.map (some M))]]::OB.pt bs os [.lit (.int .i64 (((step:Nat):Int)))]::OB.var ba [.lit va]::OB.row va 3 1 (al.map Xa)::OB.var bY [.lit ((.func (.yield l) #[] #[]))]::OB.var bt [.lit (.func (.func 102) #[] #[.pointer (some ⟨bb,0,none⟩),.pointer (some ⟨bf,of,none⟩),.pointer (some ⟨bj,oj,none⟩),.pointer (some ⟨bs,os,none⟩),.pointer (some ⟨ba,0,none⟩),.pointer (some ⟨bY,0,none⟩),.pointer (some ⟨bt,0,none⟩)])]::(I pre0 k0++R)))) (fun k' g=>match k' with | 0=>g | _=>undef) [3] undef (fun _=>rfl) h hJ Yk rfl rfl rfl rfl (fun b g p hp=>(List.mem_append_right _ hp)) ⟨?_,?_,?_,?_,?_,?_,?_,?_,?_,?_,trivial⟩ ⟨?e10_1_0,trivial⟩ ⟨.old 0 11 _,.old 1 3 _,.old 2 2 _,.old 3 1 _,.old 4 0 _,.old 5 4 _,.old 6 6 _,.old 7 10 _,.old 8 12 _,.old 9 13 _,.new 8 14 _,.new 9 15 _,trivial⟩ ?n10_1))
     exact oX rfl fun hx hl=>ZE Y0 rfl (hl.env 0 11 _ rfl rfl) hx
     exact oX rfl fun hx hl=>Zz Qg rfl (hl.D 0 67 rfl rfl) hx
     exact fun _ O' hO'=>⟨rfl,fun _ _ _ hx hl _=>Zs Zcw rfl (Zf hx (hO' _ (mo 0 rfl))) (hl.env 4 0 _ rfl rfl) rfl hx⟩
     exact Zi rfl
     exact oY rfl fun hk hx hl=>Zbj (Zhf hJ ((ge gf.hyps q).text) (YO Mb) 2000 (by first | omega | (simp;omega) | grind[Zg]) (by exact fun b hb=>(hM.lst b hb).1)) Zla rfl (Zm hS _ hk hx) (hx.1) (Za (hl.D 1 68 rfl rfl) (Za (hl.D 3 70 rfl rfl) (Za (Rel.of_lit (Go.Value.int Go.IntKind.i64 2000)) Zd))) (jo hJ hx)
     exact oX rfl fun hx hl=>ZW rfl (hl.D 4 71 rfl rfl) hx
     exact oX rfl fun hx hl=>Yo rfl (hl.D 5 66 rfl rfl) rfl hx
     exact oX rfl fun hx hl=>Yo rfl (hl.D 5 66 rfl rfl) rfl hx
     exact oX rfl fun hx hl=>YK rfl (hl.D 6 72 rfl rfl) hx
     exact oX rfl fun hx hl=>YK rfl (hl.D 7 73 rfl rfl) hx
     case e10_1_0=>exact ZeL [[false]] (by kernel_rfl) rfl rfl rfl rfl ⟨fun _ _ w hk hx hl _=>Zk (ZsW (O:=[OB.map keyS (fun z':List BA=>AV.rd (Zb z')) mb Mb]) (R:=(OB.var bb [.lit (.map (some mb))]::OB.pt bf of (frC gf)::OB.pt bj oj [.ptr [Zb d.consts,Zb d.vars,Yq d.frames,.lit (.int .i64 (((i:Nat):Int))),ZQ ss,Zo ts,.lit (.int .i64 ((((ZH ss):Nat):Int))),.lit (.map (some M))]]::OB.pt bs os [.lit (.int .i64 (((step:Nat):Int)))]::OB.var ba [.lit va]::OB.row va 3 1 (al.map Xa)::OB.var bY [.lit ((.func (.yield l) #[] #[]))]::OB.var bt [.lit (.func (.func 102) #[] #[.pointer (some ⟨bb,0,none⟩),.pointer (some ⟨bf,of,none⟩),.pointer (some ⟨bj,oj,none⟩),.pointer (some ⟨bs,os,none⟩),.pointer (some ⟨ba,0,none⟩),.pointer (some ⟨bY,0,none⟩),.pointer (some ⟨bt,0,none⟩)])]::(I pre0 k0++R))) (Znm hJ mb Mb (by exact hM.nd) (by exact hM.key hT.fl (fun y h=>(hT.tx y h).2)) (by have:=hM.len;omega)) Zjl rfl hS hJ0 Zq hk hx (Za (hl.D 2 69 rfl rfl) Zd)) fun v w' ⟨i,hp,hv⟩=>⟨v,(fun k' hk'=>by rcases k' with _ | k'<;>first | rfl | cases hk'),fun _=>rfl,hv,hp⟩,trivial⟩
     clear a w h
     intro x1
     dsimp only[List.map]
     refine nx (ln 10 fun hl5=>?_)
     refine ZK tb hJ [0,1,2,4,5,6,7,8,9,10,11,1003,1004] [.lit (.map (some mb)),_,_,_,.bool (Zvg gf.hyps Mb ((ge gf.hyps q).text))] [0,4] [_,_,_,_,_,_,_,_,_,_,_,_,_] rfl ⟨fun _ _ _ hx hl _=>Zs Zcw rfl (Zf hx (mo 1 rfl)) (hl.env 4 0 _ rfl rfl) rfl hx,fun _ _ hk hx hl _=>YX (ZtM hJ mb Mb gf ((ge gf.hyps q).text) (by exact hT.fl)) ZrX rfl (Zm hS _ hk hx) (hx.1) (ZF (Zf hx (mo 0 rfl)) Zq) (Za (hl.D 0 74 rfl rfl) (Za (hl.D 1 75 rfl rfl) (Za (hl.D 3 77 rfl rfl) Zd))) (jo hJ hx),trivial⟩ ?_
     refine ln 11 fun hl6=>?_
     refine cj 12 (fun hb4=>?_) fun hb4=>?_
     ·
      try simp at hb4
      refine ZK tb hJ [0,1,2,3,4,5,6,10,1010,1011] [_,_,_,_,_,.str (Xz ((((if XL (ZO (YO Mb)) ((ge gf.hyps q).text) 2000 then Xb (ZO (YO Mb)) ((ge gf.hyps q).text)else []))))),.tup [.int (((Zw mm (Xz ((((if XL (ZO (YO Mb)) ((ge gf.hyps q).text) 2000 then Xb (ZO (YO Mb)) ((ge gf.hyps q).text)else [])))))).getD default)),.bool ((Zw mm (Xz ((((if XL (ZO (YO Mb)) ((ge gf.hyps q).text) 2000 then Xb (ZO (YO Mb)) ((ge gf.hyps q).text)else [])))))).isSome)],_,_,_,_,_] [5,6] [_,_,_,_,_,_,_,_,_,_] rfl ⟨iFo hS hJ (Zp2 hJ ((((if XL (ZO (YO Mb)) ((ge gf.hyps q).text) 2000 then Xb (ZO (YO Mb)) ((ge gf.hyps q).text)else [])))) (by first | exact(Zdh hT hM (Zg oz)).1 | exact(hT.ts _ (Zg (show sA+n<ts.length by omega))).1.2) (by first | exact(Zdh hT hM (Zg oz)).2 | exact(hT.ts _ (Zg (show sA+n<ts.length by omega))).2)) Zgo,fun _ _ hk hx hl _=>Xm (Kd:=keyS) (f:=(fun z':Int=>AV.int z')) (L:=mm) ZaI ZbC (Xz ((((if XL (ZO (YO Mb)) ((ge gf.hyps q).text) 2000 then Xb (ZO (YO Mb)) ((ge gf.hyps q).text)else []))))) rfl (ZI hH hk hx (mo 0 rfl)) (hl.D 3 83 rfl rfl) (hl.D 5 85 rfl rfl) hx,trivial⟩ ?_
      refine Zh (qso tb hJ [0,2,3,4,5,6,8,1010] [_,_,_,_,_,_,_,_,_,_,_] [_,_,_,_,_,_,_,_] ?_)
      refine cj 7 (fun hb5=>?_) fun hb5=>?_
      ·
       refine qso tb hJ [1000] [_] [_] ?_
       refine tw pm8 (tw pm8 ?_)
       refine tw pm8 (tw pm8 ?_)
       refine tw pm8 (tw pm8 ?_)
       refine tw pm8 (tw pm7 ?_)
       exact tw pm8 (Zv (fun a w h=>lvP (ZN (m:=0) (.inl ⟨(pre0,k0,va,Mb),by first | exact Zdt (j:=(⟨d,i,ss,ts,mm⟩:Jb)) (pre:=pre0) hb1 | exact ZmI (j:=(⟨d,i,ss,ts,mm⟩:Jb)) (pre:=pre0) hb1 oz hG | exact ZeV (j:=(⟨d,i,ss,ts,mm⟩:Jb)) (pre:=pre0) hb1 oz hG | exact Zdu (j:=(⟨d,i,ss,ts,mm⟩:Jb)) (pre:=pre0) hb1 oz (ZdC hb3 hb4 hb5) | exact ZgU (j:=(⟨d,i,ss,ts,mm⟩:Jb)) (pre:=pre0) hb1 oz g3_1 oz f1_2 f1_3⟩) rfl h rfl rfl)))
      ·
       have e5:0≤(Zw mm (Xz (if XL (ZO (YO Mb)) (ge gf.hyps q).text 2000 then Xb (ZO (YO Mb)) (ge gf.hyps q).text else []))).getD default∧(Zw mm (Xz (if XL (ZO (YO Mb)) (ge gf.hyps q).text 2000 then Xb (ZO (YO Mb)) (ge gf.hyps q).text else []))).getD default< (step:Int)∧ZaC (⟨d,i,ss,ts,mm⟩:Jb) gf.hyps step (ge gf.hyps q) Mb=(((Zw mm (Xz (if XL (ZO (YO Mb)) (ge gf.hyps q).text 2000 then Xb (ZO (YO Mb)) (ge gf.hyps q).text else []))).getD default).toNat,((Zw mm (Xz (if XL (ZO (YO Mb)) (ge gf.hyps q).text 2000 then Xb (ZO (YO Mb)) (ge gf.hyps q).text else []))).getD default).toNat+1):=sp_one hT hb3 hb4 hb5
       refine Zc (nx (YR tb hJ [0,1,2,3,4,5,1003,1004] [_,_,.int (((Zw mm (Xz ((((if XL (ZO (YO Mb)) ((ge gf.hyps q).text) 2000 then Xb (ZO (YO Mb)) ((ge gf.hyps q).text)else [])))))).getD default)+(1:Int)),_,_] [2] [_,_,_,_,_,_,_,_] rfl ⟨YN,trivial⟩ ?_))
       refine kw (sa 6 rfl (congrArg AV.int (show((Zw mm (Xz ((((if XL (ZO (YO Mb)) ((ge gf.hyps q).text) 2000 then Xb (ZO (YO Mb)) ((ge gf.hyps q).text)else [])))))).getD default)=((((Zw mm (Xz (if XL (ZO (YO Mb)) (ge gf.hyps q).text 2000 then Xb (ZO (YO Mb)) (ge gf.hyps q).text else []))).getD default).toNat:Nat):Int)from by omega))) (kw (sa 7 rfl (congrArg AV.int (show((Zw mm (Xz ((((if XL (ZO (YO Mb)) ((ge gf.hyps q).text) 2000 then Xb (ZO (YO Mb)) ((ge gf.hyps q).text)else [])))))).getD default)+(1:Int)=((((Zw mm (Xz (if XL (ZO (YO Mb)) (ge gf.hyps q).text 2000 then Xb (ZO (YO Mb)) (ge gf.hyps q).text else []))).getD default).toNat+1:Nat):Int)from by omega))) ?_)
       refine kw pm8 (kw pm8 ?_)
       refine kw pm8 (kw pm8 ?_)
       refine kw pm8 (kw pm8 ?_)
       refine kw pm8 (kw pm7 ?_)
       exact kw pm8 (Zud (((Zw mm (Xz (if XL (ZO (YO Mb)) (ge gf.hyps q).text 2000 then Xb (ZO (YO Mb)) (ge gf.hyps q).text else []))).getD default).toNat,((Zw mm (Xz (if XL (ZO (YO Mb)) (ge gf.hyps q).text 2000 then Xb (ZO (YO Mb)) (ge gf.hyps q).text else []))).getD default).toNat+1) [0,1,2,3,4,5,6,7] ⟨by first | exact ZfK hb3 | exact ZiB hb4 | exact e5.2.2,oz,oz⟩)
     ·
      try simp at hb4
      refine Zc (kw pm8 (kw pm8 ?_))
      refine kw pm8 (kw pm8 ?_)
      refine kw pm8 (kw pm8 ?_)
      refine kw pm8 (kw pm7 ?_)
      exact kw pm8 (Zud (0,step) [0,2,3,4,5,6,7,8] ⟨by first | exact ZfK hb3 | exact ZiB hb4 | exact e5.2.2,oz,oz⟩)
    ·
     try simp at hb3
     exact Zc (Zud (0,step) [0,2,4,5,6,7,8,9] ⟨by first | exact ZfK hb3 | exact ZiB hb4 | exact e5.2.2,oz,oz⟩)
   ·
    rintro⟨sA,sB⟩ ⟨g3_1,g3_2,g3_3⟩
    refine Zh (qso tb hJ [0,1,2,3,4,5,7,1001] [_,_] [_,_,_,_,_,_,_,_] ?_)
    refine Ze (lpo (ι:=Nat×BM×Value×(List (List Int))×κ) (fun(n,M2,_,pre,_)=>(sA+n≤sB)∧(pre=pre0++(ZbE (⟨d,i,ss,ts,mm⟩:Jb) gf step q Mb al sA n).1)∧(M2=(ZbE (⟨d,i,ss,ts,mm⟩:Jb) gf step q Mb al sA n).2)) (fun(_,M2,wa,pre,kk)=>(OB.var bb [.lit (.map (some mb))]::OB.map keyS (fun z':List BA=>AV.rd (Zb z')) mb M2::OB.pt bf of (frC gf)::OB.pt bj oj [.ptr [Zb d.consts,Zb d.vars,Yq d.frames,.lit (.int .i64 (((i:Nat):Int))),ZQ ss,Zo ts,.lit (.int .i64 ((((ZH ss):Nat):Int))),.lit (.map (some M))]]::OB.pt bs os [.lit (.int .i64 (((step:Nat):Int)))]::OB.var ba [.lit wa]::OB.row wa 3 1 (al.map Xa)::OB.var bY [.lit ((.func (.yield l) #[] #[]))]::OB.var bt [.lit (.func (.func 102) #[] #[.pointer (some ⟨bb,0,none⟩),.pointer (some ⟨bf,of,none⟩),.pointer (some ⟨bj,oj,none⟩),.pointer (some ⟨bs,os,none⟩),.pointer (some ⟨ba,0,none⟩),.pointer (some ⟨bY,0,none⟩),.pointer (some ⟨bt,0,none⟩)])]::(I pre kk++R))) (fun(n,_,_,_,_)=>[(18,.int (sA+n:Nat))]) (fun(n,_,_,_,_)=>sB-(sA+n)) [0,1,2,3,4,5,6,7] [_,_,_,_,_,_,_] (0,Mb,va,pre0,k0) ⟨oz,by rw[Ziw];simp,by rw[Ziw]⟩ ?_)
    rintro⟨n,M2,wa,pre,kk⟩ ⟨f1_1,f1_2,f1_3⟩
    refine Zh (qso tb hJ [0,1,2,3,4,5,6,7,1002] [_,_,_] [_,_,_,_,_,_,_,_,_] ?_)
    refine cj 8 (fun hb6=>?_) fun hb6=>?_
    ·
     try simp at hb6
     have h6:1≤(ge ts (sA+n)).length∧(ge ts (sA+n)).length≤2000:=(hT.ts _ (Zg (show sA+n<ts.length by omega))).1
     have h5:1≤(ge gf.hyps q).text.length:=(hT.tx _ (Zg e2)).1
     refine Zc (nx (Zh (Ze (ZK tb hJ [0,1,2,3,4,5,6,7,1006,1007] [_,_,_,_,_,.ptr [Zb ((ge ts (sA+n)))],_,_] [5] [_,_,_,_,_,_,_,_,_,_] rfl ⟨iIx Yh,trivial⟩ ?_))))
     refine ln 8 fun hl7=>?_
     refine Zh (ZK tb hJ [0,1,2,3,4,5,6,7,9,1018] [_,_,_,_,_,.str (Xz ((ge ts (sA+n)))),.int (((Zw mm (Xz ((ge ts (sA+n))))).getD default)),_,_,_,_,.ptr [.lit (.string ((ge ((ge ts (sA+n))) 0)))],_,_,_,.ptr [.lit (.string ((ge ((ge gf.hyps q).text) 0)))],_,_,_] [5,6,11,15] [_,_,_,_,_,_,_,_,_,_] rfl ⟨iFo hS hJ (Zp2 hJ ((ge ts (sA+n))) (by first | exact(Zdh hT hM (Zg oz)).1 | exact(hT.ts _ (Zg (show sA+n<ts.length by omega))).1.2) (by first | exact(Zdh hT hM (Zg oz)).2 | exact(hT.ts _ (Zg (show sA+n<ts.length by omega))).2)) Zgo,fun _ _ hk hx hl _=>ZfQ (Kd:=keyS) (f:=(fun z':Int=>AV.int z')) (L:=mm) ZaI ZbC (Xz ((ge ts (sA+n)))) rfl (ZI hH hk hx (mo 0 rfl)) (hl.D 3 119 rfl rfl) (hl.D 5 121 rfl rfl) hx,gIx (k:=0) Zl (hk:=fun(hc':(((!decide (((Zw mm (Xz ((ge ts (sA+n))))).getD default)=((sA+n:Nat):Int)))==false))=true)=>by(try simp at hc');first | omega | (simp;omega) | grind[Zg]),gIx (k:=0) Zl (hk:=fun(hc':(((!decide (((Zw mm (Xz ((ge ts (sA+n))))).getD default)=((sA+n:Nat):Int)))==false))=true)=>by(try simp at hc');first | omega | (simp;omega) | grind[Zg]),trivial⟩ ?_)
     refine cj 9 (fun hb7=>?_) fun hb7=>?_
     ·
      have ho:Zmp (⟨d,i,ss,ts,mm⟩:Jb) (ge gf.hyps q) (sA+n)=false:=(ZsG hT (show sA+n<ts.length by omega)).trans (by have h9:=congrArg (fun b'=>!b') hb7;exact h9)
      refine Zu (nx (YR tb hJ [0,1,2,3,4,5,6,1002] [_,.int (sA+n+1:Nat),_] [1] [_,_,_,_,_,_,_,_] rfl ⟨YN,trivial⟩ ?_))
      exact Xf ((n+1),M2,wa,pre,kk) [0,1,2,3,4,5,6,7] ⟨oz,by first | (rw[Zcp ho];exact f1_2) | exact(ZaA (j:=(⟨d,i,ss,ts,mm⟩:Jb)) f1_2 f1_3 g8_1 rfl ho ez).1,by first | (rw[Zcp ho];exact f1_3) | exact(if_pos hb9).symm.trans (ZaA (j:=(⟨d,i,ss,ts,mm⟩:Jb)) f1_2 f1_3 g8_1 rfl ho ez).2 | exact(if_neg (by simp[hb9])).symm.trans (ZaA (j:=(⟨d,i,ss,ts,mm⟩:Jb)) f1_2 f1_3 g8_1 rfl ho ez).2⟩
     ·
      have ho:Zmp (⟨d,i,ss,ts,mm⟩:Jb) (ge gf.hyps q) (sA+n)=true:=(ZsG hT (show sA+n<ts.length by omega)).trans (by have h9:=congrArg (fun b'=>!b') hb7;exact h9)
      refine Zc (nx (Zh (qso tb hJ [0,1,2,3,4,5,6,7,8,1001] [_,_] [_,_,_,_,_,_,_,_,_,_] ?_)))
      refine jnoK (ι:=BM) (fun M3=>(M3=if(ge gf.hyps q).floating then Xu M2 (ge (ge gf.hyps q).text 1) ((ge ts (sA+n)).drop 1)else M2)) (fun M3=>(OB.var bb [.lit (.map (some mb))]::OB.map keyS (fun z':List BA=>AV.rd (Zb z')) mb M3::OB.pt bf of (frC gf)::OB.pt bj oj [.ptr [Zb d.consts,Zb d.vars,Yq d.frames,.lit (.int .i64 (((i:Nat):Int))),ZQ ss,Zo ts,.lit (.int .i64 ((((ZH ss):Nat):Int))),.lit (.map (some M))]]::OB.pt bs os [.lit (.int .i64 (((step:Nat):Int)))]::OB.var ba [.lit wa]::OB.row wa 3 1 (al.map Xa)::OB.var bY [.lit ((.func (.yield l) #[] #[]))]::OB.var bt [.lit (.func (.func 102) #[] #[.pointer (some ⟨bb,0,none⟩),.pointer (some ⟨bf,of,none⟩),.pointer (some ⟨bj,oj,none⟩),.pointer (some ⟨bs,os,none⟩),.pointer (some ⟨ba,0,none⟩),.pointer (some ⟨bY,0,none⟩),.pointer (some ⟨bt,0,none⟩)])]::(I pre kk++R))) (fun _=>[(11,.ptr (hyC (ge gf.hyps q))),(2,.ptr [.ptr [Zb d.consts,Zb d.vars,Yq d.frames,.lit (.int .i64 (((i:Nat):Int))),ZQ ss,Zo ts,.lit (.int .i64 ((((ZH ss):Nat):Int))),.lit (.map (some M))]]),(0,.at bb 0),(4,.at ba 0),(6,.at bt 0),(10,.int (q:Nat)),(13,.int (sB:Nat)),(18,.int (sA+n:Nat))]) ?_ ?_
      ·
       refine cj 9 (fun hb8=>?_) fun hb8=>?_
       ·
        try simp at hb8
        have e3:(ge gf.hyps q).text.length=2:=hT.fl _ (Zg oz) hb8
        have e4:=(hT.ts _ (Zg (show sA+n<ts.length by omega))).1
        refine tw pm1 (fun a w h=>YJ (γ:=Unit) (fun ix'=>([.lit (.map (some mb)),.ptr [Zb ((ge gf.hyps q).text)],.rd (Zb ((ge gf.hyps q).text)),.ptr [.lit (.string ((ge ((ge gf.hyps q).text) 1)))],.str ((ge ((ge gf.hyps q).text) 1)),.rd (Zb ((ge ts (sA+n)))),.rd (Zb (((ge ts (sA+n))).drop 1)),.any]:List AV).getD ix' .any) (fun _=>true) [(11,fun _=>.ptr (hyC (ge gf.hyps q))),(2,fun _=>.ptr [.ptr [Zb d.consts,Zb d.vars,Yq d.frames,.lit (.int .i64 (((i:Nat):Int))),ZQ ss,Zo ts,.lit (.int .i64 ((((ZH ss):Nat):Int))),.lit (.map (some M))]]),(0,fun _=>.at bb 0),(4,fun _=>.at ba 0),(6,fun _=>.at bt 0),(10,fun _=>.int (q:Nat)),(13,fun _=>.int (sB:Nat)),(18,fun _=>.int (sA+n:Nat))] (fun j' _=>match j' with | 0=>(OB.map keyS (fun z':List BA=>AV.rd (Zb z')) mb M2::OB.var bb [.lit (.map (some mb))]::OB.pt bf of (frC gf)::OB.pt bj oj [.ptr [Zb d.consts,Zb d.vars,Yq d.frames,.lit (.int .i64 (((i:Nat):Int))),ZQ ss,Zo ts,.lit (.int .i64 ((((ZH ss):Nat):Int))),.lit (.map (some M))]]::OB.pt bs os [.lit (.int .i64 (((step:Nat):Int)))]::OB.var ba [.lit wa]::OB.row wa 3 1 (al.map Xa)::OB.var bY [.lit ((.func (.yield l) #[] #[]))]::OB.var bt [.lit (.func (.func 102) #[] #[.pointer (some ⟨bb,0,none⟩),.pointer (some ⟨bf,of,none⟩),.pointer (some ⟨bj,oj,none⟩),.pointer (some ⟨bs,os,none⟩),.pointer (some ⟨ba,0,none⟩),.pointer (some ⟨bY,0,none⟩),.pointer (some ⟨bt,0,none⟩)])]::(I pre kk++R)) | _=>(OB.map keyS (fun z':List BA=>AV.rd (Zb z')) mb (Xu M2 ((ge ((ge gf.hyps q).text) 1)) (((ge ts (sA+n))).drop 1))::OB.var bb [.lit (.map (some mb))]::OB.pt bf of (frC gf)::OB.pt bj oj [.ptr [Zb d.consts,Zb d.vars,Yq d.frames,.lit (.int .i64 (((i:Nat):Int))),ZQ ss,Zo ts,.lit (.int .i64 ((((ZH ss):Nat):Int))),.lit (.map (some M))]]::OB.pt bs os [.lit (.int .i64 (((step:Nat):Int)))]::OB.var ba [.lit wa]::OB.row wa 3 1 (al.map Xa)::OB.var bY [.lit ((.func (.yield l) #[] #[]))]::OB.var bt [.lit (.func (.func 102) #[] #[.pointer (some ⟨bb,0,none⟩),.pointer (some ⟨bf,of,none⟩),.pointer (some ⟨bj,oj,none⟩),.pointer (some ⟨bs,os,none⟩),.pointer (some ⟨ba,0,none⟩),.pointer (some ⟨bY,0,none⟩),.pointer (some ⟨bt,0,none⟩)])]::(I pre kk++R))) (fun _ _=>undef) [7] 0 () (fun _=>rfl) h hJ Yk rfl rfl rfl rfl rfl rfl hsb ⟨?_,?_,?_,?_,?_,?_,?_,?_,trivial⟩ ⟨?e22_2_0,trivial⟩ ⟨.old 0 11 _,.old 1 2 _,.old 2 0 _,.old 3 4 _,.old 4 6 _,.old 5 10 _,.old 6 13 _,.old 7 18 _,trivial⟩ ?n22_2)
        exact fun _ O' hO'=>⟨rfl,fun _ _ _ hx hl _=>Zs Zcw rfl (Zf hx (hO' _ (mo 1 rfl))) (hl.env 2 0 _ rfl rfl) rfl hx⟩
        exact oX rfl fun hx hl=>ZE Y0 rfl (hl.env 0 11 _ rfl rfl) hx
        exact oX rfl fun hx hl=>Zz Qg rfl (hl.D 1 138 rfl rfl) hx
        exact oX rfl fun hx hl=>ZU (i:=((1:Nat):Int)) Zl rfl (hl.D 2 139 rfl rfl) (Rel.of_lit (Go.Value.int Go.IntKind.i64 1)) nnn (Z0 (xs:=(ge gf.hyps q).text) (k:=1) (by first | omega | (simp;omega) | grind[Zg])) rfl hx
        exact oX rfl fun hx hl=>Zz Qf rfl (hl.D 3 140 rfl rfl) hx
        exact oX rfl fun hx hl=>ZW rfl (hl.env 8 19 _ rfl rfl) hx
        exact oX rfl fun hx hl=>QY (ys:=((ge ts (sA+n))).drop 1) (lo:=1) (hi:=((ge ts (sA+n))).length) (by rw[List.take_length]) Zl (fun _=>rfl) rfl (hl.D 5 142 rfl rfl) (Rel.of_lit (Go.Value.int Go.IntKind.i64 1)) rfl (by first | omega | (simp;omega) | grind[Zg]) (by first | omega | (simp;omega) | grind[Zg]) hx
        exact Zi rfl
        case e22_2_0=>exact⟨_,rfl,rfl,rfl,rfl,fun g _ w hk hx hl _=>Zk (Zjf (f:=(fun z':List BA=>AV.rd (Zb z'))) Xy hJ hJ0 ((ge ((ge gf.hyps q).text) 1)) (((ge ts (sA+n))).drop 1) (.inl rfl) hk hx (hl.D 0 137 rfl rfl) (hl.D 4 141 rfl rfl) (hl.D 6 143 rfl rfl)) fun v w' ⟨_,hp⟩=>⟨g,rfl,fun _ _=>rfl,fun e=>(by cases e),hp⟩⟩
        clear a w h
        intro _
        dsimp only[List.map]
        refine kw pm8 (kw pm8 ?_)
        refine kw pm8 (kw pm8 ?_)
        refine kw pm8 (kw pm8 ?_)
        refine kw pm8 (kw pm7 ?_)
        exact kw pm8 (Zud (Xu M2 ((ge ((ge gf.hyps q).text) 1)) (((ge ts (sA+n))).drop 1)) [0,1,2,3,4,5,6,7] (show(Xu M2 ((ge ((ge gf.hyps q).text) 1)) (((ge ts (sA+n))).drop 1))=if(ge gf.hyps q).floating then Xu M2 (ge (ge gf.hyps q).text 1) ((ge ts (sA+n)).drop 1)else M2 from by first | exact(if_pos hb8).symm | exact(if_neg (by simp[hb8])).symm))
       ·
        try simp at hb8
        exact Zc (Zud M2 [0,1,2,3,4,5,6,7] (show M2=if(ge gf.hyps q).floating then Xu M2 (ge (ge gf.hyps q).text 1) ((ge ts (sA+n)).drop 1)else M2 from by first | exact(if_pos hb8).symm | exact(if_neg (by simp[hb8])).symm))
      ·
       rintro M3 hF
       have g8_1:M3=if(ge gf.hyps q).floating then Xu M2 (ge (ge gf.hyps q).text 1) ((ge ts (sA+n)).drop 1)else M2:=hF
       refine tsq (sy (.lit wa) (fun h=>Zs QG rfl (Zf h.x (mo 5 rfl)) (h.get 3 rfl) rfl h.x) ?_)
       refine snK 1 tb (env':=[(145,_),(144,_),(11,_),(2,_),(0,_),(4,_),(6,_),(10,_),(13,_),(18,_)]) rfl (sy (.rd (ZX ([((sA+n:Nat):Int)]))) (fun h=>YB ZC Zdk rfl (h.get 0 rfl) (Zm hS _ h.keep h.x _ nlr) (jo hJ h.x)) ?_)
       refine kw pm6 (Yx (f:=Xa) (m:=2) (s:=144) al ([((sA+n:Nat):Int)]) (fun _=>rfl) ZgA hJ hJ0 rfl rfl rfl (lb rfl) rfl rfl (fun a w h=>(h.get 0 rfl)) (by first | omega | (simp;omega) | grind[Zg]) (by first | omega | (simp;omega) | grind[Zg]) fun v2=>?_)
       refine kw pm6 (Yb (b:=ba) (off:=0) (es:=[_]) hJ hJ0 Zak rfl rfl rfl (lb rfl) rfl (fun a w h=>⟨(h.get 7 rfl),(h.get 0 rfl)⟩) ?_)
       refine seK [1,4,5,6,7,8,9,10,11] [_,_,_,_,_,_,_,_,_] rfl (nx (ln 0 fun hl8=>?_))
       refine tsq (sy (.lit (.func (.func 102) #[] #[.pointer (some ⟨bb,0,none⟩),.pointer (some ⟨bf,of,none⟩),.pointer (some ⟨bj,oj,none⟩),.pointer (some ⟨bs,os,none⟩),.pointer (some ⟨ba,0,none⟩),.pointer (some ⟨bY,0,none⟩),.pointer (some ⟨bt,0,none⟩)])) (fun h=>Zs ZsF rfl (Zf h.x (mo 8 rfl)) (h.get 5 rfl) rfl h.x) ?_)
       refine kw pm8 (kw pm8 ?_)
       refine kw pm3 (kw pm3 ?_)
       refine kw pm8 (kw pm8 ?_)
       refine kw pm8 (kw pm8 ?_)
       refine kw pm8 (Zsn (O:=(OB.var bb [.lit (.map (some mb))]::OB.map keyS (fun z':List BA=>AV.rd (Zb z')) mb M3::OB.pt bf of (frC gf)::OB.pt bj oj [.ptr [Zb d.consts,Zb d.vars,Yq d.frames,.lit (.int .i64 (((i:Nat):Int))),ZQ ss,Zo ts,.lit (.int .i64 ((((ZH ss):Nat):Int))),.lit (.map (some M))]]::OB.pt bs os [.lit (.int .i64 (((step:Nat):Int)))]::OB.var ba [.lit v2]::OB.row v2 3 1 ((al++([((sA+n:Nat):Int)])).map Xa)::OB.var bY [.lit ((.func (.yield l) #[] #[]))]::OB.var bt [.lit (.func (.func 102) #[] #[.pointer (some ⟨bb,0,none⟩),.pointer (some ⟨bf,of,none⟩),.pointer (some ⟨bj,oj,none⟩),.pointer (some ⟨bs,os,none⟩),.pointer (some ⟨ba,0,none⟩),.pointer (some ⟨bY,0,none⟩),.pointer (some ⟨bt,0,none⟩)])]::I pre kk)) (R:=R) [] [.pointer (some ⟨bb,0,none⟩),.pointer (some ⟨bf,of,none⟩),.pointer (some ⟨bj,oj,none⟩),.pointer (some ⟨bs,os,none⟩),.pointer (some ⟨ba,0,none⟩),.pointer (some ⟨bY,0,none⟩),.pointer (some ⟨bt,0,none⟩)] [.at bb 0,.at bf of,.at bj oj,.at bs os,.at ba 0,.at bY 0,.at bt 0] (ih (pre':=pre) (k':=kk) (va':=v2) (M':=M3) (al':=(al++([((sA+n:Nat):Int)]))) (by simp;omega) oz (fun x' hx'=>by rcases List.mem_append.1 hx' with h | h;exact hal x' h;rw[List.mem_singleton.1 h];omega) (by rw[g8_1,f1_3];exact put_ok hT (k:=q) oz (show sA+n<ts.length by omega) (ZmK hT oz hM n)) (by rw[g8_1,f1_2,f1_3];exact Zti (j:=(⟨d,i,ss,ts,mm⟩:Jb)) oz ho (tz_pre (j:=(⟨d,i,ss,ts,mm⟩:Jb)) hb1 oz g3_1 hp))) Zlb rfl rfl rfl (lb rfl) (fun a w h=>((h.get 0 rfl)).lit) (fun a w h=>Zd) (fun w=>(Za (Rel.of_lit _) (Za (Rel.of_lit _) (Za (Rel.of_lit _) (Za (Rel.of_lit _) (Za (Rel.of_lit _) (Za (Rel.of_lit _) (Za (Rel.of_lit _) Zd)))))))) (fun q=>vPan0 q) (fun s3=>?_) (fun z4=>?_))
       ·
        dsimp only[List.map,Zvm]
        have es:=s3.2
        refine snK 1 tb (env':=[(20,_),(149,_),(148,_),(146,_),(11,_),(2,_),(0,_),(4,_),(6,_),(10,_),(13,_),(18,_)]) rfl (seK [0,4,5,6,7,8,9,10,11] [_,_,_,_,_,_,_,_,_] rfl ?_)
        refine nx (tw pm6 (tw (fun h=>List.map_take▸ZmS (m:=q) (by rw[List.length_map];exact(by first | omega | (simp;omega) | grind[Zg])) h) ?_))
        refine tsq (sy (.lit s3.1.2.1) (fun h=>Zs QG rfl (Zf h.x (mo 6 rfl)) (h.get 4 rfl) rfl h.x) ?_)
        refine snK 1 tb (env':=[(151,_),(150,_),(20,_),(11,_),(2,_),(0,_),(4,_),(6,_),(10,_),(13,_),(18,_)]) rfl (sy (.lit (QR s3.1.2.1 q)) (fun h=>ZdJ (m:=q) ZC rfl (Zf h.x (mo 0 rfl)) (by first | rfl | (rw[List.length_map];exact(by first | omega | (simp;omega) | grind[Zg]))) (h.get 1 rfl) (h.get 0 rfl) h.x) ?_)
        refine kw pm6 (Yb (b:=ba) (off:=0) (es:=[_]) hJ hJ0 Zak rfl rfl rfl (lb rfl) rfl (fun a w h=>⟨(h.get 7 rfl),(h.get 0 rfl)⟩) ?_)
        refine seK [3,4,5,6,7,8,9,10,11] [_,_,_,_,_,_,_,_,_] rfl (nx (Zh (qso tb hJ [0,1,2,3,4,5,6,7,8,1001] [_,_] [_,_,_,_,_,_,_,_,_,_] ?_)))
        refine cj 9 (fun hb9=>?_) fun hb9=>?_
        ·
         try simp at hb9
         have e3:(ge gf.hyps q).text.length=2:=hT.fl _ (Zg oz) hb9
         refine tw pm3 (fun a w h=>Qu (OB.var ba [.lit (QR s3.1.2.1 q)]::OB.row (QR s3.1.2.1 q) 3 1 ((s3.1.2.2.1.take q).map Xa)::OB.var bb [.lit (.map (some mb))]::OB.pt bf of (frC gf)::OB.pt bj oj [.ptr [Zb d.consts,Zb d.vars,Yq d.frames,.lit (.int .i64 (((i:Nat):Int))),ZQ ss,Zo ts,.lit (.int .i64 ((((ZH ss):Nat):Int))),.lit (.map (some M))]]::OB.pt bs os [.lit (.int .i64 (((step:Nat):Int)))]::OB.var bY [.lit ((.func (.yield l) #[] #[]))]::OB.var bt [.lit (.func (.func 102) #[] #[.pointer (some ⟨bb,0,none⟩),.pointer (some ⟨bf,of,none⟩),.pointer (some ⟨bj,oj,none⟩),.pointer (some ⟨bs,os,none⟩),.pointer (some ⟨ba,0,none⟩),.pointer (some ⟨bY,0,none⟩),.pointer (some ⟨bt,0,none⟩)])]::(O4 s3.1.1++R)) (γ:=Unit) (fun ix'=>([.lit (.map (some mb)),.ptr [Zb ((ge gf.hyps q).text)],.rd (Zb ((ge gf.hyps q).text)),.ptr [.lit (.string ((ge ((ge gf.hyps q).text) 1)))],.str ((ge ((ge gf.hyps q).text) 1)),.any]:List AV).getD ix' .any) (fun _=>true) [(20,fun _=>.bool false),(11,fun _=>.ptr (hyC (ge gf.hyps q))),(2,fun _=>.ptr [.ptr [Zb d.consts,Zb d.vars,Yq d.frames,.lit (.int .i64 (((i:Nat):Int))),ZQ ss,Zo ts,.lit (.int .i64 ((((ZH ss):Nat):Int))),.lit (.map (some M))]]),(0,fun _=>.at bb 0),(4,fun _=>.at ba 0),(6,fun _=>.at bt 0),(10,fun _=>.int (q:Nat)),(13,fun _=>.int (sB:Nat)),(18,fun _=>.int (sA+n:Nat))] (fun(b:List Bool) (g:Unit)=>(bif b.getD 0 false then [OB.map keyS (fun z':List BA=>AV.rd (Zb z')) mb (Zd1 s3.1.2.2.2 ((ge ((ge gf.hyps q).text) 1)))]else [OB.map keyS (fun z':List BA=>AV.rd (Zb z')) mb s3.1.2.2.2])++((OB.var ba [.lit (QR s3.1.2.1 q)]::OB.row (QR s3.1.2.1 q) 3 1 ((s3.1.2.2.1.take q).map Xa)::OB.var bb [.lit (.map (some mb))]::OB.pt bf of (frC gf)::OB.pt bj oj [.ptr [Zb d.consts,Zb d.vars,Yq d.frames,.lit (.int .i64 (((i:Nat):Int))),ZQ ss,Zo ts,.lit (.int .i64 ((((ZH ss):Nat):Int))),.lit (.map (some M))]]::OB.pt bs os [.lit (.int .i64 (((step:Nat):Int)))]::OB.var bY [.lit ((.func (.yield l) #[] #[]))]::OB.var bt [.lit (.func (.func 102) #[] #[.pointer (some ⟨bb,0,none⟩),.pointer (some ⟨bf,of,none⟩),.pointer (some ⟨bj,oj,none⟩),.pointer (some ⟨bs,os,none⟩),.pointer (some ⟨ba,0,none⟩),.pointer (some ⟨bY,0,none⟩),.pointer (some ⟨bt,0,none⟩)])]::(O4 s3.1.1++R)))) (fun _ _=>undef) [5] () (fun _=>rfl) h hJ Yk rfl rfl rfl rfl (fun b g p hp=>(List.mem_append_right _ hp)) ⟨?_,?_,?_,?_,?_,?_,trivial⟩ ⟨?e27_3_0,trivial⟩ ⟨.old 0 20 _,.old 1 11 _,.old 2 2 _,.old 3 0 _,.old 4 4 _,.old 5 6 _,.old 6 10 _,.old 7 13 _,.old 8 18 _,trivial⟩ ?n27_3)
         exact fun _ O' hO'=>⟨rfl,fun _ _ _ hx hl _=>Zs Zcw rfl (Zf hx (hO' _ (mo 2 rfl))) (hl.env 3 0 _ rfl rfl) rfl hx⟩
         exact oX rfl fun hx hl=>ZE Y0 rfl (hl.env 1 11 _ rfl rfl) hx
         exact oX rfl fun hx hl=>Zz Qg rfl (hl.D 1 156 rfl rfl) hx
         exact oX rfl fun hx hl=>ZU (i:=((1:Nat):Int)) Zl rfl (hl.D 2 157 rfl rfl) (Rel.of_lit (Go.Value.int Go.IntKind.i64 1)) nnn (Z0 (xs:=(ge gf.hyps q).text) (k:=1) (by first | omega | (simp;omega) | grind[Zg])) rfl hx
         exact oX rfl fun hx hl=>Zz Qf rfl (hl.D 3 158 rfl rfl) hx
         exact Zi rfl
         case e27_3_0=>exact ZeL [[false]] (by kernel_rfl) rfl rfl rfl rfl ⟨fun g _ w hk hx hl _=>Zk (d_del Xy hJ hJ0 ((ge ((ge gf.hyps q).text) 1)) rfl hk hx (hl.D 0 155 rfl rfl) (hl.D 4 159 rfl rfl)) fun v w' hp=>⟨g,fun _ _=>rfl,fun e=>(by cases e),True.intro,hp.2⟩,trivial⟩
         clear a w h
         intro _
         dsimp only[List.map]
         refine nx (qso tb hJ [1,2,3,4,5,6,7,8,1001] [_,_] [_,_,_,_,_,_,_,_,_] ?_)
         refine cj 8 (fun hb10=>?_) fun hb10=>?_
         ·
          try simp at hb10
          refine qso tb hJ [1000] [_] [_] ?_
          refine tw pm8 (tw pm8 ?_)
          refine tw pm4 (tw pm4 ?_)
          refine tw pm8 (tw pm8 ?_)
          refine tw pm8 (tw pm7 ?_)
          exact tw pm8 (Zv (fun a w h=>lvP (ZN (m:=0) (.inr ⟨(s3.1.1,(QR s3.1.2.1 q),s3.1.2.2.1.take q,Zd1 s3.1.2.2.2 ((ge ((ge gf.hyps q).text) 1))),by first | exact Nat.le_of_eq hq.symm | (simp only[List.length_take];omega)⟩) rfl h rfl rfl)))
         ·
          exact False.elim (by simp at hb10)
        ·
         try simp at hb9
         refine Zc (nx (qso tb hJ [1,2,3,4,5,6,7,8,1001] [_,_] [_,_,_,_,_,_,_,_,_] ?_))
         refine cj 8 (fun hb10=>?_) fun hb10=>?_
         ·
          try simp at hb10
          refine qso tb hJ [1000] [_] [_] ?_
          refine tw pm8 (tw pm8 ?_)
          refine tw pm3 (tw pm3 ?_)
          refine tw pm8 (tw pm8 ?_)
          refine tw pm8 (tw pm8 ?_)
          exact tw pm8 (Zv (fun a w h=>lvP (ZN (m:=0) (.inr ⟨(s3.1.1,(QR s3.1.2.1 q),s3.1.2.2.1.take q,s3.1.2.2.2),by first | exact Nat.le_of_eq hq.symm | (simp only[List.length_take];omega)⟩) rfl h rfl rfl)))
         ·
          exact False.elim (by simp at hb10)
       dsimp only[List.map,Zvm]
       have ez:=z4.2
       refine snK 1 tb (env':=[(20,_),(149,_),(148,_),(146,_),(11,_),(2,_),(0,_),(4,_),(6,_),(10,_),(13,_),(18,_)]) rfl (seK [0,4,5,6,7,8,9,10,11] [_,_,_,_,_,_,_,_,_] rfl ?_)
       refine nx (tw pm6 (tw (fun h=>List.map_take▸ZmS (m:=q) (by rw[List.length_map];exact(by first | omega | (simp;omega) | grind[Zg])) h) ?_))
       refine tsq (sy (.lit z4.1.2.2.1) (fun h=>Zs QG rfl (Zf h.x (mo 6 rfl)) (h.get 4 rfl) rfl h.x) ?_)
       refine snK 1 tb (env':=[(151,_),(150,_),(20,_),(11,_),(2,_),(0,_),(4,_),(6,_),(10,_),(13,_),(18,_)]) rfl (sy (.lit (QR z4.1.2.2.1 q)) (fun h=>ZdJ (m:=q) ZC rfl (Zf h.x (mo 0 rfl)) (by first | rfl | (rw[List.length_map];exact(by first | omega | (simp;omega) | grind[Zg]))) (h.get 1 rfl) (h.get 0 rfl) h.x) ?_)
       refine kw pm6 (Yb (b:=ba) (off:=0) (es:=[_]) hJ hJ0 Zak rfl rfl rfl (lb rfl) rfl (fun a w h=>⟨(h.get 7 rfl),(h.get 0 rfl)⟩) ?_)
       refine seK [3,4,5,6,7,8,9,10,11] [_,_,_,_,_,_,_,_,_] rfl (nx (Zh (qso tb hJ [0,1,2,3,4,5,6,7,8,1001] [_,_] [_,_,_,_,_,_,_,_,_,_] ?_)))
       refine cj 9 (fun hb9=>?_) fun hb9=>?_
       ·
        try simp at hb9
        have e3:(ge gf.hyps q).text.length=2:=hT.fl _ (Zg oz) hb9
        refine tw pm3 (fun a w h=>Qu (OB.var ba [.lit (QR z4.1.2.2.1 q)]::OB.row (QR z4.1.2.2.1 q) 3 1 (((al++([((sA+n:Nat):Int)])).take q).map Xa)::OB.var bb [.lit (.map (some mb))]::OB.pt bf of (frC gf)::OB.pt bj oj [.ptr [Zb d.consts,Zb d.vars,Yq d.frames,.lit (.int .i64 (((i:Nat):Int))),ZQ ss,Zo ts,.lit (.int .i64 ((((ZH ss):Nat):Int))),.lit (.map (some M))]]::OB.pt bs os [.lit (.int .i64 (((step:Nat):Int)))]::OB.var bY [.lit ((.func (.yield l) #[] #[]))]::OB.var bt [.lit (.func (.func 102) #[] #[.pointer (some ⟨bb,0,none⟩),.pointer (some ⟨bf,of,none⟩),.pointer (some ⟨bj,oj,none⟩),.pointer (some ⟨bs,os,none⟩),.pointer (some ⟨ba,0,none⟩),.pointer (some ⟨bY,0,none⟩),.pointer (some ⟨bt,0,none⟩)])]::(I z4.1.1 z4.1.2.1++R)) (γ:=Unit) (fun ix'=>([.lit (.map (some mb)),.ptr [Zb ((ge gf.hyps q).text)],.rd (Zb ((ge gf.hyps q).text)),.ptr [.lit (.string ((ge ((ge gf.hyps q).text) 1)))],.str ((ge ((ge gf.hyps q).text) 1)),.any]:List AV).getD ix' .any) (fun _=>true) [(20,fun _=>.bool true),(11,fun _=>.ptr (hyC (ge gf.hyps q))),(2,fun _=>.ptr [.ptr [Zb d.consts,Zb d.vars,Yq d.frames,.lit (.int .i64 (((i:Nat):Int))),ZQ ss,Zo ts,.lit (.int .i64 ((((ZH ss):Nat):Int))),.lit (.map (some M))]]),(0,fun _=>.at bb 0),(4,fun _=>.at ba 0),(6,fun _=>.at bt 0),(10,fun _=>.int (q:Nat)),(13,fun _=>.int (sB:Nat)),(18,fun _=>.int (sA+n:Nat))] (fun(b:List Bool) (g:Unit)=>(bif b.getD 0 false then [OB.map keyS (fun z':List BA=>AV.rd (Zb z')) mb (Zd1 z4.1.2.2.2 ((ge ((ge gf.hyps q).text) 1)))]else [OB.map keyS (fun z':List BA=>AV.rd (Zb z')) mb z4.1.2.2.2])++((OB.var ba [.lit (QR z4.1.2.2.1 q)]::OB.row (QR z4.1.2.2.1 q) 3 1 (((al++([((sA+n:Nat):Int)])).take q).map Xa)::OB.var bb [.lit (.map (some mb))]::OB.pt bf of (frC gf)::OB.pt bj oj [.ptr [Zb d.consts,Zb d.vars,Yq d.frames,.lit (.int .i64 (((i:Nat):Int))),ZQ ss,Zo ts,.lit (.int .i64 ((((ZH ss):Nat):Int))),.lit (.map (some M))]]::OB.pt bs os [.lit (.int .i64 (((step:Nat):Int)))]::OB.var bY [.lit ((.func (.yield l) #[] #[]))]::OB.var bt [.lit (.func (.func 102) #[] #[.pointer (some ⟨bb,0,none⟩),.pointer (some ⟨bf,of,none⟩),.pointer (some ⟨bj,oj,none⟩),.pointer (some ⟨bs,os,none⟩),.pointer (some ⟨ba,0,none⟩),.pointer (some ⟨bY,0,none⟩),.pointer (some ⟨bt,0,none⟩)])]::(I z4.1.1 z4.1.2.1++R)))) (fun _ _=>undef) [5] () (fun _=>rfl) h hJ Yk rfl rfl rfl rfl (fun b g p hp=>(List.mem_append_right _ hp)) ⟨?_,?_,?_,?_,?_,?_,trivial⟩ ⟨?e27_4_0,trivial⟩ ⟨.old 0 20 _,.old 1 11 _,.old 2 2 _,.old 3 0 _,.old 4 4 _,.old 5 6 _,.old 6 10 _,.old 7 13 _,.old 8 18 _,trivial⟩ ?n27_4)
        exact fun _ O' hO'=>⟨rfl,fun _ _ _ hx hl _=>Zs Zcw rfl (Zf hx (hO' _ (mo 2 rfl))) (hl.env 3 0 _ rfl rfl) rfl hx⟩
        exact oX rfl fun hx hl=>ZE Y0 rfl (hl.env 1 11 _ rfl rfl) hx
        exact oX rfl fun hx hl=>Zz Qg rfl (hl.D 1 156 rfl rfl) hx
        exact oX rfl fun hx hl=>ZU (i:=((1:Nat):Int)) Zl rfl (hl.D 2 157 rfl rfl) (Rel.of_lit (Go.Value.int Go.IntKind.i64 1)) nnn (Z0 (xs:=(ge gf.hyps q).text) (k:=1) (by first | omega | (simp;omega) | grind[Zg])) rfl hx
        exact oX rfl fun hx hl=>Zz Qf rfl (hl.D 3 158 rfl rfl) hx
        exact Zi rfl
        case e27_4_0=>exact ZeL [[false]] (by kernel_rfl) rfl rfl rfl rfl ⟨fun g _ w hk hx hl _=>Zk (d_del Xy hJ hJ0 ((ge ((ge gf.hyps q).text) 1)) rfl hk hx (hl.D 0 155 rfl rfl) (hl.D 4 159 rfl rfl)) fun v w' hp=>⟨g,fun _ _=>rfl,fun e=>(by cases e),True.intro,hp.2⟩,trivial⟩
        clear a w h
        intro _
        dsimp only[List.map]
        refine nx (qso tb hJ [1,2,3,4,5,6,7,8,1001] [_,_] [_,_,_,_,_,_,_,_,_] ?_)
        refine cj 8 (fun hb10=>?_) fun hb10=>?_
        ·
         exact False.elim (by simp at hb10)
        ·
         try simp at hb10
         refine tw (ob2 (congrArg (fun z'=>OB.row (QR z4.1.2.2.1 q) 3 1 ((z').map Xa)) (show((al++([((sA+n:Nat):Int)])).take q)=al from Zsi hq))) (Zc (nx (YR tb hJ [0,1,2,3,4,5,6,1002] [_,.int (sA+n+1:Nat),_] [1] [_,_,_,_,_,_,_,_] rfl ⟨YN,trivial⟩ ?_)))
         refine kw pm8 (kw pm8 ?_)
         refine kw pm4 (kw pm4 ?_)
         refine kw pm8 (kw pm8 ?_)
         refine kw pm8 (kw pm7 ?_)
         exact kw pm8 (Xf ((n+1),Zd1 z4.1.2.2.2 ((ge ((ge gf.hyps q).text) 1)),(QR z4.1.2.2.1 q),z4.1.1,z4.1.2.1) [0,1,2,3,4,5,6,7] ⟨oz,by first | (rw[Zcp ho];exact f1_2) | exact(ZaA (j:=(⟨d,i,ss,ts,mm⟩:Jb)) f1_2 f1_3 g8_1 rfl ho ez).1,by first | (rw[Zcp ho];exact f1_3) | exact(if_pos hb9).symm.trans (ZaA (j:=(⟨d,i,ss,ts,mm⟩:Jb)) f1_2 f1_3 g8_1 rfl ho ez).2 | exact(if_neg (by simp[hb9])).symm.trans (ZaA (j:=(⟨d,i,ss,ts,mm⟩:Jb)) f1_2 f1_3 g8_1 rfl ho ez).2⟩)
       ·
        try simp at hb9
        refine Zc (nx (qso tb hJ [1,2,3,4,5,6,7,8,1001] [_,_] [_,_,_,_,_,_,_,_,_] ?_))
        refine cj 8 (fun hb10=>?_) fun hb10=>?_
        ·
         exact False.elim (by simp at hb10)
        ·
         try simp at hb10
         refine tw (ob1 (congrArg (fun z'=>OB.row (QR z4.1.2.2.1 q) 3 1 ((z').map Xa)) (show((al++([((sA+n:Nat):Int)])).take q)=al from Zsi hq))) (Zc (nx (YR tb hJ [0,1,2,3,4,5,6,1002] [_,.int (sA+n+1:Nat),_] [1] [_,_,_,_,_,_,_,_] rfl ⟨YN,trivial⟩ ?_)))
         refine kw pm8 (kw pm8 ?_)
         refine kw pm3 (kw pm3 ?_)
         refine kw pm8 (kw pm8 ?_)
         refine kw pm8 (kw pm8 ?_)
         exact kw pm8 (Xf ((n+1),z4.1.2.2.2,(QR z4.1.2.2.1 q),z4.1.1,z4.1.2.1) [0,1,2,3,4,5,6,7] ⟨oz,by first | (rw[Zcp ho];exact f1_2) | exact(ZaA (j:=(⟨d,i,ss,ts,mm⟩:Jb)) f1_2 f1_3 g8_1 rfl ho ez).1,by first | (rw[Zcp ho];exact f1_3) | exact(if_pos hb9).symm.trans (ZaA (j:=(⟨d,i,ss,ts,mm⟩:Jb)) f1_2 f1_3 g8_1 rfl ho ez).2 | exact(if_neg (by simp[hb9])).symm.trans (ZaA (j:=(⟨d,i,ss,ts,mm⟩:Jb)) f1_2 f1_3 g8_1 rfl ho ez).2⟩)
    ·
     try simp at hb6
     refine Zu (nx (qso tb hJ [1000] [_] [_] ?_))
     exact Zv (fun a w h=>lvP (ZN (m:=0) (.inl ⟨(pre,kk,wa,M2),by first | exact Zdt (j:=(⟨d,i,ss,ts,mm⟩:Jb)) (pre:=pre0) hb1 | exact ZmI (j:=(⟨d,i,ss,ts,mm⟩:Jb)) (pre:=pre0) hb1 oz hG | exact ZeV (j:=(⟨d,i,ss,ts,mm⟩:Jb)) (pre:=pre0) hb1 oz hG | exact Zdu (j:=(⟨d,i,ss,ts,mm⟩:Jb)) (pre:=pre0) hb1 oz (ZdC hb3 hb4 hb5) | exact ZgU (j:=(⟨d,i,ss,ts,mm⟩:Jb)) (pre:=pre0) hb1 oz g3_1 oz f1_2 f1_3⟩) rfl h rfl rfl))
theorem p_try {J:WP} (hJ:Stab J) {S:Nat→Prop} {w0:World} (hS:∀ b,w0.heap.size≤b→S b) (hJ0:J w0) {l:Nat} {κ μ σ:Type} {I:List (List Int)→κ→List OB} {pv:μ→Value} {O3:μ→List OB} {O4:σ→List OB} (bb mb:Nat) (bf of:Nat) (bj oj:Nat) (bs os:Nat) (ba bY bt:Nat) (d:Db) (i:Nat) (ss:List Stp) (ts:List (List BA)) (M:Nat) (mm:List (BA×Int)) (gf:Fr) (step:Nat) (xs:List (List Int)) (hH:Has [OB.mI M mm] S w0) (hY:YldE prog J S w0 l (fun x9=>[.rd (ZX x9)]) xs I pv O3 O4) (hT:Zez (⟨d,i,ss,ts,mm⟩:Jb) gf step):
 ∀(n q:Nat) (pre':List (List Int)) (k':κ) (va':Value) (M':BM) (al':List Int),gf.hyps.length-q=n→al'.length=q→q≤gf.hyps.length→(∀ x'∈al',0≤x'∧x'< (step:Int))→BmOk gf.hyps M'→pre'++(ZaQ (⟨d,i,ss,ts,mm⟩:Jb) gf step q M' al').1<+:xs→FnV (ι:= { q':List (List Int)×κ×Value×BM // q'.1=pre'++(ZaQ (⟨d,i,ss,ts,mm⟩:Jb) gf step q M' al').1∧q'.2.2.2=(ZaQ (⟨d,i,ss,ts,mm⟩:Jb) gf step q M' al').2 } ⊕ { q':σ×Value×List Int×BM // q≤q'.2.2.1.length }) prog J S w0 102 [.at bb 0,.at bf of,.at bj oj,.at bs os,.at ba 0,.at bY 0,.at bt 0] (OB.var bb [.lit (.map (some mb))]::OB.map keyS (fun z':List BA=>AV.rd (Zb z')) mb (M')::OB.pt bf of (frC gf)::OB.pt bj oj [.ptr [Zb d.consts,Zb d.vars,Yq d.frames,.lit (.int .i64 (((i:Nat):Int))),ZQ ss,Zo ts,.lit (.int .i64 ((((ZH ss):Nat):Int))),.lit (.map (some M))]]::OB.pt bs os [.lit (.int .i64 (((step:Nat):Int)))]::OB.var ba [.lit (va')]::OB.row va' 3 1 ((al').map Xa)::OB.var bY [.lit ((.func (.yield l) #[] #[]))]::OB.var bt [.lit (.func (.func 102) #[] #[.pointer (some ⟨bb,0,none⟩),.pointer (some ⟨bf,of,none⟩),.pointer (some ⟨bj,oj,none⟩),.pointer (some ⟨bs,os,none⟩),.pointer (some ⟨ba,0,none⟩),.pointer (some ⟨bY,0,none⟩),.pointer (some ⟨bt,0,none⟩)])]::I (pre') k') (fun i'=>.bool i'.isLeft) (Zvm (fun z'=>OB.var bb [.lit (.map (some mb))]::OB.map keyS (fun z':List BA=>AV.rd (Zb z')) mb (z'.1.2.2.2)::OB.pt bf of (frC gf)::OB.pt bj oj [.ptr [Zb d.consts,Zb d.vars,Yq d.frames,.lit (.int .i64 (((i:Nat):Int))),ZQ ss,Zo ts,.lit (.int .i64 ((((ZH ss):Nat):Int))),.lit (.map (some M))]]::OB.pt bs os [.lit (.int .i64 (((step:Nat):Int)))]::OB.var ba [.lit (z'.1.2.2.1)]::OB.row z'.1.2.2.1 3 1 ((al').map Xa)::OB.var bY [.lit ((.func (.yield l) #[] #[]))]::OB.var bt [.lit (.func (.func 102) #[] #[.pointer (some ⟨bb,0,none⟩),.pointer (some ⟨bf,of,none⟩),.pointer (some ⟨bj,oj,none⟩),.pointer (some ⟨bs,os,none⟩),.pointer (some ⟨ba,0,none⟩),.pointer (some ⟨bY,0,none⟩),.pointer (some ⟨bt,0,none⟩)])]::I z'.1.1 z'.1.2.1) fun s'=>OB.var bb [.lit (.map (some mb))]::OB.map keyS (fun z':List BA=>AV.rd (Zb z')) mb (s'.1.2.2.2)::OB.pt bf of (frC gf)::OB.pt bj oj [.ptr [Zb d.consts,Zb d.vars,Yq d.frames,.lit (.int .i64 (((i:Nat):Int))),ZQ ss,Zo ts,.lit (.int .i64 ((((ZH ss):Nat):Int))),.lit (.map (some M))]]::OB.pt bs os [.lit (.int .i64 (((step:Nat):Int)))]::OB.var ba [.lit (s'.1.2.1)]::OB.row s'.1.2.1 3 1 ((s'.1.2.2.1).map Xa)::OB.var bY [.lit ((.func (.yield l) #[] #[]))]::OB.var bt [.lit (.func (.func 102) #[] #[.pointer (some ⟨bb,0,none⟩),.pointer (some ⟨bf,of,none⟩),.pointer (some ⟨bj,oj,none⟩),.pointer (some ⟨bs,os,none⟩),.pointer (some ⟨ba,0,none⟩),.pointer (some ⟨bY,0,none⟩),.pointer (some ⟨bt,0,none⟩)])]::O4 s'.1.1) pv O3:=by
 intro n
 induction n with
 | zero=>
  intro q pre k va Mb al hn hq hqk hal hM hp
  exact Zsx hJ hS hJ0 bb mb bf of bj oj bs os ba bY bt d i ss ts M mm gf step va xs q Mb al hH hY pre k hT hq hqk hal hM hp fun pre' k' va' M' al' _ h2=>absurd h2 oz
 | succ n ih=>
  intro q pre k va Mb al hn hq hqk hal hM hp
  exact Zsx hJ hS hJ0 bb mb bf of bj oj bs os ba bY bt d i ss ts M mm gf step va xs q Mb al hH hY pre k hT hq hqk hal hM hp fun pre' k' va' M' al' h1 h2 h3 h4 h5=>ih (q+1) pre' k' va' M' al' oz h1 h2 h3 h4 h5
theorem ZfU {J:WP} (hJ:Stab J) (d:Db) (i:Nat) (ss:List Stp) (ts:List (List BA)) (M:Nat) (mm:List (BA×Int)) (gf:Fr) (step:Nat) (hT:Zez (⟨d,i,ss,ts,mm⟩:Jb) gf step):Zpp prog J 101 [OB.mI M mm] [.ptr (frC gf),.ptr [.ptr [Zb d.consts,Zb d.vars,Yq d.frames,.lit (.int .i64 (((i:Nat):Int))),ZQ ss,Zo ts,.lit (.int .i64 ((((ZH ss):Nat):Int))),.lit (.map (some M))]],.ptr [.lit (.int .i64 (((step:Nat):Int)))]] (fun x9=>[.rd (ZX x9)]) (ZhY (⟨d,i,ss,ts,mm⟩:Jb) gf step) (none):=by
 refine Zb9 (N:=12) Tryz.func101 rfl rfl (lb rfl) fun S w0 R l κ μ σ I pv O3 O4 k0 hS hJ0 hH hY=>?_
 refine YT (B:=So J S w0 12 (I ([]) k0++R) [(0,.rd (.lit ((.func (.yield l) #[] #[])))),(1,.ptr (frC gf)),(2,.ptr [.ptr [Zb d.consts,Zb d.vars,Yq d.frames,.lit (.int .i64 (((i:Nat):Int))),ZQ ss,Zo ts,.lit (.int .i64 ((((ZH ss):Nat):Int))),.lit (.map (some M))]]),(3,.ptr [.lit (.int .i64 (((step:Nat):Int)))])]) ?_ fun a w h=>h
 refine tsq (Ztq (c:=.lit ((.func (.yield l) #[] #[]))) hJ rfl rfl rfl (lb rfl) (fun a w h=>(h.get 0 rfl)) fun b1=>?_)
 refine seK [0,2,3,4] [_,_,_,_] rfl (nx (tsq ?_))
 refine ZdA keyS (fun z':List BA=>AV.rd (Zb z')) hJ rfl rfl rfl (lb rfl) fun m2=>?_
 refine ZA Zln hJ rfl rfl rfl (lb rfl) fun b3=>?_
 refine Yb (b:=b3) (off:=0) (es:=[_]) hJ hJ0 Zly rfl rfl rfl (lb rfl) rfl (fun a w h=>⟨(h.get 0 rfl),(h.get 1 rfl)⟩) ?_
 refine seK [0,2,3,4,5] [_,_,_,_,_] rfl (nx (tw (Z7 3 1 hJ) ?_))
 refine tsq (ZA ZmE hJ rfl rfl rfl (lb rfl) fun b4=>?_)
 refine seK [0,1,2,3,4,5] [_,_,_,_,_,_] rfl (nx (tsq ?_))
 refine ZA ZmD hJ rfl rfl rfl (lb rfl) fun b5=>?_
 refine seK [0,1,2,3,4,5,6] [_,_,_,_,_,_,_] rfl (nx (ZpB (m:=6) rfl fun bs os=>?_))
 refine ZpB (m:=6) rfl fun bj oj=>?_
 refine ZpB (m:=6) rfl fun bf of=>?_
 refine tsq (sy (.lit (.func (.func 102) #[] #[.pointer (some ⟨b3,0,none⟩),.pointer (some ⟨bf,of,none⟩),.pointer (some ⟨bj,oj,none⟩),.pointer (some ⟨bs,os,none⟩),.pointer (some ⟨b4,0,none⟩),.pointer (some ⟨b1,0,none⟩),.pointer (some ⟨b5,0,none⟩)])) (fun h=>Zg6 (caps:=[(Go.Operand.tmp 5),(Go.Operand.tmp 1),(Go.Operand.tmp 2),(Go.Operand.tmp 3),(Go.Operand.tmp 6),(Go.Operand.tmp 4),(Go.Operand.tmp 7)]) rfl (map_cons (h.get 5 rfl).lit (map_cons (h.get 0 rfl).lit (map_cons (h.get 1 rfl).lit (map_cons (h.get 2 rfl).lit (map_cons (h.get 4 rfl).lit (map_cons (h.get 6 rfl).lit (map_cons (h.get 3 rfl).lit map_nil))))))) h.x) ?_)
 refine kw pm3 (Yb (b:=b5) (off:=0) (es:=[_]) hJ hJ0 Zm2 rfl rfl rfl (lb rfl) rfl (fun a w h=>⟨(h.get 4 rfl),(h.get 0 rfl)⟩) ?_)
 refine seK [4] [_] rfl (nx (ZS (sq (.lit (.func (.func 102) #[] #[.pointer (some ⟨b3,0,none⟩),.pointer (some ⟨bf,of,none⟩),.pointer (some ⟨bj,oj,none⟩),.pointer (some ⟨bs,os,none⟩),.pointer (some ⟨b4,0,none⟩),.pointer (some ⟨b1,0,none⟩),.pointer (some ⟨b5,0,none⟩)])) rfl rfl (lb rfl) (fun _ _ h=>Zs ZsF rfl (Zf h.x (mo 0 rfl)) (h.get 0 rfl) rfl h.x) ?_)))
 refine kw pm8 (kw pm6 ?_)
 refine kw pm6 (kw pm6 ?_)
 refine kw pm6 (kw pm6 ?_)
 refine kw pm8 (kw pm8 ?_)
 refine Zsn (O:=(OB.var b3 [.lit (.map (some m2))]::OB.map keyS (fun z':List BA=>AV.rd (Zb z')) m2 (([]:List (BA×List BA)))::OB.pt bf of (frC gf)::OB.pt bj oj [.ptr [Zb d.consts,Zb d.vars,Yq d.frames,.lit (.int .i64 (((i:Nat):Int))),ZQ ss,Zo ts,.lit (.int .i64 ((((ZH ss):Nat):Int))),.lit (.map (some M))]]::OB.pt bs os [.lit (.int .i64 (((step:Nat):Int)))]::OB.var b4 [.lit (.slice none 0 0)]::OB.row (.slice none 0 0) 3 1 (([]:List Int).map Xa)::OB.var b1 [.lit ((.func (.yield l) #[] #[]))]::OB.var b5 [.lit (.func (.func 102) #[] #[.pointer (some ⟨b3,0,none⟩),.pointer (some ⟨bf,of,none⟩),.pointer (some ⟨bj,oj,none⟩),.pointer (some ⟨bs,os,none⟩),.pointer (some ⟨b4,0,none⟩),.pointer (some ⟨b1,0,none⟩),.pointer (some ⟨b5,0,none⟩)])]::I ([]) k0)) (R:=R) [] [.pointer (some ⟨b3,0,none⟩),.pointer (some ⟨bf,of,none⟩),.pointer (some ⟨bj,oj,none⟩),.pointer (some ⟨bs,os,none⟩),.pointer (some ⟨b4,0,none⟩),.pointer (some ⟨b1,0,none⟩),.pointer (some ⟨b5,0,none⟩)] [.at b3 0,.at bf of,.at bj oj,.at bs os,.at b4 0,.at b1 0,.at b5 0] (p_try hJ hS hJ0 b3 m2 bf of bj oj bs os b4 b1 b5 d i ss ts M mm gf step (ZhY (⟨d,i,ss,ts,mm⟩:Jb) gf step) hH hY hT gf.hyps.length 0 [] k0 (.slice none 0 0) [] [] oz rfl nzl yz bm_nil (List.prefix_refl _)) Zlb rfl rfl rfl (lb rfl) (fun a w h=>((h.get 0 rfl)).lit) (fun a w h=>Zd) (fun w=>(Za (Rel.of_lit _) (Za (Rel.of_lit _) (Za (Rel.of_lit _) (Za (Rel.of_lit _) (Za (Rel.of_lit _) (Za (Rel.of_lit _) (Za (Rel.of_lit _) Zd)))))))) (fun q=>ZqC q) (fun s6=>?_) (fun z7=>?_)
 ·
  dsimp only[List.map,Zvm]
  refine seK [] [] rfl (kw ZJ ?_)
  refine kw ZJ (kw ZJ ?_)
  refine kw ZJ (kw ZJ ?_)
  refine kw ZJ (kw ZJ ?_)
  refine kw ZJ (kw ZJ ?_)
  exact fun a w h=>Zkx s6.1.1 rfl h
 dsimp only[List.map,Zvm]
 have ez:=z7.2
 refine seK [] [] rfl (kw ZJ ?_)
 refine kw ZJ (kw ZJ ?_)
 refine kw ZJ (kw ZJ ?_)
 refine kw ZJ (kw ZJ ?_)
 refine kw ZJ (kw ZJ ?_)
 exact fun a w h=>Zky (rfl) (ez.1) z7.1.2.1 rfl h
theorem Zhe {J:WP} (hJ:Stab J) (d:Db) (i:Nat) (ss:List Stp) (ts:List (List BA)) (M:Nat) (gf:Fr) (step:Nat)  :Fn prog J 76 [.ptr [Zb d.consts,Zb d.vars,Yq d.frames,.lit (.int .i64 (((i:Nat):Int))),ZQ ss,Zo ts,.lit (.int .i64 ((((ZH ss):Nat):Int))),.lit (.map (some M))],.agg (frC gf),.int (step:Nat)] (.fn 101 [.ptr (frC gf),.ptr [.ptr [Zb d.consts,Zb d.vars,Yq d.frames,.lit (.int .i64 (((i:Nat):Int))),ZQ ss,Zo ts,.lit (.int .i64 ((((ZH ss):Nat):Int))),.lit (.map (some M))]],.ptr [.lit (.int .i64 (((step:Nat):Int)))]]):=by
 refine fE Tryz.func76 fun S w0 hS hJ0=>?_
 clear hJ0
 refine hqs tb hJ [1000,1001,1002] [.ptr [.ptr [Zb d.consts,Zb d.vars,Yq d.frames,.lit (.int .i64 (((i:Nat):Int))),ZQ ss,Zo ts,.lit (.int .i64 ((((ZH ss):Nat):Int))),.lit (.map (some M))]],.ptr (frC gf),.ptr [.lit (.int .i64 (((step:Nat):Int)))],_] [0,1,2] [_,_,_] rfl ⟨fun _ _ hk hx hl _=>ZfR rfl (hl.env 0 0 _ rfl rfl) (hS _ hk.size) (js hJ hx),iBs hS hJ,fun _ _ hk hx hl _=>Zao rfl (hl.env 2 2 _ rfl rfl) (hS _ hk.size) (js hJ hx),trivial⟩ ?_
 refine hqs tb hJ [1001] [.fn 101 [.ptr (frC gf),.ptr [.ptr [Zb d.consts,Zb d.vars,Yq d.frames,.lit (.int .i64 (((i:Nat):Int))),ZQ ss,Zo ts,.lit (.int .i64 ((((ZH ss):Nat):Int))),.lit (.map (some M))]],.ptr [.lit (.int .i64 (((step:Nat):Int)))]],_] [0] [_] rfl ⟨fun _ _ _ hx hl _=>YW (caps:=[(Go.Operand.tmp 4),(Go.Operand.tmp 3),(Go.Operand.tmp 5)]) rfl (Za (hl.env 1 4 _ rfl rfl) (Za (hl.env 0 3 _ rfl rfl) (Za (hl.env 2 5 _ rfl rfl) Zd))) hx,trivial⟩ ?_
 exact tRn 0 (hE:=rfl)
end Go.Proofs.YtdfadihhfppjaaaGreatDoor
namespace Go.Proofs.YtdfadihhfppjaaaGreatDoor
section
variable {j:Jb} {g:Fr} {step:Nat}
theorem ZjL (hm:∀ s z,Zw j.M s=some z→0≤z):∀(hs:List Hy) (M:BM) (al:List Int),(ZgK j g step hs M al).1.length≤step^hs.length
 | [],M,al=>by
  rw[ZgK];split
  · split<;>simp
  · simp
 | y::hs,M,al=>by
  rw[ZgK]
  split
  · have key:∀(l:List Nat) (q:List (List Int)×BM),(l.foldl (Zim (ZgK j g step hs) j y al) q).1.length≤q.1.length+l.length*step^hs.length:=by
     intro l
     induction l with
     | nil=>intro q;simp
     | cons t l ih=>
      intro q
      rw[List.foldl_cons]
      refine Nat.le_trans (ih _) ?_
      have:(Zim (ZgK j g step hs) j y al q t).1.length≤q.1.length+step^hs.length:=by
       unfold Zim
       split
       · simp only[List.length_append]
         exact Nat.add_le_add_left (ZjL hm hs _ _) _
       · exact Nat.le_add_right _ _
      rw[List.length_cons,Nat.add_mul]
      omega
    refine Nat.le_trans (key _ _) ?_
    have h1:=ZmX (j:=j) (hs:=g.hyps) (step:=step) (h:=y) (M:=M) hm
    simp only[List.length_nil,Nat.zero_add,List.length_range',List.length_cons,Nat.pow_succ]
    rw[Nat.mul_comm (step^hs.length)]
    exact Nat.mul_le_mul_right _ oz
  · simp
theorem ZkV (hm:∀ s z,Zw j.M s=some z→0≤z):(ZhY j g step).length≤step^g.hyps.length:=by
 have:=ZjL (g:=g) (step:=step) hm g.hyps [] []
 simpa [ZhY,ZaQ]using this
theorem pow4 {n m:Nat} (hn:n≤16) (hm:m≤4):n^m≤65536:=by
 have h1:n^m≤16^m:=Nat.pow_le_pow_left hn _
 have h2:16^m≤16^4:=Nat.pow_le_pow_right dz hm
 have:(16:Nat)^4=65536:=by decide
 omega
theorem Zup (hm:∀ s z,Zw j.M s=some z→0≤z) (hs:step≤16):(Zpm j step g).length≤65536:=by
 unfold Zpm
 split
 · simp
 · rw[List.length_map]
   exact Nat.le_trans (ZkV hm) (pow4 hs oz)
theorem ZkF (hm:∀ s z,Zw j.M s=some z→0≤z) (hs:step≤16):∀(fs:List Fr),(fs.flatMap (Zpm j step)).length≤fs.length*65536
 | []=>by simp
 | f::fs=>by
  rw[List.flatMap_cons,List.length_append,List.length_cons,Nat.add_mul,Nat.one_mul,Nat.add_comm]
  exact Nat.add_le_add (ZkF hm hs fs) (Zup hm hs)
theorem ZpF:(ZeF j step).length≤1:=by unfold ZeF;split<;>simp
def Zmg (j:Jb) (step q:Nat):List Chg:=(ZeF j step++(j.d.frames.take q).flatMap (Zpm j step)).filterMap (X0 j.ss)
theorem ZkT:Zmg j step 0=(ZeF j step).filterMap (X0 j.ss):=by simp[Zmg]
theorem Zq8 {q:Nat} (h:q<j.d.frames.length):Zmg j step (q+1)=Zmg j step q++(Zpm j step (ge j.d.frames q)).filterMap (X0 j.ss):=by
 unfold Zmg
 rw[List.take_add_one,List.getElem?_eq_getElem h,←YL h]
 simp[List.filterMap_append,List.flatMap_append]
theorem ZoP (hm:∀ s z,Zw j.M s=some z→0≤z) (hs:step≤16) {q:Nat} (hq:q≤16):(Zmg j step q).length≤2000000:=by
 refine Nat.le_trans (List.length_filterMap_le _ _) ?_
 rw[List.length_append]
 have h1:=ZpF (j:=j) (step:=step)
 have h2:=ZkF hm hs (j.d.frames.take q)
 have h3:(j.d.frames.take q).length≤16:=by rw[List.length_take];omega
 have h4:(j.d.frames.take q).length*65536≤16*65536:=Nat.mul_le_mul_right _ h3
 omega
theorem Zuu {α β:Type} {f:α→Option β} {l:List α} {x:α}:(l++[x]).filterMap f=l.filterMap f++(f x).toList:=by
 rw[List.filterMap_append]
 congr 1
end
theorem ZqI {i j:Nat} {α:Type} [Inhabited α] {l:List α} (h:j<i):ge (l.take i) j=ge l j:=by
 simp only[ge,List.getD_eq_getElem?_getD,List.getElem?_take]
 rw[if_pos h]
structure JobW (j:Jb):Prop where
 ok:ZeD j.ss
 l16:j.ss.length≤16
 len:j.ts.length=j.ss.length
 ts:∀ t∈j.ts,(1≤t.length∧t.length≤2000)∧∀ s∈t,s.size≤60
 m1:∀ s z,Zw j.M s=some z→0≤z∧z< (j.ts.length:Int)
 m2:∀ i,i<j.ts.length→(Zw j.M (Xz (ge j.ts i))).isSome=true
 f16:j.d.frames.length≤16
 hi:j.i<j.d.frames.length
 wd:(ge j.d.frames j.i).wide.length*32≤140737488351232
 fl:∀ g∈j.d.frames,∀ h∈g.hyps,h.floating=true→h.text.length=2
 tx:∀ g∈j.d.frames,∀ h∈g.hyps,1≤h.text.length∧∀ s∈h.text,s.size≤60
 gh:∀ g∈j.d.frames,g.hyps.length≤2000
section
variable {j:Jb} {g:Fr} {step:Nat}
theorem JobW.try (h:JobW j) (hg:g∈j.d.frames) (hs:step<j.ss.length):Zez j g step:=
 ⟨h.fl g hg,h.tx g hg,h.ts,by rw[h.len];exact hs,h.m1,h.m2,h.gh g hg,h.hi,h.wd⟩
theorem JobW.m0 (h:JobW j):∀ s z,Zw j.M s=some z→0≤z:=fun s z e=>(h.m1 s z e).1
theorem JobW.fst (h:JobW j) (hs:step<j.ss.length):0≤(Zw j.M (Xz (ge j.ts step))).getD default∧(Zw j.M (Xz (ge j.ts step))).getD default< (j.ss.length:Int)∧(Zw j.M (Xz (ge j.ts step))).getD 0=(Zw j.M (Xz (ge j.ts step))).getD default:=by
 obtain⟨z,hz⟩:=Option.isSome_iff_exists.1 (h.m2 step (by rw[h.len];exact hs))
 rw[hz]
 have:=h.m1 _ _ hz
 rw[h.len]at this
 exact⟨this.1,this.2,rfl⟩
end
end Go.Proofs.YtdfadihhfppjaaaGreatDoor
namespace Go.Proofs.YtdfadihhfppjaaaGreatDoor
open Go.RowKit
def OB.dfrs (Ds:List Nat):OB where
 blk:=fun k=>k∈Ds
 inv:=fun lo _ w=>Ds.Nodup∧∀ D∈Ds,lo≤D∧D<w.heap.size∧w.heap[D]?=some (.deferred (some []))
 mv:=fun⟨h0,h⟩ hk hb _=>⟨h0,fun D hD=>⟨(h D hD).1,by have:=hk.size;have:=(h D hD).2.1;omega,(hk.block _ (h D hD).2.1 (hb _ hD)).trans (h D hD).2.2⟩⟩
 lt:=fun⟨_,h⟩ k hk=>⟨(h k hk).1,(h k hk).2.1⟩
section
variable {N:Nat} {J:WP} {S:Nat→Prop} {O:List OB} {w0:World} {env:List (Nat×AV)} {a:Act} {w:World} {D:Nat} {Ds:List Nat}
theorem so_dfr {k:Nat}:SO S (OB.dfrs (D::Ds)::O) k↔SO S (OB.dfrs Ds::OB.dfr D::O) k:=by
 constructor
 · refine fun h=>⟨h.1,fun p hp=>?_⟩
   have h1:¬ k∈D::Ds:=h.2 (OB.dfrs (D::Ds)) yz
   rcases List.mem_cons.1 hp with rfl | hp
   · exact fun e=>h1 (List.mem_cons_of_mem _ e)
   · rcases List.mem_cons.1 hp with rfl | hp
     · exact fun(e:k=D)=>h1 (by simp[e])
     · exact h.2 p (List.mem_cons_of_mem _ hp)
 · refine fun h=>⟨h.1,fun p hp=>?_⟩
   rcases List.mem_cons.1 hp with rfl | hp
   · intro(e:k∈D::Ds)
     rcases List.mem_cons.1 e with rfl | e
     · exact h.2 (OB.dfr k) yz rfl
     · exact h.2 (OB.dfrs Ds) yz e
   · exact h.2 p (List.mem_cons_of_mem _ (List.mem_cons_of_mem _ hp))
theorem Ztm (h:So J S w0 N (OB.dfrs Ds::OB.dfr D::O) env a w):So J S w0 N (OB.dfrs (D::Ds)::O) env a w:=by
 have hp:=List.pairwise_cons.1 h.x.2.2
 have hp2:=List.pairwise_cons.1 hp.2
 obtain⟨g0,g⟩:=h.x.2.1 (OB.dfrs Ds) yz
 obtain⟨g1,g2,g3⟩:=h.x.2.1 (OB.dfr D) yz
 refine⟨h.defs,h.size,h.keep,⟨h.x.1,fun p hq=>?_,.cons (fun p hq k hk=>?_) hp2.2⟩,fun p hq=>⟨(h.env p hq).1,(h.env p hq).2.sub fun _ _ hk=>so_dfr.2 hk⟩⟩
 · rcases List.mem_cons.1 hq with rfl | hq
   · refine⟨List.nodup_cons.2 ⟨fun hm=>hp.1 (OB.dfr D) yz D hm rfl,g0⟩,fun D' hD=>?_⟩
     rcases List.mem_cons.1 hD with rfl | hD
     · exact⟨g1,g2,g3⟩
     · exact g D' hD
   · exact OB.sub (h.x.2.1 p (List.mem_cons_of_mem _ (List.mem_cons_of_mem _ hq))) fun _ _ hk=>so_dfr.2 hk
 · rcases List.mem_cons.1 hk with rfl | hk
   · exact hp2.1 p hq k rfl
   · exact hp.1 p (List.mem_cons_of_mem _ hq) k hk
theorem Ztl (h:So J S w0 N (OB.dfrs (D::Ds)::O) env a w):So J S w0 N (OB.dfr D::OB.dfrs Ds::O) env a w:=by
 have hp:=List.pairwise_cons.1 h.x.2.2
 obtain⟨g0,g⟩:=h.x.2.1 (OB.dfrs (D::Ds)) yz
 have g1:=List.nodup_cons.1 g0
 refine ZaB (.swap _ _ _) ⟨h.defs,h.size,h.keep,⟨h.x.1,fun p hq=>?_,.cons (fun p hq k hk=>?_) (.cons (fun p hq k hk=>hp.1 p hq k (by rw[show k=D from hk];exact List.mem_cons_self)) hp.2)⟩,fun p hq=>⟨(h.env p hq).1,(h.env p hq).2.sub fun _ _ hk=>so_dfr.1 hk⟩⟩
 · rcases List.mem_cons.1 hq with rfl | hq
   · exact⟨g1.2,fun D' hD=>g D' (List.mem_cons_of_mem _ hD)⟩
   · rcases List.mem_cons.1 hq with rfl | hq
     · exact g D yz
     · exact OB.sub (h.x.2.1 p (List.mem_cons_of_mem _ hq)) fun _ _ hk=>so_dfr.1 hk
 · rcases List.mem_cons.1 hq with rfl | hq
   · exact fun e=>g1.1 (by rw[←show k=D from e];exact hk)
   · exact hp.1 p hq k (List.mem_cons_of_mem _ hk)
theorem Ztn (h:So J S w0 N O env a w):So J S w0 N (OB.dfrs []::O) env a w:=by
 have hs:∀ k,SO S O k→SO S (OB.dfrs []::O) k:=fun k hk=>⟨hk.1,fun q hq=>by
  rcases List.mem_cons.1 hq with rfl | hq
  · exact fun e=>(by cases e)
  · exact hk.2 q hq⟩
 refine⟨h.defs,h.size,h.keep,⟨h.x.1,fun q hq=>?_,.cons (fun _ _ _ e=>by cases e) h.x.2.2⟩,fun q hq=>⟨(h.env q hq).1,(h.env q hq).2.sub fun k _=>hs k⟩⟩
 rcases List.mem_cons.1 hq with rfl | hq
 · exact⟨.nil,fun D hD=>by cases hD⟩
 · exact OB.sub (h.x.2.1 q hq) fun k _=>hs k
end
section
variable {P:Program} {fid:FuncId} {Q:Exit→Act→WP} {a:Act} {w:World} {A:Act→WP}
theorem Zvj {ι:Type} {c:Code} (I:ι→Act→WP) (μ:ι→Nat) (h:∀ i a w,I i a w→Code.wpAt fid P c (Exit.then (fun a' w'=>∃ j,I j a' w'∧μ j<μ i) Q) a w) (i0:ι) (h0:I i0 a w):Code.wpAt fid P (.loop c) Q a w:=by
 intro b k cs hro hb
 have key:∀ m a w i,μ i=m→I i a w→
  ∃ e a' w',Q e a' w'∧ArrivesIn (Machine.fenced P Fence.wide) P (lone (b.atR a (.code c:: .inLoop c::k)) cs w) b k cs e a' w':=by
  intro m
  induction m using Nat.strongRecOn with
  | _ m ih=>
   intro a w i hn hI
   obtain⟨e,a₁,w₁,hq,harr⟩:=h i a w hI b (.inLoop c::k) cs hro hb
   cases e with
   | normal=>
    obtain⟨j,hj,hlt⟩:=hq
    obtain⟨e₂,a₂,w₂,hq₂,harr₂⟩:=ih (μ j) (hn▸hlt) a₁ w₁ j rfl hj
    exact⟨e₂,a₂,w₂,hq₂,.of_steps (StepsIn.trans harr (.one (fenced_calm (n:=0) trivial (Xc _) rfl) stepR_inLoop)) harr₂⟩
   | exit id=>exact⟨_,a₁,w₁,hq,.pass (x:=.inLoop c) rfl (fun _ _=>.inl yz) harr⟩
   | goto l=>exact⟨_,a₁,w₁,hq,.pass (x:=.inLoop c) rfl (fun _ _=>.inl yz) harr⟩
   | ret=>exact⟨_,a₁,w₁,hq,.pass (x:=.inLoop c) rfl (fun _ _=>.inl yz) harr⟩
   | panic ch=>exact⟨_,a₁,w₁,hq,.pass (x:=.inLoop c) rfl (fun _ _=>.inl yz) harr⟩
   | outgrown=>exact⟨_,a₁,w₁,hq,.pass (x:=.inLoop c) rfl (fun _ _=>.inl yz) harr⟩
 obtain⟨e,a',w',hq,harr⟩:=key _ a w i0 rfl h0
 exact⟨e,a',w',hq,.of_steps (.one (fenced_calm (n:=0) trivial (Xc _) rfl) stepR_loop) harr⟩
def Zsb (fid:FuncId) (ds:List Deferred) (P:Program) (A:Act→WP) (c:Code) (Q:Exit→Act→WP):Prop:=∀ a w,A a w→Code.wpAt fid P c Q (phi ds a) w
variable {ds:List Deferred}
theorem ZhR {m:Nat} {x y:Code} (h:TrD (⟨m,none⟩:Rn) ds P A x (Exit.then (fun a w=>Code.wpAt fid P y Q a w) Q)):Zsb fid ds P A (.seq x y) Q:=fun a w ha=>Zle (Zvi (h a w ha))
theorem al_seq {x y:Code} (h:Zsb fid ds P A x (Exit.then (fun a w=>Code.wpAt fid P y Q a w) Q)):Zsb fid ds P A (.seq x y) Q:=fun a w ha=>Zle (h a w ha)
theorem Zlh {id:Nat} {c:Code} (h:Zsb fid ds P A c (Exit.inBlock id Q)):Zsb fid ds P A (.block id c) Q:=fun a w ha=>Zlf (h a w ha)
theorem nxL {y:Code} (h:Zsb fid ds P A y Q):∀ a w,A a w→Code.wpAt fid P y Q (phi ds a) w:=h
theorem alw {B:Act→WP} {c:Code} (hAB:∀ {a:Act} {w:World},A a w→B a w) (h:Zsb fid ds P B c Q):Zsb fid ds P A c Q:=fun a w ha=>h a w (hAB ha)
end
section
variable {N:Nat} {P:Program} {J:WP} {S:Nat→Prop} {O:List OB} {w0:World} {env:List (Nat×AV)} {fn:Func} {R:Ending→WP} {a:Act} {w:World} {D:Nat} {fid:FuncId} {Q:Exit→Act→WP} {c:Code}
theorem lpL {ι:Type} (F:ι→Prop) (O':ι→List OB) (E:ι→List (Nat×AV)) (μ:ι→Nat) (ks:List Nat) (eK:List (Nat×AV)) (i0:ι) (h0:F i0)
 (h:∀ i,F i→∀ Ds,Zsb fid (Zb5 Ds) P (So J S w0 N (OB.dfrs Ds::O' i) (eK++E i)) c (Exit.then (fun a' w=>∃ j,(∃ Ds' a1,a'=phi (Zb5 Ds') a1∧F j∧So J S w0 N (OB.dfrs Ds'::O' j) (eK++E j) a1 w)∧μ j<μ i) Q)) (hO:O=O' i0:=by exact rfl) (he:ks.map (env[·]?)=(eK++E i0).map some:=by exact rfl):TrA fid P (So J S w0 N O env) (.loop c) Q:=fun a w ha=>by
 refine Zvj (fun i a' w=>∃ Ds' a1,a'=phi (Zb5 Ds') a1∧F i∧So J S w0 N (OB.dfrs Ds'::O' i) (eK++E i) a1 w) μ (fun i a w ⟨Ds,a1,e,hF,hs⟩=>e▸h i hF Ds a1 w hs) i0 ⟨[],a,?_,h0,Ztn (lz ks he (hO▸ha))⟩
 show a= { a with defers:=a.defers++[] }
 rw[List.append_nil]
theorem lpLE {ι:Type} {F:ι→Prop} {O':ι→List OB} {E:ι→List (Nat×AV)} {μ:ι→Nat} {m':Nat} {eK:List (Nat×AV)} {Ds:List Nat} (j:ι) (ks:List Nat) (hF:F j) (hm:μ j<m':=by(try dsimp only);first | omega | (simp;omega)) (hO:O=OB.dfrs Ds::O' j:=by exact rfl) (he:ks.map (env[·]?)=(eK++E j).map some:=by exact rfl):∀ a w,So J S w0 N O env a w→∃ j,(∃ Ds' a1,phi (Zb5 Ds) a=phi (Zb5 Ds') a1∧F j∧So J S w0 N (OB.dfrs Ds'::O' j) (eK++E j) a1 w)∧μ j<m':=
 fun a _ ha=>⟨j,⟨Ds,a,rfl,hF,lz ks he (hO▸ha)⟩,hm⟩
theorem jnoA {n:Rn} {y:Code} {ι:Type} (F:ι→Prop) (O':ι→List OB) (E:ι→List (Nat×AV)) (h1:Tr n P (So J S w0 N O env) c (Exit.then (fun a w=>∃ j,F j∧So J S w0 N (O' j) (E j) a w) Q)) (h2:∀ i,F i→∀ a w,So J S w0 N (O' i) (E i) a w→Exit.then (fun a w=>Code.wpAt fid P y Q a w) Q .normal a w):Tr n P (So J S w0 N O env) c (Exit.then (fun a w=>Code.wpAt fid P y Q a w) Q):=
 fun a w ha=>wpIn_mono (h1 a w ha) fun e a' w' he=>by
  cases e with
  | normal=>obtain⟨j,hF,hs⟩:=he;exact h2 j hF a' w' hs
  | _=>exact he
theorem outL (hJ:Stab J) (hJ0:J w0) (h:∀ a w,So J S w0 N O env a w→bodyPost P fn R .ret a w) (Ds:List Nat):∀ a w,So J S w0 N (OB.dfrs Ds::O) env a w→bodyPostM Fence.wide 5 P fn R .ret (phi (Zb5 Ds) a) w:=by
 intro a w ha
 show LeavesInM Fence.wide 5 P fn a.tmps R (a.defers++Zb5 Ds) .returning w
 rw[ha.defs]
 show LeavesInM Fence.wide 5 P fn a.tmps R (Zb5 Ds) .returning w
 induction Ds generalizing w with
 | nil=>
  have:=outA (h a w (ZJ ha))
  show LeavesInM Fence.wide 5 P fn a.tmps R [] .returning w
  have e:bodyPostM Fence.wide 5 P fn R .ret a w=LeavesInM Fence.wide 5 P fn a.tmps R a.defers .returning w:=rfl
  rw[e,ha.defs]at this
  exact this
 | cons D Ds ih=>
  obtain⟨h1,h2⟩:=ZmQ hJ hJ0 (Ztl ha)
  exact⟨by simp,.inl ⟨D,_,rfl,run_takeDeferred h1,ih _ h2⟩⟩
end
theorem ZqO {P:Program} {J:WP} {f:FuncId} {Hs:List OB} {args:List AV} {res:AV} (h:FnM (ι:=Unit) P J f Hs args [] (fun _=>res) (fun _=>[])):FnR P J f Hs args res:=by
 intro S w vs hS hJ hH ha
 refine Calls.mono (h S w [] w vs hS hJ hH (Keeps.refl _ _) (ZjB hJ) (ha.sub fun k _ hk=>⟨hk,fun q hq=>(by cases hq)⟩)) ?_
 rintro e' w' ⟨i,v,he,hv,hk,hx⟩
 exact⟨_,he,hv.sub fun k _ hs=>hs.1,hk,hx.1⟩
theorem Zc9 {J:WP} {S:Nat→Prop} {N:Nat} {P:Program} {w0:World} {O:List OB} {env:List (Nat×AV)} {fn:Func} {a:Act} {w:World} {b:Nat} {cs cs':List CD} {t:TypeId} {d m q u x z k:Nat} {r1 r2 r3 r4:AV} (hr:fn.results= #[.cell d t,.tmp x,.tmp u]) (h1:Xl P t k) (h:So J S w0 N (OB.var b cs::O) env a w) (he:env[m]?=some (d,.at b 0)) (hl:cs.length=k) (hE:cs=cs') (he1:env[z]?=some (x,r1)) (hE1:r1=r2) (he2:env[q]?=some (u,r3)) (hE2:r3=r4):
 bodyPost P fn (fun e w'=>∃ v,e= .returned v∧Rel S w' (.tup [.agg cs',r2,r4]) v∧Keeps All w0 w'∧J w') .ret a w:=by
 subst hE
 subst hE1
 subst hE2
 obtain⟨h0,us,e,hb,hrd⟩:=h.x.2.1 (OB.var b cs) yz
 have hd:a.tmps.getD d undef= .pointer (some ⟨b,0,none⟩):=(h.get m he).lit
 have hrun:=Yj (P:=P) b 0 w us 0 #[] fun j u hj=>by rw[Nat.zero_add];simp[World.cell?,hb,hj]
 rw[show us.length=k by rw[hrd.length,hl]]at hrun
 have hd':a.tmps[d]?.getD undef= .pointer (some ⟨b,0,none⟩):=by rw[←Array.getD_eq_getD_getElem?];exact hd
 refine⟨h.defs,.tuple #[.agg us.toArray,a.tmps.getD x undef,a.tmps.getD u undef],by simp[results,hr,hd',asAddr,Sem.run_bind,loadVar,loadCells,h1.1 w,h1.2 w,hrun],_,rfl,?_,h.keep,h.x.1⟩
 have h2:=(h.get q he2).sub (T:=S) fun _ _ hk=>hk.1
 have h3:=(h.get z he1).sub (T:=S) fun _ _ hk=>hk.1
 simp only[Rel,RelL]
 exact⟨_,rfl,_,_,rfl,⟨us,rfl,hrd.sub fun _ _ hk=>hk.1⟩,_,_,rfl,h3,_,_,rfl,h2,rfl⟩
theorem Zqu {J:WP} {S:Nat→Prop} {N:Nat} {P:Program} {w0:World} {O:List OB} {env:List (Nat×AV)} {a:Act} {w:World} {b b2:Nat} {cs cs2:List CD} {t t2:TypeId} {fn:Func} {d m q u:Nat} {k k2:Nat} {cs' cs2':List CD} (hr:fn.results= #[.cell d t,.cell u t2]) (h1:Xl P t k) (h2:Xl P t2 k2) (h:So J S w0 N (OB.var b cs::OB.var b2 cs2::O) env a w) (he:env[m]?=some (d,.at b 0)) (he2:env[q]?=some (u,.at b2 0)) (hl:cs.length=k) (hl2:cs2.length=k2) (hE:cs=cs') (hE2:cs2=cs2'):
 bodyPost P fn (fun e w'=>∃ v,e= .returned v∧Rel S w' (.tup [.agg cs',.agg cs2']) v∧Keeps All w0 w'∧J w') .ret a w:=by
 subst hE
 subst hE2
 obtain⟨h0,us,e,hb,hrd⟩:=h.x.2.1 (OB.var b cs) yz
 obtain⟨g0,vs,e',gb,grd⟩:=h.x.2.1 (OB.var b2 cs2) yz
 have hd:a.tmps.getD d undef= .pointer (some ⟨b,0,none⟩):=(h.get m he).lit
 have hu:a.tmps.getD u undef= .pointer (some ⟨b2,0,none⟩):=(h.get q he2).lit
 have hrun:=Yj (P:=P) b 0 w us 0 #[] fun j u hj=>by rw[Nat.zero_add];simp[World.cell?,hb,hj]
 rw[show us.length=k by rw[hrd.length,hl]]at hrun
 have hrun2:=Yj (P:=P) b2 0 w vs 0 #[] fun j u hj=>by rw[Nat.zero_add];simp[World.cell?,gb,hj]
 rw[show vs.length=k2 by rw[grd.length,hl2]]at hrun2
 have hd':a.tmps[d]?.getD undef= .pointer (some ⟨b,0,none⟩):=by rw[←Array.getD_eq_getD_getElem?];exact hd
 have hu':a.tmps[u]?.getD undef= .pointer (some ⟨b2,0,none⟩):=by rw[←Array.getD_eq_getD_getElem?];exact hu
 refine⟨h.defs,.tuple #[.agg us.toArray,.agg vs.toArray],by simp[results,hr,hd',hu',asAddr,Sem.run_bind,loadVar,loadCells,h1.1 w,h1.2 w,h2.1 w,h2.2 w,hrun,hrun2],_,rfl,?_,h.keep,h.x.1⟩
 simp only[Rel,RelL]
 exact⟨_,rfl,_,_,rfl,⟨us,rfl,hrd.sub fun _ _ hk=>hk.1⟩,_,_,rfl,⟨vs,rfl,grd.sub fun _ _ hk=>hk.1⟩,rfl⟩
section
variable {n:Rn} {P:Program} {S:Nat→Prop} {X:WP}
theorem ZlF (g:Nat→Value):(Array.range 6).map g= #[g 0,g 1,g 2,g 3,g 4,g 5]:=by apply Array.toList_inj.1;simp[List.range_succ]
theorem ZiI {t e:TypeId} {z:Value} (ht:Yl P t e 6) (hz:∀ w,(zeroValue e).run P w= .ok z w) (us:List Value) (hu:us.length=6) (w:World):
 (Instr.buildSlice t 1 #[(0,.agg us.toArray)]).run P w= .ok (.slice (some ⟨w.heap.size,0,none⟩) 1 1) (w.alloc (.cells us.toArray e)):=by
 unfold Instr.buildSlice
 match us,hu with
 | [a,b,c,d,f,g],_=>
  have hc:(Value.agg [a,b,c,d,f,g].toArray).cells= #[a,b,c,d,f,g]:=rfl
  simp[Sem.run_bind,run_underlying ht.1,ht.2 w,hz w,Instr.fill,hc,newRow,newObj,Sem.run,ZlF]
theorem Zg7 {cs:List CD} {o:Oper} {a:Act} {w:World} {x:Operand} {t e:TypeId} (ht:Yl P t e 6) (hz:Zcl P e) (hc:cs.length=6) (hop:o.op= .buildSlice t 1 #[(0,x)]) (h:Rel S w (.agg cs) (a.eval x)) (hS:S w.heap.size) (hx:∀ w',Keeps All w w'→X w'):Does n P o a w (YC S X (.rd (.sl [cs])) w):=by
 obtain⟨z,hz1⟩:=hz
 simp only[Rel]at h
 obtain⟨us,hv,hr⟩:=h
 have hk':Keeps All w (w.alloc (.cells us.toArray e)):=(Keeps.refl _ _).alloc _
 refine ZR (v:=.slice (some ⟨w.heap.size,0,none⟩) 1 1) (w':=w.alloc (.cells us.toArray e)) ?_ ⟨?_,hk',hx _ hk'⟩
 · have:=ZiI ht hz1 us (by rw[hr.length,hc]) w
   rw[execOp,hop]
   simp only[List.map_toArray,List.map_cons,List.map_nil,Sem.run_bind,hv,this]
   rfl
 · simp only[Rel]
   refine Rd.of_cells (n:=6) (us:=us) nlr dz yz hS (fun r hr=>by simp at hr;subst hr;exact hc) (by simp only[List.flatten_cons,List.flatten_nil,List.append_nil];exact hr.keep hk' fun _ _ _=>trivial) fun j u hj=>Qz j u hj
end
end Go.Proofs.YtdfadihhfppjaaaGreatDoor
