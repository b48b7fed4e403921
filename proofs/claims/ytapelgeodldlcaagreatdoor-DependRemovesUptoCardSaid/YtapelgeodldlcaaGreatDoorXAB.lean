/-
  DERIVED: the shelf's contracts at this dump, in plain words.
  CONTRACT of the library: a row of pairs is sorted.
  CONTRACT of the program: pairs in order.
  CONTRACT of the program: what a use breaks.
  CONTRACTS of the program: an assertion is used; the kinds of steps.
  THE ENGINE: a drawn region in which operations turn what is owned, or end with a panic.
  CONTRACTS of the program: a step's closure.
  CONTRACTS of the program: the kinds of steps, the end of a proof.
  CONTRACT of the program: a step.
  CONTRACTS of the program: what a proof's words mean.
  CONTRACTS of the program: what a label means.
-/
import Derived.Shelf.SlSortCmp.WholeK
import Derived.Shelf.SlSortCmp.NoneTotal
import Derived.Ground.SlsfProg
import Derived.Test.YtapelgeodldlcaaGreatDoorXAA
namespace Go.Proofs
open Go.Shelf
def Tryz.sortP_ren:Go.Shelf.Ren:=⟨fun | 6=>168 | 15=>95 | 14=>178 | 28=>127 | 29=>128 | 20=>181 | 21=>182 | 22=>183 | 23=>184 | 24=>185 | 25=>186 | 26=>187 | 27=>188 | 46=>189 | 47=>142 | 48=>143 | 49=>190 | 50=>191 | 57=>192 | n=>n,fun | 22=>30 | 24=>115 | 25=>116 | 3=>3 | 39=>154 | 0=>0 | 53=>185 | 55=>187 | 4=>4 | 46=>178 | 45=>177 | 50=>79 | 5=>5 | 9=>9 | 66=>203 | 70=>207 | 76=>228 | 77=>229 | n=>n,fun | n=>n⟩
theorem Tryz.sortP:Go.Proofs.SlLaysF0.n6 Tryz.prog Tryz.sortP_ren:= {
 mixed:=by kernel_rfl
 f6:=⟨Tryz.f168.name,by decide,Tryz.func168.trans (congrArg some (by kernel_rfl))⟩
 f14:=⟨Tryz.f178.name,by decide,Tryz.func178.trans (congrArg some (by kernel_rfl))⟩
 f15:=Tryz.func95.trans (congrArg some (by kernel_rfl))
 f20:=⟨Tryz.f181.name,by decide,Tryz.func181.trans (congrArg some (by kernel_rfl))⟩
 f21:=⟨Tryz.f182.name,by decide,Tryz.func182.trans (congrArg some (by kernel_rfl))⟩
 f22:=⟨Tryz.f183.name,by decide,Tryz.func183.trans (congrArg some (by kernel_rfl))⟩
 f23:=⟨Tryz.f184.name,by decide,Tryz.func184.trans (congrArg some (by kernel_rfl))⟩
 f24:=⟨Tryz.f185.name,by decide,Tryz.func185.trans (congrArg some (by kernel_rfl))⟩
 f25:=⟨Tryz.f186.name,by decide,Tryz.func186.trans (congrArg some (by kernel_rfl))⟩
 f26:=⟨Tryz.f187.name,by decide,Tryz.func187.trans (congrArg some (by kernel_rfl))⟩
 f27:=⟨Tryz.f188.name,by decide,Tryz.func188.trans (congrArg some (by kernel_rfl))⟩
 f28:=Tryz.func127.trans (congrArg some (by kernel_rfl))
 f29:=Tryz.func128.trans (congrArg some (by kernel_rfl))
 f46:=⟨Tryz.f189.name,by decide,Tryz.func189.trans (congrArg some (by kernel_rfl))⟩
 f47:=Tryz.func142.trans (congrArg some (by kernel_rfl))
 f48:=Tryz.func143.trans (congrArg some (by kernel_rfl))
 f49:=⟨Tryz.f190.name,by decide,Tryz.func190.trans (congrArg some (by kernel_rfl))⟩
 f50:=⟨Tryz.f191.name,by decide,Tryz.func191.trans (congrArg some (by kernel_rfl))⟩
 f57:=⟨Tryz.f192.name,by decide,Tryz.func192.trans (congrArg some (by kernel_rfl))⟩
 t0:=Tryz.underlying0
 a0:=Tryz.isAgg0
 z0:=Tryz.sizeOf0
 v0:=Tryz.zeroValue0
 t3:=Tryz.underlying3
 a3:=Tryz.isAgg3
 z3:=Tryz.sizeOf3
 v3:=Tryz.zeroValue3
 t4:=Tryz.underlying4
 a4:=Tryz.isAgg4
 z4:=Tryz.sizeOf4
 v4:=Tryz.zeroValue4
 t5:=Tryz.underlying5
 a5:=Tryz.isAgg5
 z5:=Tryz.sizeOf5
 v5:=Tryz.zeroValue5
 t9:=Tryz.underlying9
 a9:=Tryz.isAgg9
 z9:=Tryz.sizeOf9
 v9:=Tryz.zeroValue9
 t22:=Tryz.underlying30
 a22:=Tryz.isAgg30
 z22:=Tryz.sizeOf30
 v22:=Tryz.zeroValue30
 t25:=Tryz.underlying116
 a25:=Tryz.isAgg116
 z25:=Tryz.sizeOf116
 v25:=Tryz.zeroValue116
 t39:=Tryz.underlying154
 a39:=Tryz.isAgg154
 z39:=Tryz.sizeOf154
 v39:=Tryz.zeroValue154
 t45:=Tryz.underlying177
 a45:=Tryz.isAgg177
 z45:=Tryz.sizeOf177
 v45:=Tryz.zeroValue177
 t46:=Tryz.underlying178
 a46:=Tryz.isAgg178
 z46:=Tryz.sizeOf178
 v46:=Tryz.zeroValue178
 t50:=Tryz.underlying79
 a50:=Tryz.isAgg79
 z50:=Tryz.sizeOf79
 v50:=Tryz.zeroValue79
 t53:=Tryz.underlying185
 a53:=Tryz.isAgg185
 z53:=Tryz.sizeOf185
 v53:=Tryz.zeroValue185
 t55:=Tryz.underlying187
 a55:=Tryz.isAgg187
 z55:=Tryz.sizeOf187
 v55:=Tryz.zeroValue187
 t66:=Tryz.underlying203
 a66:=Tryz.isAgg203
 z66:=Tryz.sizeOf203
 v66:=Tryz.zeroValue203
 t70:=Tryz.underlying207
 a70:=Tryz.isAgg207
 z70:=Tryz.sizeOf207
 v70:=Tryz.zeroValue207
 t76:=Tryz.underlying228
 a76:=Tryz.isAgg228
 z76:=Tryz.sizeOf228
 v76:=Tryz.zeroValue228
 t77:=Tryz.underlying229
 a77:=Tryz.isAgg229
 z77:=Tryz.sizeOf229
 v77:=Tryz.zeroValue229 }
end Go.Proofs
set_option maxHeartbeats 8000000
set_option maxRecDepth 100000
namespace Go.Proofs.YtapelgeodldlcaaGreatDoor
open Go.RowKit
open Go.Sort Go.Shelf
abbrev PrB:Type:= {p:Pr // p.a.size≤maxLen∧p.b.size≤maxLen}
instance instInhPrB:Inhabited PrB:=⟨⟨⟨⟨#[]⟩,⟨#[]⟩⟩,Nat.zero_le _,Nat.zero_le _⟩⟩
def Zg7 (p:PrB):List Value:=ZnC p.1
def cfB (p q:PrB):Int:=Ze8 p.1 q.1
theorem ltB (p q:PrB):ltOf cfB p q=ltP p.1 q.1:=by
 unfold ltOf cfB
 by_cases h:ltP p.1 q.1=true
 · rw[decide_eq_true (cmpT_lt.2 h),h]
 · rw[decide_eq_false (fun h2=>h (cmpT_lt.1 h2))]
   simpa using h
theorem swoB:Go.Sort.SWO (ltOf cfB) where
 irrefl x:=by rw[ltB];exact Zh0 _
 trans x y z h1 h2:=by rw[ltB]at*;exact Q9 h1 h2
 ntrans x y z h1 h2:=by
  rw[ltB]at*
  cases h3:ltP x.1 z.1 with
  | false=>rfl
  | true=>
   cases h4:ltP y.1 x.1 with
   | true=>rw[Q9 h4 h3]at h2;cases h2
   | false=>rw[ZhZ h1 h4,h2]at h3;cases h3
theorem Zqn (blk off size:Nat) (w:World):CmpLays Tryz.prog 158 #[] Zg7 2 cfB blk off size w:=fun m os dk _ x y=>by
 have:=ZnI x.1 y.1 x.2 y.2 (sortWorldK Zg7 2 w blk off m dk os)
 rw[Array.append_empty]
 exact this
theorem ZjD {α:Type} [Inhabited α] {enc:α→List Value} {k:Nat} (hk:∀ x,(enc x).length=k) (h0:0<k):∀(l:List α) (t:Nat),t<l.length*k→(l.flatMap enc)[t]?=(enc (ge l (t/k)))[t%k]?
 | [],t,h=>by simp at h
 | x::l,t,h=>by
  rw[List.flatMap_cons]
  rcases Nat.lt_or_ge t k with h1 | h1
  · rw[List.getElem?_append_left (by rw[hk];exact h1),Nat.div_eq_of_lt h1,Nat.mod_eq_of_lt h1]
    rfl
  · have e:t=(t-k)+k:=by omega
    rw[List.getElem?_append_right (by rw[hk];exact h1),hk,ZjD hk h0 l (t-k) (by simp only[List.length_cons,Nat.succ_mul]at h;omega)]
    rw[show t/k=(t-k)/k+1 from by rw[Nat.div_eq_sub_div h0 h1],Nat.mod_eq_sub_mod h1]
    simp[ge]
theorem ZkY {α:Type} [Inhabited α] {enc:α→List Value} {k:Nat} (hk:∀ x,(enc x).length=k) (h0:0<k) (d:Array α):(flatK enc k d).toList=d.toList.flatMap enc:=by
 apply List.ext_getElem?
 intro t
 have hl:d.toList.length=d.size:=by simp
 rcases Nat.lt_or_ge t (d.size*k)with h | h
 · rw[ZjD hk h0 d.toList t (by rw[hl];exact h)]
   have h1:=get_flatK enc k d t h
   have hdk:t/k<d.size:=Nat.div_lt_of_lt_mul (by rw[Nat.mul_comm];exact h)
   have hm:t%k<k:=Nat.mod_lt _ h0
   have h2:(flatK enc k d).toList[t]?=some ((flatK enc k d)[t]!):=by
    rw[Array.getElem?_toList,Array.getElem?_eq_getElem (by simpa using h),getElem!_pos _ t (by simpa using h)]
   rw[h2,h1]
   have e1:ge d.toList (t/k)=d[t/k]!:=by
    rw[Xc (by rw[hl];exact hdk),getElem!_pos d (t/k) hdk];simp
   rw[e1,List.getElem?_eq_getElem (show t%k< (enc d[t/k]!).length by rw[hk];exact hm),getElem!_pos (enc d[t/k]!) (t%k) (by rw[hk];exact hm)]
 · rw[List.getElem?_eq_none (by simpa using h),List.getElem?_eq_none]
   rw[List.length_flatMap]
   simp only[hk,List.map_const',List.sum_replicate_nat]
   simpa using h
theorem ZoN (cur F:Array Value) (h:F.size≤cur.size):(putCells id 0 F cur).toList.take F.size=F.toList:=by
 apply List.ext_getElem?
 intro t
 rw[List.getElem?_take]
 split
 · rename_i h1
   have h2:t<cur.size:=by omega
   simp[putCells,h1,h2]
 · rename_i h1
   rw[List.getElem?_eq_none (by simpa using h1)]
theorem Zmp {S:Nat→Prop} {w:World}:∀ {ps:List Pr} {us:List Value},RdL S w (ps.map prC).flatten us→us=ps.flatMap ZnC∧∀ p∈ps,p.a.size≤maxLen∧p.b.size≤maxLen
 | [],us,h=>by
  have:=h.length
  simp at this
  exact⟨by simpa using this,by simp⟩
 | p::ps,us,h=>by
  match us,h with
  | u1::u2::us,⟨h1,h2,h3⟩=>
   obtain⟨e,hb⟩:=Zmp (ps:=ps) h3
   have ok1:p.a.size≤maxLen:=by cases h1 with | lit _ hv=>exact hv
   have ok2:p.b.size≤maxLen:=by cases h2 with | lit _ hv=>exact hv
   refine⟨by rw[h1.of_lit,h2.of_lit,e];rfl,fun q hq=>?_⟩
   rcases List.mem_cons.1 hq with rfl | hq
   · exact⟨ok1,ok2⟩
   · exact hb q hq
theorem pr_rd {S:Nat→Prop} {w:World}:∀ {ps:List Pr},(∀ p∈ps,p.a.size≤maxLen∧p.b.size≤maxLen)→RdL S w (ps.map prC).flatten (ps.flatMap ZnC)
 | [],_=>trivial
 | p::ps,h=>⟨.lit _ (h p (by simp)).1,.lit _ (h p (by simp)).2,pr_rd fun q hq=>h q (by simp[hq])⟩
theorem Zs0 {J:World→Prop} (hJ:Stab J) (v:Value) (ps:List Pr) (hn:ps.length≤140737488355328):FnM (ι:= {qs:List Pr // qs.Perm ps∧WkP qs}) Tryz.prog J 168 [] [.lit v,.fn 158 []] [OB.row v 115 2 (ps.map prC)] (fun _=>.tup []) (fun i=>[OB.row v 115 2 (i.1.map prC)]):=by
 intro S w0 R w vs hS hJ0 hH hk hx ha
 simp only[RelL]at ha
 obtain⟨u,_,rfl,h1,u2,_,rfl,h2,rfl⟩:=ha
 obtain rfl:=h1.lit
 obtain rfl:u2= .func (.func 158) #[] #[]:=by
  simp only[Rel,RelL]at h2
  obtain⟨_,rfl,rfl⟩:=h2
  rfl
 have hi:=hx.2.1 (OB.row u 115 2 (ps.map prC)) (by simp)
 obtain⟨us,⟨hul,hrow⟩,hrd,h3⟩:=hi
 rcases hrow with⟨rfl,hz⟩ | ⟨g,cap,cur,rfl,hb,hg,hnc,hcm,hcs,ht⟩
 · have hps:ps=[]:=by simpa using hz
   subst hps
   refine(AnyF.slices_SortFunc_none Tryz.sortP none 0 _ w).mono ?_
   rintro e w' ⟨rfl,rfl⟩
   exact⟨⟨[],.refl _,.nil⟩,_,rfl,by simp only[Rel,RelL];exact⟨[],rfl,rfl⟩,hk,hx⟩
 · obtain⟨hus,hok⟩:=Zmp hrd
   have hlen:(ps.map prC).length=ps.length:=List.length_map _
   rw[hlen]at hnc ht hul
   obtain⟨d,hd⟩:∃ d:Array PrB,d.toList.map (·.1)=ps:=⟨(ps.pmap (fun p h=>(⟨p,h⟩:PrB)) hok).toArray,by simp[List.map_pmap]⟩
   have hds:d.size=ps.length:=by rw[←hd];simp
   have hkB:∀ x:PrB,(Zg7 x).length=2:=fun _=>rfl
   have hfl:∀ e:Array PrB,(flatK Zg7 2 e).toList=(e.toList.map (·.1)).flatMap ZnC:=fun e=>by
    rw[ZkY hkB (by omega),List.flatMap_map]
    rfl
   have hgl:g<w.heap.size:=(Array.getElem?_eq_some_iff.1 hg).1
   have hfz:∀ j,w.frozen? ⟨g,j,none⟩=false:=fun j=>by simp[World.frozen?,hg]
   have hH:HoldsK Zg7 2 w g 0 d:=fun j hj=>by
    refine⟨?_,hfz _⟩
    have hj2:j<ps.length*2:=by rw[size_flatK,hds]at hj;exact hj
    have e1:cur.toList[j]?=some ((flatK Zg7 2 d)[j]!):=by
     have e2:(cur.toList.take (ps.length*2))[j]?=cur.toList[j]?:=by rw[List.getElem?_take,if_pos hj2]
     rw[←e2,ht,hus,←hd,←hfl d,Array.getElem?_toList,Array.getElem?_eq_getElem hj,getElem!_pos _ j hj]
    rw[Nat.zero_add]
    simp only[World.cell?,hg]
    simpa using e1
   have hcall:=AnyQ.slices_SortFunc Tryz.sortP 2 Tryz.isAgg115 Tryz.sizeOf115 Zg7 hkB (fun x v hv=>by simp[Zg7,ZnC]at hv;rcases hv with rfl | rfl<;>rfl) cfB swoB 158 #[] g 0 cap d w (enters_of Tryz.func158 (by kernel_rfl) rfl) (Zqn g 0 d.size w) hH hgl (by omega)
   rw[hds]at hcall
   rw[hlen]
   refine hcall.mono ?_
   rintro e w' ⟨rfl,d',n,os,hperm,hsrt,rfl⟩
   have hd's:d'.size=ps.length:=by rw[hperm.1,hds]
   have hpm:(d'.toList.map (·.1)).Perm ps:=by
    have h9:=hperm.2.2
    rw[show d'.extract 0 ps.length=d' by rw[←hd's];exact Array.extract_size,show d.extract 0 ps.length=d by rw[←hds];exact Array.extract_size]at h9
    rw[←hd]
    exact h9.map _
   have hwk:WkP (d'.toList.map (·.1)):=by
    unfold WkP
    rw[List.pairwise_map,List.pairwise_iff_getElem]
    intro i j hi hj hij
    have h9:=hsrt i j (Nat.zero_le _) hij (by rw[←hd's];simpa using hj)
    rw[ltB,getElem!_pos _ j (by simpa using hj),getElem!_pos _ i (by simpa using hi)]at h9
    simpa using h9
   have hheap:(sortWorldK Zg7 2 w g 0 n d' os).heap[g]?=some (.cells (putCells id 0 (flatK Zg7 2 d') cur) 115):=by
    show(grow (putRow id (Sort.ahead w n) g 0 (flatK Zg7 2 d')) os).heap[g]?=_
    rw[heap_grow_old _ _ (by simpa [Sort.ahead]using hgl)]
    show((Sort.ahead w n).heap.modify g _)[g]?=_
    rw[Array.getElem?_modify,if_pos rfl]
    show(w.heap[g]?).map _=_
    rw[hg]
    rfl
   have hkk:Keeps (fun k=>k≠g) w (sortWorldK Zg7 2 w g 0 n d' os):=by
    refine⟨?_,?_,?_,?_,?_⟩
    · simp[sortWorldK,putRowK,grow,putRow,mapBlock,Sort.ahead]
    · simp[sortWorldK,putRowK,grow,putRow,mapBlock,Sort.ahead]
    · simp[sortWorldK,putRowK,grow,putRow,mapBlock,Sort.ahead]
    · simp[sortWorldK,putRowK,grow,putRow,mapBlock,Sort.ahead]
    · intro k hk hne
      show(grow (putRow id (Sort.ahead w n) g 0 (flatK Zg7 2 d')) os).heap[k]?=_
      rw[heap_grow_old _ _ (by simpa [Sort.ahead]using hk)]
      show((Sort.ahead w n).heap.modify g _)[k]?=_
      rw[Array.getElem?_modify,if_neg (fun e=>hne e.symm)]
      rfl
   have hFs:(flatK Zg7 2 d').size=ps.length*2:=by rw[size_flatK,hd's]
   have hk0:Keeps All w0 (sortWorldK Zg7 2 w g 0 n d' os):=hk.upto' hkk fun k hk0 e=>by subst e;omega
   have hok':∀ p∈d'.toList.map (·.1),p.a.size≤maxLen∧p.b.size≤maxLen:=fun p hp=>hok p (hpm.mem_iff.1 hp)
   have hinv:(OB.row (.slice (some ⟨g,0,none⟩) ps.length cap) 115 2 ((d'.toList.map (·.1)).map prC)).inv w0.heap.size (SO S ([OB.row (.slice (some ⟨g,0,none⟩) ps.length cap) 115 2 ((d'.toList.map (·.1)).map prC)]++R)) (sortWorldK Zg7 2 w g 0 n d' os):=by
    have hl2:((d'.toList.map (·.1)).map prC).length=ps.length:=by simp[hd's]
    refine⟨(d'.toList.map (·.1)).flatMap ZnC,⟨?_,.inr ⟨g,cap,putCells id 0 (flatK Zg7 2 d') cur,by rw[hl2],hb,hheap,by rw[hl2];exact hnc,hcm,by simpa [putCells]using hcs,?_⟩⟩,pr_rd hok',fun r hr=>by obtain⟨p,_,rfl⟩:=List.mem_map.1 hr;rfl⟩
    · rw[hl2,←hfl d',Array.length_toList,hFs]
    · rw[hl2,←hfl d',←hFs]
      exact ZoN cur _ (by rw[hFs,hcs];exact Nat.mul_le_mul_right _ hnc)
   refine⟨⟨d'.toList.map (·.1),hpm,hwk⟩,_,rfl,by simp only[Rel,RelL];exact⟨[],rfl,rfl⟩,hk0,?_⟩
   have hx1:=hx
   rw[hlen]at hx1
   have:=Zix (o':=OB.row (.slice (some ⟨g,0,none⟩) ps.length cap) 115 2 ((d'.toList.map (·.1)).map prC)) hx1 (hJ _ _ hk0 hJ0) (hkk.sub fun k _ hk=>fun e=>hk (by show(OB.row (.slice (some ⟨g,0,none⟩) ps.length cap) 115 2 (ps.map prC)).blk k;rw[e];rfl)) (fun k hk=>.inl hk) hinv
   exact this.1
end Go.Proofs.YtapelgeodldlcaaGreatDoor
set_option maxHeartbeats 8000000
set_option maxRecDepth 100000
namespace Go.Proofs.YtapelgeodldlcaaGreatDoor
open Go.RowKit
theorem ZgK:ZuN Tryz.prog 30 115 2 32 (.agg #[.string ⟨#[]⟩,.string ⟨#[]⟩]):=makeN (by kernel_rfl) (by kernel_rfl)
theorem Zpw {J:World→Prop} (hJ:Stab J) (l:List Pr) (hwd:l.length*32≤140737488351232):FnM (ι:= {qs:List Pr // ZuO l qs}) Tryz.prog J 155 [] [.rd (Xm l)] [] (fun i'=>.rd (Xm (i'.1))) (fun _=>[]):=by
 refine ZX (N:=26) Tryz.func155 rfl rfl (lb rfl) fun S w0 R hS hJ0 hH=>?_
 refine Z6 (B:=St All (SO S (R)) w0 26 [(0,.rd (Xm l))] (XO J S w0.heap.size (R))) ?_ fun a w h=>h
 refine ln 0 fun hl1=>?_
 refine qso tb hJ [0] [_] [_] ?_
 refine tsq ?_
 refine snK 1 tb rfl ?_
 refine sq (.int (l.length:Nat)) rfl rfl (lb rfl) (fun _ _ h=>ZaD Ya rfl (h.get 0 rfl) h.x) ?_
 refine ZhC (f:=prC) (k:=l.length) (⟨⟨#[]⟩,⟨#[]⟩⟩:Pr) ZgK (fun _ _=>⟨.lit _ (Nat.zero_le _),.lit _ (Nat.zero_le _),trivial⟩) rfl (by decide) hJ rfl rfl rfl (lb rfl) (fun a w h=>⟨(h.get 0 rfl),(h.get 0 rfl)⟩) sfz sfz fun v1=>?_
 refine snK 1 tb rfl ?_
 refine seK [0,4] [_,_] rfl ?_
 refine nx (Zj (ZI tb hJ [0,1000,1001,1002] [_,.int (l.length:Nat),_] [1] [_,_,_,_] rfl ⟨YG Ya,trivial⟩ ?_))
 refine Zf (lpo (ι:=Nat×(List Pr)) (fun(k,rs)=>(k≤l.length)∧(rs.length=l.length)∧(∀ i,i<k→ge rs i=ZbK (ge l i))) (fun(_,rs)=>(OB.row v1 115 2 (rs.map prC)::R)) (fun(k,_)=>[(11,.int (k:Nat))]) (fun(k,_)=>l.length-k) [0,1,2,3] [_,_,_] (0,List.replicate l.length (⟨⟨#[]⟩,⟨#[]⟩⟩:Pr)) ⟨Nat.zero_le _,List.length_replicate,fun i hi=>by omega⟩ ?_)
 rintro⟨k,rs⟩ ⟨f1_1,f1_2,f1_3⟩
 refine qso tb hJ [0,1,2,3,1000] [_] [_,_,_,_,_] ?_
 refine cjS 4 (fun hb1=>?_) fun hb1=>?_
 try simp at hb1
 refine Zc (nx (Zj (Zf (tsq ?_))))
 refine snK 1 tb rfl ?_
 refine sq (.ptr (prC (ge l k))) rfl rfl (lb rfl) (fun _ _ h=>Yg (i:=(k:Int)) ZD rfl (h.get 2 rfl) (h.get 4 rfl) (Int.natCast_nonneg _) (Yy (xs:=l) (k:=k) sfz) rfl h.x) ?_
 refine snK 1 tb rfl ?_
 refine ZP QB hJ rfl rfl rfl (lb rfl) fun b2=>?_
 refine snK 1 tb rfl ?_
 refine ZE (b:=b2) (off:=0) (cs:=[.lit (.string (⟨#[]⟩:ByteArray)),.lit (.string (⟨#[]⟩:ByteArray))]) (es:=[.lit (.string ((ge l k).a)),.lit (.string ((ge l k).b))]) (news:=[.lit (.string ((ge l k).a)),.lit (.string ((ge l k).b))]) hJ hJ0 Xf rfl rfl rfl (lb rfl) rfl (fun a w h=>⟨(h.get 1 rfl),(h.get 2 rfl)⟩) ?_
 refine kw (fun h=>Ym hS h (m:=1) (s:=5) rfl) ?_
 refine seK [0,1,5,6,7,8] [_,_,_,_,_,_] rfl ?_
 refine nx (Zw (snK 3 tb rfl ?_))
 refine sq (.agg (prC (ZbK (ge l k)))) rfl rfl (lb rfl) (fun _ _ h=>ZeS (Zgp hJ (x:=(ge l k)) ) ZjQ rfl (Zr hS _ h.keep h.x) (h.x.1) (Za (h.get 0 rfl) Ze) (jo hJ h.x)) ?_
 refine sq (.lit (X5 v1 (k*2))) rfl rfl (lb rfl) (fun _ _ h=>Y8 (i:=(k:Int)) ZD rfl (Zd h.x (mo 0 rfl)) (h.get 3 rfl) (h.get 2 rfl) (Int.natCast_nonneg _) (by rw[List.length_map];exact Int.ofNat_lt.2 sfz) h.x) ?_
 refine QN (i:=k) hJ hJ0 Xf rfl rfl rfl (by rw[List.length_map];exact sfz) rfl (fun a w h=>⟨(h.get 0 rfl),(h.get 1 rfl)⟩) ?_
 rw[show(rs.map prC).set k (prC (ZbK (ge l k)))=(rs.set k (ZbK (ge l k))).map prC from List.map_set.symm]
 refine seK [7,8,9,10] [_,_,_,_] rfl ?_
 refine nx (YQ tb hJ [0,1,2,1001] [.int (k+1:Nat),_] [0] [_,_,_,_] rfl ⟨Yv,trivial⟩ ?_)
 exact Xi (k+1,rs.set k (ZbK (ge l k))) [0,1,2,3] ⟨by omega,by rw[List.length_set];exact f1_2,fun i hi=>by rw[Zjy (by omega)];by_cases h9:i=k;(· simp[h9]);rw[if_neg h9];exact f1_3 i (by omega)⟩
 try simp at hb1
 have e9:rs=l.map ZbK:=map_of f1_2 fun i hi=>f1_3 i (by omega)
 refine Zx (nx (tsq ?_))
 refine snK 1 tb rfl ?_
 refine Y7 (O:=[OB.row v1 115 2 (rs.map prC)]) (R:=(R)) (Zs0 hJ (v:=v1) (ps:=rs) sfz) Zqr rfl rfl rfl (lb rfl) hS hJ0 Zq (fun a w h=>(Za (h.get 0 rfl) (Za (QQ 158) Ze))) fun z3=>?_
 refine seK [2] [_] rfl ?_
 refine nx (tsq ?_)
 refine snK 1 tb rfl ?_
 refine Y7 (O:=[OB.row v1 115 2 (z3.1.map prC)]) (R:=(R)) (ZkF hJ (v:=v1) (ps:=z3.1) (by have h9:=z3.2.1.length_eq;omega)) Zqq rfl rfl rfl (lb rfl) hS hJ0 Zq (fun a w h=>(Za (h.get 0 rfl) Ze)) fun z4=>?_
 refine snK 1 tb rfl ?_
 refine seK [0] [_] rfl ?_
 refine nx (tw (fun h=>Yq hS h (m:=0) (s:=2) rfl) ?_)
 exact Zg (fun a w h=>ZQ  (m:=0) ⟨(Zcr z3.1 z3.1.length),srt_of (e9▸z3.2.1) z3.2.2⟩ rfl h rfl rfl)
theorem Zk8:Zem Tryz.prog 115 [.string ⟨#[]⟩,.string ⟨#[]⟩]:=⟨fun i=>(#[(0,1),(1,1)]:Array (Nat×Nat))[i]?,fun j hj=>by rcases j with _ | _ | j<;>first | rfl | (simp at hj;omega),fun parts=>by kernel_rfl⟩
theorem ZfO {l:List Bd} {ap:List Pr} {us:List ByteArray} {wd:List Pr} {q:Pr} (h:Zod l ap us wd=some q):Zfb l ap us wd=q:=by unfold Zfb;rw[h];rfl
theorem ZfQ {l:List Bd} {ap:List Pr} {us:List ByteArray} {wd:List Pr} {q:Pr} (h:Zod l ap us wd=some q):Zip l ap us wd=true:=by unfold Zip;rw[h];rfl
theorem ZfP {l:List Bd} {ap:List Pr} {us:List ByteArray} {wd:List Pr} (h:Zod l ap us wd=none):Zfb l ap us wd=⟨⟨#[]⟩,⟨#[]⟩⟩:=by unfold Zfb;rw[h];rfl
theorem ZfR {l:List Bd} {ap:List Pr} {us:List ByteArray} {wd:List Pr} (h:Zod l ap us wd=none):Zip l ap us wd=false:=by unfold Zip;rw[h];rfl
theorem ZkA {J:World→Prop} (hJ:Stab J) (bl:List Bd) (us:List ByteArray) (ap:List Pr)  :Fn Tryz.prog J 156 [.rd (Ziq bl),.rd (Xm ap),.rd (Zb us)] (.fn 170 [.ptr [Ziq bl],.ptr [Zb us],.ptr [Xm ap]]):=by
 refine Zu (N:=8) Tryz.func156 rfl rfl (lb rfl) fun S w0 hS hJ0=>?_
 clear hJ0
 refine ln 0 fun hl1=>?_
 refine ln 1 fun hl2=>?_
 refine ln 2 fun hl3=>?_
 refine hqs tb hJ [1000,1001,1002] [.ptr [Ziq bl],.ptr [Xm ap],.ptr [Zb us],_] [0,1,2] [_,_,_] rfl ⟨fun _ _ hk hx hl _=>ZbA rfl (hl.env 0 0 _ rfl rfl) (hS _ hk.size) (js hJ hx),fun _ _ hk hx hl _=>ZbA rfl (hl.env 1 1 _ rfl rfl) (hS _ hk.size) (js hJ hx),fun _ _ hk hx hl _=>ZbA rfl (hl.env 2 2 _ rfl rfl) (hS _ hk.size) (js hJ hx),trivial⟩ ?_
 refine hqs tb hJ [1001] [.fn 170 [.ptr [Ziq bl],.ptr [Zb us],.ptr [Xm ap]],_] [0] [_] rfl ⟨fun _ _ _ hx hl _=>Xy (caps:=[(Go.Operand.tmp 3),(Go.Operand.tmp 5),(Go.Operand.tmp 4)]) rfl (Za (hl.env 0 3 _ rfl rfl) (Za (hl.env 2 5 _ rfl rfl) (Za (hl.env 1 4 _ rfl rfl) Ze))) hx,trivial⟩ ?_
 exact Zg (rtn (m:=0) rfl rfl rfl)
theorem ZpG {J:World→Prop} (hJ:Stab J) (bl:List Bd) (ap:List Pr) (us:List ByteArray) (wd:List Pr) (hbl:∀ b∈bl,b.text.length≤2000) (hwd:wd.length*32≤140737488351232):Fn Tryz.prog J 139 [.rd (Ziq bl),.rd (Xm ap),.rd (Zb us),.rd (Xm wd)] (.tup [.agg (prC (Zfb bl ap us wd)),.bool (Zip bl ap us wd)]):=by
 refine Znx (N:=38) Tryz.func139 rfl rfl (lb rfl) fun S w0 hS hJ0=>?_
 refine atw Yj ?_
 refine lnA 0 fun hl1=>?_
 refine lnA 1 fun hl2=>?_
 refine lnA 2 fun hl3=>?_
 refine lnA 3 fun hl4=>?_
 refine lnStrA 2 fun hus=>?_
 refine ZbD (m:=5) ?_
 refine Zw (ZP QB hJ rfl rfl rfl (lb rfl) fun b1=>?_)
 refine ZP ZoC hJ rfl rfl rfl (lb rfl) fun b2=>?_
 refine seK [0,1,2,3,4,5] [_,_,_,_,_,_] rfl ?_
 refine nxA ?_
 refine ZbD (m:=5) ?_
 refine Zw (snK 1 tb rfl ?_)
 refine Y7 (O:=[]) (R:=[OB.var b2 [.lit (.bool false)],OB.var b1 [.lit (.string (⟨#[]⟩:ByteArray)),.lit (.string (⟨#[]⟩:ByteArray))]]) (Zpw hJ (l:=wd) sfz) Zqv rfl rfl rfl (lb rfl) hS hJ0 Zq (fun a w h=>(Za (h.get 0 rfl) Ze)) fun z3=>?_
 refine ZP Zlv hJ rfl rfl rfl (lb rfl) fun b4=>?_
 refine ZJ (b:=b4) (off:=0) (cs:=[Xm ([]:List Pr)]) (es:=[Xm z3.1]) hJ hJ0 ZlV rfl rfl rfl (lb rfl) rfl (fun a w h=>⟨(h.get 0 rfl),(h.get 1 rfl)⟩) ?_
 refine kw (fun h=>Ym hS h (m:=0) (s:=10) rfl) ?_
 refine seK [0,1,3,4,5,6,7] [_,_,_,_,_,_,_] rfl ?_
 refine nxA ?_
 refine lnA 1 fun hl5=>?_
 refine a_seq ?_
 refine ZbD (m:=5) ?_
 refine YQ tb hJ [0,2,3,1003] [_,_,_,.fn 170 [.ptr [Ziq bl],.ptr [Zb us],.ptr [Xm ap]]] [3] [_,_,_,_] rfl ⟨iFo hS hJ (ZkA hJ (bl:=bl) (us:=us) (ap:=ap) ) Zqu,trivial⟩ ?_
 refine nxA ?_
 refine Zoi ?_
 refine atw (fun h=>Xo (p:=(∀ x∈([]:List Pr),Zhs wd x=false)) (fun x hx=>by cases hx) h) ?_
 refine Zl9 (m:=5) (κ:=Unit) (μ:=Empty) (σ:= {q:Pr // Zod bl ap us wd=some q}) (ZhQ hJ bl us ap hbl) Zqp hJ hS hJ0 Zq (fun pre _=>[OB.fct (∀ x∈pre,Zhs wd x=false),OB.var b2 [.lit (.bool false)],OB.var b1 [.lit (.string (⟨#[]⟩:ByteArray)),.lit (.string (⟨#[]⟩:ByteArray))]]) (fun q':Empty=>undef) (fun q'=>[]) (fun s'=>[OB.var b1 [.lit (.string (s'.1.a)),.lit (.string (s'.1.b))],OB.var b2 [.lit (.bool true)]]) () (fun x9=>.agg (prC x9)) (fun x9=>[(11,.ptr (prC x9)),(10,.ptr [Xm z3.1]),(9,.at b2 0),(8,.at b1 0)]) (lb rfl) Tryz.func139 (fun _ _ x hx=>Zfk (Zri hus hx).1 (Zri hus hx).2) ?_ ?_ ?_ ?_ ?_ ?_ ?_
 · exact fun a w h=>Zl3 (h.get 3 rfl)
 rintro m9 l9 R' pre x9 _ K9 hK9
 refine Zw (Qi (cs:=prC x9) Zds rfl rfl rfl (lb rfl) rfl rfl rfl (by decide) (m:=0) rfl rfl (fun a w h=>Zr hS _ h.keep h.x _ (Nat.le_refl _)) (fun a w h w' hk'=>Yw hJ _ _ hk' h.x) ?_)
 refine seK [0,2,3,4] [_,_,_,_] rfl ?_
 exact hK9
 rintro m9 l9 R' pre x9 _ hpre
 refine Zq7 fun hF=>?_
 have r1_:∀ x∈pre,Zhs wd x=false:=hF
 refine Zf (ZI tb hJ [0,1,2,3,1007] [_,_,.tup [.int (bsN z3.1 x9:Nat),.bool (decide (x9∈z3.1))],_,_,_,_,_] [2] [_,_,_,_,_] rfl ⟨iFo hS hJ (p_bsP hJ (xs:=z3.1) (p:=x9) (f:=158) (caps:=[]) (fun x' y'=>(ZmG hJ x' y').r) (Zqs) (z3.2.1) (by have:=z3.2.2.2;omega)) Zqt,trivial⟩ ?_)
 refine qso tb hJ [0,1,2,3,1008] [_,_,_,_,_,_,_,_,_] [_,_,_,_,_] ?_
 refine cj 4 (fun hb1=>?_) fun hb1=>?_
 have e8:Zhs wd x9=true:=(ZrW z3.2).symm.trans hb1
 refine tsq ?_
 refine snK 1 tb rfl ?_
 refine kw pm1 ?_
 refine ZE (b:=b1) (off:=0) (cs:=[.lit (.string (⟨#[]⟩:ByteArray)),.lit (.string (⟨#[]⟩:ByteArray))]) (es:=[.lit (.string x9.a),.lit (.string x9.b)]) (news:=[.lit (.string x9.a),.lit (.string x9.b)]) hJ hJ0 Xf rfl rfl rfl (lb rfl) rfl (fun a w h=>⟨(h.get 4 rfl),(h.get 0 rfl)⟩) ?_
 refine kw pm1 ?_
 refine ZJ (b:=b2) (off:=0) (cs:=[.lit (.bool false)]) (es:=[.lit (.bool true)]) hJ hJ0 QO rfl rfl rfl (lb rfl) rfl (fun a w h=>⟨(h.get 3 rfl),(Rel.of_lit (Go.Value.bool true))⟩) ?_
 refine seK [3,4] [_,_] rfl ?_
 refine nx (Zg (kw pm1 ?_))
 exact fun a w h=>⟨⟨x9,ZuI hpre r1_ e8⟩,h.keep,h.x⟩
 have e8:Zhs wd x9=false:=(ZrW z3.2).symm.trans hb1
 refine Zc (kw (fun h=>Xo (p:=(∀ x∈(pre++[x9]),Zhs wd x=false)) (Zpg r1_ e8) h) ?_)
 exact fun a w h=>⟨(),h.keep,h.x⟩
 rintro hfl _ D
 refine kw pm1 ?_
 refine ZlM fun hF=>?_
 have r1_:∀ x∈(ZoX bl ap us),Zhs wd x=false:=hF
 have e9:Zod bl ap us wd=none:=ZqN r1_
 refine nxAD (m:=5) ?_
 refine ZrM ?_
 refine ZnE ?_
 refine sq (.agg (prC (⟨⟨#[]⟩,⟨#[]⟩⟩:Pr))) rfl rfl (lb rfl) (fun _ _ h=>Xk (ps:=[]) (us:=[.string ⟨#[]⟩,.string ⟨#[]⟩]) Zk8 rfl (by simp) ZjZ rfl (XU (.lit _ (Nat.zero_le _)) (XU (.lit _ (Nat.zero_le _)) Yb)) h.x) ?_
 refine kw pm2 ?_
 refine ZE (b:=b1) (off:=0) (cs:=[.lit (.string (⟨#[]⟩:ByteArray)),.lit (.string (⟨#[]⟩:ByteArray))]) (es:=[.lit (.string ((⟨⟨#[]⟩,⟨#[]⟩⟩:Pr).a)),.lit (.string ((⟨⟨#[]⟩,⟨#[]⟩⟩:Pr).b))]) (news:=[.lit (.string ((⟨⟨#[]⟩,⟨#[]⟩⟩:Pr).a)),.lit (.string ((⟨⟨#[]⟩,⟨#[]⟩⟩:Pr).b))]) hJ hJ0 Xf rfl rfl rfl (lb rfl) rfl (fun a w h=>⟨(h.get 3 rfl),(h.get 0 rfl)⟩) ?_
 refine kw pm2 ?_
 refine ZJ (b:=b2) (off:=0) (cs:=[.lit (.bool false)]) (es:=[.lit (.bool false)]) hJ hJ0 QO rfl rfl rfl (lb rfl) rfl (fun a w h=>⟨(h.get 2 rfl),(Rel.of_lit (Go.Value.bool false))⟩) ?_
 refine seK [2,3] [_,_] rfl ?_
 refine nxD ?_
 refine dtw pm2 ?_
 refine d_ret ?_
 refine outD hJ hJ0 ?_
 refine kw pm1 ?_
 exact fun a w h=>Zna (cs:=[.lit (.string ((⟨⟨#[]⟩,⟨#[]⟩⟩:Pr).a)),.lit (.string ((⟨⟨#[]⟩,⟨#[]⟩⟩:Pr).b))]) (m:=1) (q:=0) rfl Xd ZgC h rfl rfl rfl (show([.lit (.string ((⟨⟨#[]⟩,⟨#[]⟩⟩:Pr).a)),.lit (.string ((⟨⟨#[]⟩,⟨#[]⟩⟩:Pr).b))]:List CD)=[.lit (.string ((Zfb bl ap us wd).a)),.lit (.string ((Zfb bl ap us wd).b))]from by first | rw[ZfP e9] | rw[ZfR e9] | rw[ZfO s'.2] | rw[ZfQ s'.2]) (eB (by first | rw[ZfP e9] | rw[ZfR e9] | rw[ZfO s'.2] | rw[ZfQ s'.2]))
 rintro s' D
 refine outD hJ hJ0 ?_
 exact fun a w h=>Zna (cs:=[.lit (.string (s'.1.a)),.lit (.string (s'.1.b))]) (m:=2) (q:=1) rfl Xd ZgC h rfl rfl rfl (show([.lit (.string (s'.1.a)),.lit (.string (s'.1.b))]:List CD)=[.lit (.string ((Zfb bl ap us wd).a)),.lit (.string ((Zfb bl ap us wd).b))]from by first | rw[ZfP e9] | rw[ZfR e9] | rw[ZfO s'.2] | rw[ZfQ s'.2]) (eB (by first | rw[ZfP e9] | rw[ZfR e9] | rw[ZfO s'.2] | rw[ZfQ s'.2]))
 · exact fun v h=>by cases h
 · exact fun q=>q.elim
theorem Zs5 {J:World→Prop} (hJ:Stab J) (v:Value) (sk:List (List ByteArray)):FnM (ι:=Unit) Tryz.prog J 140 [] [.lit v] [OB.row v 22 1 (sk.map Zh)] (fun _=>.lit (Zed v)) (fun _=>[OB.clp (Zed v) (sk.map Zh)]):=p_Clip hJ v _ _
theorem ZsO {J:World→Prop} (hJ:Stab J) (b:Nat) (d:Db) (f:Fr) (nm:Value) (xs:List Itm) (vs:Value) (vt:Value) (n:Nat) (kn:Bool) (y1:Int) (y2:Int) (sk:List (List ByteArray)) (t:List ByteArray) (hb:sk.length≤4000):FnM (ι:=Value) Tryz.prog J 114 [] [.at b 0,.rd (Zb t)] [OB.var b (mkM d f nm xs vs vt n kn y1 y2),OB.clp vs (sk.map Zh)] (fun _=>.tup []) (fun i'=>[OB.var b (mkC d f [.lit nm,XL xs,.lit (i'),.lit vt,.lit (.int .i64 (n:Int)),.lit (.bool kn),.lit (.int .i64 y1),.lit (.int .i64 y2)]),OB.row i' 22 1 ((sk++[t]).map Zh)]):=by
 refine ZX (N:=14) Tryz.func114 rfl rfl (lb rfl) fun S w0 R hS hJ0 hH=>?_
 refine Z6 (B:=St All (SO S (OB.var b (mkM d f nm xs vs vt n kn y1 y2)::OB.clp vs (sk.map Zh)::R)) w0 14 [(0,.at b 0),(1,.rd (Zb t))] (XO J S w0.heap.size (OB.var b (mkM d f nm xs vs vt n kn y1 y2)::OB.clp vs (sk.map Zh)::R))) ?_ fun a w h=>h
 refine ln 1 fun hl1=>?_
 refine Zw (snK 2 tb rfl ?_)
 refine sq (.at b 0) rfl rfl (lb rfl) (fun _ _ h=>Zk rfl (h.get 0 rfl) h.x) ?_
 refine sq (.at b 13) rfl rfl (lb rfl) (fun _ _ h=>Zm Yn rfl (h.get 0 rfl) h.x) ?_
 refine sq (.lit vs) rfl rfl (lb rfl) (fun _ _ h=>Zo (cs:=(mkM d f nm xs vs vt n kn y1 y2)) QE rfl (Zd h.x (mo 0 rfl)) (h.get 0 rfl) rfl h.x) ?_
 refine snK 1 tb rfl ?_
 refine sq (.rd (ZbW ([t]))) rfl rfl (lb rfl) (fun _ _ h=>Yx Z0 Zdl rfl (h.get 0 rfl) (Zr hS _ h.keep h.x _ (Nat.le_refl _)) (jo hJ h.x)) ?_
 refine kw pm1 ?_
 refine Zkj (f:=Zh) (m:=2) (s:=8) sk ([t]) (fun _=>rfl) Zbp hJ rfl rfl rfl (lb rfl) rfl rfl (fun a w h=>(h.get 0 rfl)) (by simp) sfz sfz fun v1=>?_
 refine sq (.at b 0) rfl rfl (lb rfl) (fun _ _ h=>Zk rfl (h.get 7 rfl) h.x) ?_
 refine sq (.at b 13) rfl rfl (lb rfl) (fun _ _ h=>Zm Yn rfl (h.get 0 rfl) h.x) ?_
 refine kw pm1 ?_
 refine ZJ (b:=b) (off:=13) (cs:=(mkM d f nm xs vs vt n kn y1 y2)) (es:=(mkM d f nm xs v1 vt n kn y1 y2)) hJ hJ0 Zbb rfl rfl rfl (lb rfl) rfl (fun a w h=>⟨(h.get 0 rfl),(h.get 2 rfl)⟩) ?_
 refine seK [3] [_] rfl ?_
 refine kw (ob1 (congrArg (fun z'=>OB.row v1 22 1 ((z').map Zh)) (show(sk++([t]))=(sk++[t])from by first | rfl | grind))) ?_
 exact fun a w h=>Xt  v1 rfl h rfl
theorem p_use {J:World→Prop} (hJ:Stab J) (b:Nat) (d:Db) (f:Fr) (nm:Value) (xs:List Itm) (vs:Value) (vt:Value) (n:Nat) (kn:Bool) (y1:Int) (y2:Int) (sk:List (List ByteArray)) (x:Itm) (gf:Fr) (hg:ge d.frames x.number.toNat=gf) (hn:0≤x.number) (hn2:x.number<d.frames.length) (hsk:∀ t∈sk,1≤t.length∧t.length≤2000) (hskl:sk.length≤2000) (hh:gf.hyps.length≤2000) (hf:∀ h∈gf.hyps,h.floating=true→h.text.length=2) (hwd:f.wide.length*32≤140737488351232):FnP (ι:= {q':Value×List (List ByteArray) // ZcY d.vars f.wide gf sk= .ok q'.2}) (κ:= {c:Int // ZcY d.vars f.wide gf sk= .error c}) Tryz.prog J 115 [] [.at b 0,.agg (itC x)] [OB.var b (mkM d f nm xs vs vt n kn y1 y2),OB.row vs 22 1 (sk.map Zh)] (fun _=>.tup []) (fun i'=>[OB.var b (mkC d f [.lit nm,XL xs,.lit (i'.1.1),.lit vt,.lit (.int .i64 (n:Int)),.lit (.bool kn),.lit (.int .i64 y1),.lit (.int .i64 y2)]),OB.row i'.1.1 22 1 ((i'.1.2).map Zh)]) (fun k'=>flV k'.1) (fun _=>[OB.var b (mkM d f nm xs vs vt n kn y1 y2),OB.row vs 22 1 (sk.map Zh)]):=by
 refine Qn (N:=155) Tryz.func115 rfl rfl (lb rfl) fun S w0 R hS hJ0 hH=>?_
 refine Z6 (B:=St All (SO S (OB.var b (mkM d f nm xs vs vt n kn y1 y2)::OB.row vs 22 1 (sk.map Zh)::R)) w0 155 [(0,.at b 0),(1,.agg (itC x))] (XO J S w0.heap.size (OB.var b (mkM d f nm xs vs vt n kn y1 y2)::OB.row vs 22 1 (sk.map Zh)::R))) ?_ fun a w h=>h
 refine ZI tb hJ [0,1000] [.ptr (itC x)] [0] [_,_] rfl ⟨fun _ _ hk hx hl _=>YP rfl (hl.env 1 1 _ rfl rfl) (Zr hS _ hk hx _ (Nat.le_refl _)) (jo hJ hx),trivial⟩ ?_
 refine Zj (YQ tb hJ [0,1004,1008] [_,.at b 0,.at b 0,.at b 2,.rd (YD d.frames),_,_,.ptr (frC (ge d.frames x.number.toNat)),_] [1,2,3,4,7] [_,_,_] rfl ⟨fun _ _ _ hx hl _=>Zk rfl (hl.D 0 16 rfl rfl) hx,fun _ _ _ hx hl _=>Zm Zd2 rfl (hl.D 1 17 rfl rfl) hx,fun _ _ _ hx hl _=>Zm XS rfl (hl.D 2 18 rfl rfl) hx,fun _ _ _ hx hl _=>Zo (cs:=(mkM d f nm xs vs vt n kn y1 y2)) ZdO rfl (Zd hx (mo 0 rfl)) (hl.D 3 19 rfl rfl) rfl hx,iIz Ye,trivial⟩ ?_)
 refine kw (sa 2 rfl (show(.ptr (frC (ge d.frames x.number.toNat)):AV)= .ptr (frC gf)from by rw[hg])) ?_
 refine nx (ln 1 fun hl1=>?_)
 refine ZrI tb hJ [0,2,1011] [_,.at b 0,.at b 13,.lit vs,.int (sk.length:Nat),_,_,_,_,.int (gf.hyps.length:Nat),.int ((sk.length:Int)-(gf.hyps.length:Int)),_] [1,2,3,4,9,10] [_,_,_] rfl ⟨fun _ _ _ hx hl _=>Zk rfl (hl.D 0 24 rfl rfl) hx,fun _ _ _ hx hl _=>Zm Yn rfl (hl.D 1 25 rfl rfl) hx,fun _ _ _ hx hl _=>Zo (cs:=(mkM d f nm xs vs vt n kn y1 y2)) QE rfl (Zdf hx (mo 0 rfl)) (hl.D 2 26 rfl rfl) rfl hx,fun _ _ _ hx hl _=>ZaD Zam rfl (QR hS hx (mo 1 rfl) (hl.D 3 27 rfl rfl)) hx,YG ZN,iSub,trivial⟩ ?_
 refine Zj (qso tb hJ [0,1,2,1001] [_,_] [_,_,_,_] ?_)
 refine cj 3 (fun hb1=>?_) fun hb1=>?_
 ·
  try simp at hb1
  refine Zw (XX (O:=[]) (R:=(OB.var b (mkM d f nm xs vs vt n kn y1 y2)::OB.row vs 22 1 (sk.map Zh)::R)) (Qj hJ (c:=(23:Int)) ) YT rfl rfl rfl (lb rfl) hS hJ0 Zq (fun a w h=>(Za (Rel.of_lit (Go.Value.int Go.IntKind.i64 23)) Ze)) (fun _=>?_) (fun i=>i.elim))
  exact fun a w h=>pnP (⟨23,Zse (by omega)⟩: {c:Int // ZcY d.vars f.wide gf sk= .error c}) rfl a w h
 ·
  try simp at hb1
  refine tw (sa 2 rfl (show(.int ((sk.length:Int)-(gf.hyps.length:Int)):AV)= .int ((sk.length-gf.hyps.length):Nat)from congrArg AV.int (by omega))) ?_
  refine Zc (nx (ZI tb hJ [0,1,2,1006] [_,.at b 0,.at b 13,.lit vs,_,.lit (ZeF vs (sk.length-gf.hyps.length) 1),_] [1,2,3,5] [_,_,_,_] rfl ⟨fun _ _ _ hx hl _=>Zk rfl (hl.D 0 38 rfl rfl) hx,fun _ _ _ hx hl _=>Zm Yn rfl (hl.D 1 39 rfl rfl) hx,fun _ _ _ hx hl _=>Zo (cs:=(mkM d f nm xs vs vt n kn y1 y2)) QE rfl (Zd hx (mo 0 rfl)) (hl.D 2 40 rfl rfl) rfl hx,fun _ _ _ hx hl _=>Zgk (lo:=(sk.length-gf.hyps.length)) Z0 rfl (Zd hx (mo 1 rfl)) (hl.D 3 41 rfl rfl) (hl.D 4 42 rfl rfl) (by rw[List.length_map];exact sfz) hx,trivial⟩ ?_))
  refine qso tb hJ [0,1,2,3,1000] [_] [_,_,_,_,_] ?_
  refine Zj (ZI tb hJ [0,1,2,3,4,1003,1004,1005] [_,_,_,_,.int (gf.hyps.length:Nat),_] [4] [_,_,_,_,_,_,_,_] rfl ⟨YG ZN,trivial⟩ ?_)
  refine ln 5 fun hl2=>?_
  refine Zf (tw (Z7 197 2 hJ) ?_)
  refine lpo (ι:=Nat×Value×(List Bd)) (fun(k,_,bs)=>(k≤gf.hyps.length)∧(bs=XM gf.hyps sk (sk.length-gf.hyps.length) k)∧(∀ j,j<k→Zot gf.hyps sk (sk.length-gf.hyps.length) j=true)) (fun(_,wv,bs)=>(OB.row wv 197 2 (bs.map bdC)::OB.var b (mkM d f nm xs vs vt n kn y1 y2)::OB.row vs 22 1 (sk.map Zh)::R)) (fun(k,wv,_)=>[(49,.int (k:Nat)),(7,.lit wv)]) (fun(k,_,_)=>gf.hyps.length-k) [0,1,2,3,5,6,7,4] [_,_,_,_,_,_] (0,(.slice none 0 0),([]:List Bd)) ⟨Nat.zero_le _,rfl,fun j hj=>by omega⟩ ?_
  rintro⟨k,wv,bs⟩ ⟨f1_1,f1_2,f1_3⟩
  refine qso tb hJ [0,1,2,3,4,5,6,7,1000] [_] [_,_,_,_,_,_,_,_,_] ?_
  refine cjS 8 (fun hb2=>?_) fun hb2=>?_
  ·
   try simp at hb2
   refine Zc (nx (Zj (Zf (tsq ?_))))
   refine snK 1 tb rfl ?_
   refine sq (.ptr (hyC (ge gf.hyps k))) rfl rfl (lb rfl) (fun _ _ h=>Yg (i:=(k:Int)) ZR rfl (h.get 5 rfl) (h.get 7 rfl) (Int.natCast_nonneg _) (Yy (xs:=gf.hyps) (k:=k) sfz) rfl h.x) ?_
   refine snK 1 tb rfl ?_
   refine ZP Y2 hJ rfl rfl rfl (lb rfl) fun b3=>?_
   refine snK 1 tb rfl ?_
   refine ZE (b:=b3) (off:=0) (cs:=[.lit (.string (⟨#[]⟩:ByteArray)),.lit (.bool false),Zb ([]:List ByteArray)]) (es:=[.lit (.string ((ge gf.hyps k).label)),.lit (.bool ((ge gf.hyps k).floating)),Zb ((ge gf.hyps k).text)]) (news:=[.lit (.string ((ge gf.hyps k).label)),.lit (.bool ((ge gf.hyps k).floating)),Zb ((ge gf.hyps k).text)]) hJ hJ0 Xp rfl rfl rfl (lb rfl) rfl (fun a w h=>⟨(h.get 1 rfl),(h.get 2 rfl)⟩) ?_
   refine kw (fun h=>Ym hS h (m:=1) (s:=9) rfl) ?_
   refine seK [0,1,5,6,7,8,9,10,11,12] [_,_,_,_,_,_,_,_,_,_] rfl ?_
   refine nx (Zj (qso tb hJ [0,1,2,3,4,5,6,7,8,9,1002] [_,_,_] [_,_,_,_,_,_,_,_,_,_,_] ?_))
   refine cj 10 (fun hb3=>?_) fun hb3=>?_
   ·
    try simp at hb3
    refine Zx (nx (YQ tb hJ [2,3,4,5,6,7,9,1001] [.int (k+1:Nat),_] [0] [_,_,_,_,_,_,_,_] rfl ⟨Yv,trivial⟩ ?_))
    exact Xi (k+1,wv,bs) [0,1,2,3,4,5,7,6] ⟨by omega,by rw[Zhh,←f1_2];simp[ZrV,hb3],ZZ f1_3 (by simp[Zot,hb3])⟩
   ·
    try simp at hb3
    have e3:(ge gf.hyps k).text.length=2:=hf _ (ZF (by omega)) (by simpa using hb3)
    have e4:=hsk _ (ZF (xs:=sk) (k:=sk.length-gf.hyps.length+k) (by omega))
    refine Zc (nx (Zj (ZI tb hJ [0,1,2,3,4,5,6,7,8,9,1003,1007,1010] [_,_,.lit (X5 vs (((sk.length-gf.hyps.length)+k)*1)),.rd (Zb (ge sk ((sk.length-gf.hyps.length)+k))),.ptr [.lit (.string (ge (ge sk ((sk.length-gf.hyps.length)+k)) 0))],_,_,_,.ptr [.lit (.string (ge ((ge gf.hyps k).text) 0))],_,_] [2,3,4,8] [_,_,_,_,_,_,_,_,_,_,_,_,_] rfl ⟨fun _ _ _ hx hl _=>Q8 (lo:=(sk.length-gf.hyps.length)) (i:=(k:Int)) Z0 rfl (Zd hx (mo 2 rfl)) (hl.D 0 57 rfl rfl) (hl.D 1 58 rfl rfl) (Int.natCast_nonneg _) (by rw[List.length_map];exact sfz) hx,fun _ _ _ hx hl _=>Qx (i:=((sk.length-gf.hyps.length)+k)) X7 rfl (Zd hx (mo 2 rfl)) (hl.D 2 59 rfl rfl) (Q7 (xs:=sk) (k:=((sk.length-gf.hyps.length)+k)) sfz) hx,iIx (k:=0) Zn,iIx (k:=0) Zn,trivial⟩ ?_)))
    refine ln 10 fun hl3=>?_
    refine ln 11 fun hl4=>?_
    refine cj 12 (fun hb4=>?_) fun hb4=>?_
    ·
     try simp at hb4
     have e5:Zot gf.hyps sk (sk.length-gf.hyps.length) k=false:=by simp[Zot,hb3,hb4]
     refine Zw (XX (O:=[]) (R:=(OB.row wv 197 2 (bs.map bdC)::OB.var b (mkM d f nm xs vs vt n kn y1 y2)::OB.row vs 22 1 (sk.map Zh)::R)) (Qj hJ (c:=(24:Int)) ) YT rfl rfl rfl (lb rfl) hS hJ0 Zq (fun a w h=>(Za (Rel.of_lit (Go.Value.int Go.IntKind.i64 24)) Ze)) (fun _=>?_) (fun i=>i.elim))
     refine kw Zy ?_
     exact fun a w h=>pnP (⟨24,Zsd (by omega) (j:=k) (by omega) e5⟩: {c:Int // ZcY d.vars f.wide gf sk= .error c}) rfl a w h
    ·
     try simp at hb4
     refine Zc (nx (fun a w h=>YH (OB.var b (mkM d f nm xs vs vt n kn y1 y2)::OB.row vs 22 1 (sk.map Zh)::R) (γ:=Value) (fun ix'=>([.lit wv,.ptr [Zb ((ge gf.hyps k).text)],.rd (Zb ((ge gf.hyps k).text)),.ptr [.lit (.string (ge ((ge gf.hyps k).text) 1))],.str (ge ((ge gf.hyps k).text) 1),.lit (ZeF vs (sk.length-gf.hyps.length) 1),.int (k:Nat),.lit (X5 vs (((sk.length-gf.hyps.length)+k)*1)),.rd (Zb (ge sk ((sk.length-gf.hyps.length)+k))),.rd (Zb ((ge sk ((sk.length-gf.hyps.length)+k)).drop 1)),.agg (bdC (⟨(ge ((ge gf.hyps k).text) 1),(ge sk ((sk.length-gf.hyps.length)+k)).drop 1⟩:Bd)),.rd (Ziq ([(⟨(ge ((ge gf.hyps k).text) 1),(ge sk ((sk.length-gf.hyps.length)+k)).drop 1⟩:Bd)])),.any,.any]:List AV).getD ix' .any) (fun ix'=>([true,true,true,true,true,true,true,true,true,true,true,true,true,true]:List Bool).getD ix' true) [(0,fun(g:Value)=>.at b 0),(4,fun(g:Value)=>.ptr (frC gf)),(5,fun(g:Value)=>.int ((sk.length-gf.hyps.length):Nat)),(6,fun(g:Value)=>.lit (ZeF vs (sk.length-gf.hyps.length) 1)),(47,fun(g:Value)=>.rd (YW gf.hyps)),(48,fun(g:Value)=>.int (gf.hyps.length:Nat)),(49,fun(g:Value)=>.int (k:Nat)),(7,fun(g:Value)=>.lit g)] (fun(j':Nat) (g:Value)=>match j' with | 0=>(OB.row wv 197 2 (bs.map bdC)::OB.var b (mkM d f nm xs vs vt n kn y1 y2)::OB.row vs 22 1 (sk.map Zh)::R) | 1=>(OB.row g 197 2 ((bs++([(⟨(ge ((ge gf.hyps k).text) 1),(ge sk ((sk.length-gf.hyps.length)+k)).drop 1⟩:Bd)])).map bdC)::OB.var b (mkM d f nm xs vs vt n kn y1 y2)::OB.row vs 22 1 (sk.map Zh)::R) | _=>(OB.row g 197 2 ((bs++([(⟨(ge ((ge gf.hyps k).text) 1),(ge sk ((sk.length-gf.hyps.length)+k)).drop 1⟩:Bd)])).map bdC)::OB.var b (mkM d f nm xs vs vt n kn y1 y2)::OB.row vs 22 1 (sk.map Zh)::R)) (fun(k':Nat) (g:Value)=>match k' with | 0=>g | 1=>g | _=>undef) [12,13] 2 (.slice none 0 0) (fun _=>rfl) h hJ Yh rfl rfl rfl rfl rfl rfl (fun j' g hj p hp=>by rcases j' with _ | _ | _ | j'<;>first | exact hp | exact List.mem_cons_of_mem _ hp | exact List.mem_cons_of_mem _ (List.mem_cons_of_mem _ hp) | (exfalso;omega)) ⟨?o13_1_0,⟨?o13_1_1,⟨?o13_1_2,⟨?o13_1_3,⟨?o13_1_4,⟨?o13_1_5,⟨?o13_1_6,⟨?o13_1_7,⟨?o13_1_8,⟨?o13_1_9,⟨?o13_1_10,⟨?o13_1_11,⟨?o13_1_12,⟨?o13_1_13,trivial⟩⟩⟩⟩⟩⟩⟩⟩⟩⟩⟩⟩⟩⟩ ⟨?e13_1_0,⟨?e13_1_1,trivial⟩⟩ ⟨.old 2 0 _ rfl rfl,⟨.old 3 4 _ rfl rfl,⟨.old 4 5 _ rfl rfl,⟨.old 5 6 _ rfl rfl,⟨.old 6 47 _ rfl rfl,⟨.old 7 48 _ rfl rfl,⟨.old 8 49 _ rfl rfl,⟨.eff 1 13 7 (fun(g:Value)=>g) rfl rfl (fun _=>rfl) (fun _ _ hx=>Xh (hx.2.1 _ (mo 0 rfl))),trivial⟩⟩⟩⟩⟩⟩⟩⟩ ?n13_1))
     exact oX rfl fun hx hl=>Yk rfl (hl.env 9 7 _ rfl rfl) hx
     exact oX rfl fun hx hl=>ZT Zac rfl (hl.env 0 9 _ rfl rfl) hx
     exact oX rfl fun hx hl=>ZA X7 rfl (hl.D 1 70 rfl rfl) hx
     exact oX rfl fun hx hl=>Yg (i:=((1:Nat):Int)) Zn rfl (hl.D 2 71 rfl rfl) (Rel.of_lit (Go.Value.int Go.IntKind.i64 1)) (Int.natCast_nonneg _) (Yy (xs:=(ge gf.hyps k).text) (k:=1) sfz) rfl hx
     exact oX rfl fun hx hl=>ZA Q1 rfl (hl.D 3 72 rfl rfl) hx
     exact oX rfl fun hx hl=>Yk rfl (hl.env 5 6 _ rfl rfl) hx
     exact oX rfl fun hx hl=>Yk rfl (hl.env 1 8 _ rfl rfl) hx
     exact fun _ O' hO'=>⟨rfl,fun _ _ _ hx hl _=>Q8 (lo:=(sk.length-gf.hyps.length)) (i:=(k:Int)) Z0 rfl (Zd hx (hO' _ (mo 1 rfl))) (hl.D 5 74 rfl rfl) (hl.D 6 75 rfl rfl) (Int.natCast_nonneg _) (by rw[List.length_map];exact sfz) hx⟩
     exact fun _ O' hO'=>⟨rfl,fun _ _ _ hx hl _=>Qx (i:=((sk.length-gf.hyps.length)+k)) X7 rfl (Zd hx (hO' _ (mo 1 rfl))) (hl.D 7 76 rfl rfl) (Q7 (xs:=sk) (k:=((sk.length-gf.hyps.length)+k)) sfz) hx⟩
     exact oX rfl fun hx hl=>Zbe (ys:=(ge sk ((sk.length-gf.hyps.length)+k)).drop 1) (lo:=1) (hi:=(ge sk ((sk.length-gf.hyps.length)+k)).length) (by rw[List.take_length]) Zn (fun _=>rfl) rfl (hl.D 8 77 rfl rfl) (Rel.of_lit (Go.Value.int Go.IntKind.i64 1)) rfl sfz sfz hx
     exact fun _ O' _=>⟨rfl,fun a _ _ hx hl _=>ZbI (us:=[a.eval (Go.Operand.tmp 73),a.eval (Go.Operand.tmp 78)]) Zim rfl (by simp) (Zz (hl.D 4 73 rfl rfl) (Zz (hl.D 9 78 rfl rfl) Yb)) rfl hx⟩
     exact oY rfl fun hk hx hl=>Zmi ZbF Zox (by decide) rfl rfl (hl.D 10 79 rfl rfl) (Zr hS _ hk hx _ (Nat.le_refl _)) (jo hJ hx)
     exact Zi rfl
     exact Zi rfl
     case e13_1_0=>exact⟨_,rfl,rfl,rfl,rfl,fun _ _ w hk hx hl _=>Zp (YS (f:=bdC) bs ([(⟨(ge ((ge gf.hyps k).text) 1),(ge sk ((sk.length-gf.hyps.length)+k)).drop 1⟩:Bd)]) (fun _=>rfl) Zir hJ hJ0 rfl hk hx (hl.D 0 69 rfl rfl).lit (hl.D 11 80 rfl rfl) (by have:=ZjV gf.hyps sk (sk.length-gf.hyps.length) k;rw[f1_2];simp;omega) (by have:=ZjV gf.hyps sk (sk.length-gf.hyps.length) k;rw[f1_2];simp;omega)) fun v w' hp=>⟨v,rfl,fun k' hk'=>absurd hk' (Nat.not_lt_zero _),fun _=>rfl,hp⟩⟩
     case e13_1_1=>exact⟨_,rfl,rfl,rfl,rfl,fun g _ w hk hx _ hs=>Zp (Zbo (.inl rfl) (hs 0 12 _ 81 (by omega) rfl rfl rfl) hk hx) fun v w' hp=>⟨g,rfl,fun _ _=>rfl,fun _=>hp.1,hp.2⟩⟩
     clear a w h
     intro v6
     dsimp only[List.map]
     refine nx (YQ tb hJ [0,1,2,3,4,5,7,1001] [.int (k+1:Nat),_] [0] [_,_,_,_,_,_,_,_] rfl ⟨Yv,trivial⟩ ?_)
     exact Xi (k+1,v6,bs++([(⟨(ge ((ge gf.hyps k).text) 1),(ge sk ((sk.length-gf.hyps.length)+k)).drop 1⟩:Bd)])) [0,1,2,3,4,5,7,6] ⟨by omega,by rw[Zhh,←f1_2];simp[ZrV,hb3],ZZ f1_3 (by simp[Zot,hb4])⟩
  ·
   try simp at hb2
   have e6:∀ j,j<gf.hyps.length→Zot gf.hyps sk (sk.length-gf.hyps.length) j=true:=fun j hj=>f1_3 j (by omega)
   refine Zx (nx (Zj (tw (fun h=>Yq hS h (m:=7) (s:=7) rfl) ?_)))
   refine tw (sa 0 rfl (congrArg (fun z'=>AV.rd (Ziq z')) (show bs=(XM gf.hyps sk (sk.length-gf.hyps.length) gf.hyps.length)from by rw[f1_2,show k=gf.hyps.length by omega]))) ?_
   refine ZI tb hJ [0,1,2,3,4,1003,1004,1005] [_,_,_,_,.int (gf.hyps.length:Nat),_] [4] [_,_,_,_,_,_,_,_] rfl ⟨YG ZN,trivial⟩ ?_
   refine ln 0 fun hl5=>?_
   refine Zf (lpo (ι:=Nat) (fun j=>(j≤gf.hyps.length)∧(∀ i,i<j→ZrA gf.hyps sk (sk.length-gf.hyps.length) (XM gf.hyps sk (sk.length-gf.hyps.length) gf.hyps.length) i=true)) (fun _=>(OB.var b (mkM d f nm xs vs vt n kn y1 y2)::OB.row vs 22 1 (sk.map Zh)::R)) (fun j=>[(88,.int (j:Nat))]) (fun j=>gf.hyps.length-j) [0,1,2,3,4,5,6,7] [_,_,_,_,_,_,_] 0 ⟨Nat.zero_le _,fun j hj=>by omega⟩ ?_)
   rintro j ⟨f2_1,f2_2⟩
   refine qso tb hJ [0,1,2,3,4,5,6,7,1000] [_] [_,_,_,_,_,_,_,_,_] ?_
   refine cjS 8 (fun hb5=>?_) fun hb5=>?_
   ·
    try simp at hb5
    refine Zc (nx (Zj (Zf (tsq ?_))))
    refine snK 1 tb rfl ?_
    refine sq (.ptr (hyC (ge gf.hyps j))) rfl rfl (lb rfl) (fun _ _ h=>Yg (i:=(j:Int)) ZR rfl (h.get 6 rfl) (h.get 8 rfl) (Int.natCast_nonneg _) (Yy (xs:=gf.hyps) (k:=j) sfz) rfl h.x) ?_
    refine snK 1 tb rfl ?_
    refine ZP Y2 hJ rfl rfl rfl (lb rfl) fun b7=>?_
    refine snK 1 tb rfl ?_
    refine ZE (b:=b7) (off:=0) (cs:=[.lit (.string (⟨#[]⟩:ByteArray)),.lit (.bool false),Zb ([]:List ByteArray)]) (es:=[.lit (.string ((ge gf.hyps j).label)),.lit (.bool ((ge gf.hyps j).floating)),Zb ((ge gf.hyps j).text)]) (news:=[.lit (.string ((ge gf.hyps j).label)),.lit (.bool ((ge gf.hyps j).floating)),Zb ((ge gf.hyps j).text)]) hJ hJ0 Xp rfl rfl rfl (lb rfl) rfl (fun a w h=>⟨(h.get 1 rfl),(h.get 2 rfl)⟩) ?_
    refine kw (fun h=>Ym hS h (m:=1) (s:=11) rfl) ?_
    refine seK [0,1,5,6,7,8,9,10,11,12] [_,_,_,_,_,_,_,_,_,_] rfl ?_
    refine nx (ZI tb hJ [2,3,4,5,6,7,8,9,1013] [_,_,_,_,_,_,_,_,_,.lit (X5 vs (((sk.length-gf.hyps.length)+j)*1)),.rd (Zb (ge sk ((sk.length-gf.hyps.length)+j))),.bool (fitB ((ge gf.hyps j).text) (XM gf.hyps sk (sk.length-gf.hyps.length) gf.hyps.length) (ge sk ((sk.length-gf.hyps.length)+j))),_,_] [9,10,11] [_,_,_,_,_,_,_,_,_] rfl ⟨fun _ _ _ hx hl hc=>Q8 (lo:=(sk.length-gf.hyps.length)) (i:=(j:Int)) Z0 rfl (Zd hx (mo 1 rfl)) (hl.D 7 100 rfl hc) (hl.D 8 101 rfl hc) (Int.natCast_nonneg _) (by rw[List.length_map];exact(by have hc':((!((ge gf.hyps j).floating))==true)=true:=hc;(try simp at hc');(first | omega | (simp;omega) | grind[ZF]))) hx,fun _ _ _ hx hl hc=>Qx (i:=((sk.length-gf.hyps.length)+j)) X7 rfl (Zd hx (mo 1 rfl)) (hl.D 9 102 rfl hc) (Q7 (xs:=sk) (k:=((sk.length-gf.hyps.length)+j)) (by have hc':((!((ge gf.hyps j).floating))==true)=true:=hc;(try simp at hc');(first | omega | (simp;omega) | grind[ZF]))) hx,iFo hS hJ (p_Fits hJ (t:=((ge gf.hyps j).text)) (l:=(XM gf.hyps sk (sk.length-gf.hyps.length) gf.hyps.length)) (x:=(ge sk ((sk.length-gf.hyps.length)+j))) ) ZqA,trivial⟩ ?_)
    refine cj 8 (fun hb6=>?_) fun hb6=>?_
    ·
     try simp at hb6
     have e7:ZrA gf.hyps sk (sk.length-gf.hyps.length) (XM gf.hyps sk (sk.length-gf.hyps.length) gf.hyps.length) j=false:=by simp[ZrA];simpa using hb6
     refine Zw (XX (O:=[]) (R:=(OB.var b (mkM d f nm xs vs vt n kn y1 y2)::OB.row vs 22 1 (sk.map Zh)::R)) (Qj hJ (c:=(25:Int)) ) YT rfl rfl rfl (lb rfl) hS hJ0 Zq (fun a w h=>(Za (Rel.of_lit (Go.Value.int Go.IntKind.i64 25)) Ze)) (fun _=>?_) (fun i=>i.elim))
     exact fun a w h=>pnP (⟨25,Zsc (by omega) e6 (j:=j) (by omega) e7⟩: {c:Int // ZcY d.vars f.wide gf sk= .error c}) rfl a w h
    ·
     try simp at hb6
     refine Zc (nx (YQ tb hJ [0,1,2,3,4,5,6,1001] [.int (j+1:Nat),_] [0] [_,_,_,_,_,_,_,_] rfl ⟨Yv,trivial⟩ ?_))
     exact Xi (j+1) [0,1,2,3,4,5,6,7] ⟨by omega,ZZ f2_2 (by simp[ZrA];grind)⟩
   ·
    try simp at hb5
    have e8:∀ j,j<gf.hyps.length→ZrA gf.hyps sk (sk.length-gf.hyps.length) (XM gf.hyps sk (sk.length-gf.hyps.length) gf.hyps.length) j=true:=fun i hi=>f2_2 i (by omega)
    refine Zx (nx (ZI tb hJ [0,1,2,3,1003,1007,1009,1010] [_,_,_,_,_,.tup [.rd (Zb (if ZdU (Yp (XM gf.hyps sk (sk.length-gf.hyps.length) gf.hyps.length)) gf.text 2000 then Zah (Yp (XM gf.hyps sk (sk.length-gf.hyps.length) gf.hyps.length)) gf.text else [])),.int (if ZdU (Yp (XM gf.hyps sk (sk.length-gf.hyps.length) gf.hyps.length)) gf.text 2000 then 0 else 15)],_,_,_,_,_] [5] [_,_,_,_,_,_,_,_] rfl ⟨iFo hS hJ (ZmK hJ (t:=gf.text) (l:=(XM gf.hyps sk (sk.length-gf.hyps.length) gf.hyps.length)) (n:=2000) sfz (Zhg (fun t ht=>(hsk t ht).2) (by omega))) Zqz,trivial⟩ ?_))
    refine ln 4 fun hl6=>?_
    refine ln 5 fun hl7=>?_
    refine Zj (qso tb hJ [0,1,2,3,6,1001] [_,_] [_,_,_,_,_,_] ?_)
    refine cj 5 (fun hb7=>?_) fun hb7=>?_
    ·
     try simp at hb7
     have e9:ZdU (Yp (XM gf.hyps sk (sk.length-gf.hyps.length) gf.hyps.length)) gf.text 2000=false:=by cases h9:ZdU (Yp (XM gf.hyps sk (sk.length-gf.hyps.length) gf.hyps.length)) gf.text 2000<;>simp_all
     refine Zw (XX (O:=[]) (R:=(OB.var b (mkM d f nm xs vs vt n kn y1 y2)::OB.row vs 22 1 (sk.map Zh)::R)) (Qj hJ (c:=(15:Int)) ) YT rfl rfl rfl (lb rfl) hS hJ0 Zq (fun a w h=>(Za (Rel.of_lit (Go.Value.int Go.IntKind.i64 15)) Ze)) (fun _=>?_) (fun i=>i.elim))
     exact fun a w h=>pnP (⟨15,Zsf (by omega) e6 e8 e9⟩: {c:Int // ZcY d.vars f.wide gf sk= .error c}) rfl a w h
    ·
     try simp at hb7
     have e9:ZdU (Yp (XM gf.hyps sk (sk.length-gf.hyps.length) gf.hyps.length)) gf.text 2000=true:=by cases h9:ZdU (Yp (XM gf.hyps sk (sk.length-gf.hyps.length) gf.hyps.length)) gf.text 2000<;>simp_all
     refine Zc (nx (Zj (Zj (fun a w h=>YO (γ:=Nat) (fun ix'=>([.rd (Ziq (XM gf.hyps sk (sk.length-gf.hyps.length) gf.hyps.length)),.ptr (frC gf),.ptr (frC gf),.ptr [Xm gf.apart,Zb gf.text,YW gf.dummies,Xm gf.wide,Zb gf.proof],.rd (Xm gf.apart),.at b 0,.at b 0,.at b 0,.at b 1,.rd (Zb d.vars),.at b 0,.at b 0,.at b 3,.at b 9,.rd (Xm f.wide),.tup [.agg (prC (Zfb (XM gf.hyps sk (sk.length-gf.hyps.length) gf.hyps.length) gf.apart d.vars f.wide)),.bool (Zip (XM gf.hyps sk (sk.length-gf.hyps.length) gf.hyps.length) gf.apart d.vars f.wide)],.tup [.agg (prC (Zfb (XM gf.hyps sk (sk.length-gf.hyps.length) gf.hyps.length) gf.apart d.vars f.wide)),.bool (Zip (XM gf.hyps sk (sk.length-gf.hyps.length) gf.hyps.length) gf.apart d.vars f.wide)],.agg (prC (Zfb (XM gf.hyps sk (sk.length-gf.hyps.length) gf.hyps.length) gf.apart d.vars f.wide)),.bool (Zip (XM gf.hyps sk (sk.length-gf.hyps.length) gf.hyps.length) gf.apart d.vars f.wide),.any,.any,.bool (Zip (XM gf.hyps sk (sk.length-gf.hyps.length) gf.hyps.length) gf.apart d.vars f.wide)]:List AV).getD ix' .any) (fun ix'=>([true,true,true,true,true,true,true,true,true,true,true,true,true,true,true,true,true,true,true,true,true,true]:List Bool).getD ix' true) [(0,fun(g:Nat)=>.at b 0),(5,fun(g:Nat)=>.int ((sk.length-gf.hyps.length):Nat)),(12,fun(g:Nat)=>.rd (Zb (if ZdU (Yp (XM gf.hyps sk (sk.length-gf.hyps.length) gf.hyps.length)) gf.text 2000 then Zah (Yp (XM gf.hyps sk (sk.length-gf.hyps.length) gf.hyps.length)) gf.text else []))),(15,fun(g:Nat)=>.bool (Zip (XM gf.hyps sk (sk.length-gf.hyps.length) gf.hyps.length) gf.apart d.vars f.wide))] (fun(j':Nat) (g:Nat)=>match j' with | 0=>(OB.var b (mkM d f nm xs vs vt n kn y1 y2)::OB.row vs 22 1 (sk.map Zh)::R) | 1=>(OB.var g [.lit (.string (⟨#[]⟩:ByteArray)),.lit (.string (⟨#[]⟩:ByteArray))]::OB.var b (mkM d f nm xs vs vt n kn y1 y2)::OB.row vs 22 1 (sk.map Zh)::R) | _=>(OB.var g [.lit (.string ((Zfb (XM gf.hyps sk (sk.length-gf.hyps.length) gf.hyps.length) gf.apart d.vars f.wide).a)),.lit (.string ((Zfb (XM gf.hyps sk (sk.length-gf.hyps.length) gf.hyps.length) gf.apart d.vars f.wide).b))]::OB.var b (mkM d f nm xs vs vt n kn y1 y2)::OB.row vs 22 1 (sk.map Zh)::R)) (fun(k':Nat) (g:Nat)=>match k' with | 0=>(.pointer (some ⟨g,0,none⟩)) | 1=>undef | _=>undef) [19,20] 2 0 (fun _=>rfl) h hJ Yh rfl rfl rfl rfl rfl rfl (fun j' g hj p hp=>by rcases j' with _ | _ | _ | j'<;>first | exact hp | exact List.mem_cons_of_mem _ hp | exact List.mem_cons_of_mem _ (List.mem_cons_of_mem _ hp) | (exfalso;omega)) ⟨?o24_2_0,⟨?o24_2_1,⟨?o24_2_2,⟨?o24_2_3,⟨?o24_2_4,⟨?o24_2_5,⟨?o24_2_6,⟨?o24_2_7,⟨?o24_2_8,⟨?o24_2_9,⟨?o24_2_10,⟨?o24_2_11,⟨?o24_2_12,⟨?o24_2_13,⟨?o24_2_14,⟨?o24_2_15,⟨?o24_2_16,⟨?o24_2_17,⟨?o24_2_18,⟨?o24_2_19,⟨?o24_2_20,⟨?o24_2_21,trivial⟩⟩⟩⟩⟩⟩⟩⟩⟩⟩⟩⟩⟩⟩⟩⟩⟩⟩⟩⟩⟩⟩ ⟨?e24_2_0,⟨?e24_2_1,trivial⟩⟩ ⟨.old 1 0 _ rfl rfl,⟨.old 3 5 _ rfl rfl,⟨.old 4 12 _ rfl rfl,⟨.new 21 15 _ rfl rfl rfl,trivial⟩⟩⟩⟩ ?n24_2))))
     exact oX rfl fun hx hl=>Yk rfl (hl.env 0 7 _ rfl rfl) hx
     exact oX rfl fun hx hl=>Yk rfl (hl.env 2 4 _ rfl rfl) hx
     exact oX rfl fun hx hl=>YL rfl (hl.D 1 123 rfl rfl) hx
     exact oX rfl fun hx hl=>ZT ZkW rfl (hl.D 2 124 rfl rfl) hx
     exact oX rfl fun hx hl=>ZA Zrx rfl (hl.D 3 125 rfl rfl) hx
     exact oX rfl fun hx hl=>Yk rfl (hl.env 1 0 _ rfl rfl) hx
     exact oX rfl fun hx hl=>Zk rfl (hl.D 5 127 rfl rfl) hx
     exact oX rfl fun hx hl=>Zm Zd2 rfl (hl.D 6 128 rfl rfl) hx
     exact oX rfl fun hx hl=>Zm ZkX rfl (hl.D 7 129 rfl rfl) hx
     exact fun _ O' hO'=>⟨rfl,fun _ _ _ hx hl _=>Zo (cs:=(mkM d f nm xs vs vt n kn y1 y2)) X7 rfl (Zd hx (hO' _ (mo 0 rfl))) (hl.D 8 130 rfl rfl) rfl hx⟩
     exact oX rfl fun hx hl=>Yk rfl (hl.env 1 0 _ rfl rfl) hx
     exact oX rfl fun hx hl=>Zk rfl (hl.D 10 132 rfl rfl) hx
     exact oX rfl fun hx hl=>Zm Qe rfl (hl.D 11 133 rfl rfl) hx
     exact oX rfl fun hx hl=>Zm ZkV rfl (hl.D 12 134 rfl rfl) hx
     exact fun _ O' hO'=>⟨rfl,fun _ _ _ hx hl _=>Zo (cs:=(mkM d f nm xs vs vt n kn y1 y2)) Zrx rfl (Zd hx (hO' _ (mo 0 rfl))) (hl.D 13 135 rfl rfl) rfl hx⟩
     exact oY rfl fun hk hx hl=>ZeS (ZpG hJ (bl:=(XM gf.hyps sk (sk.length-gf.hyps.length) gf.hyps.length)) (ap:=gf.apart) (us:=d.vars) (wd:=f.wide) (Zhg (fun t ht=>(hsk t ht).2) (by omega)) (hwd)) Zqy rfl (Zr hS _ hk hx) (hx.1) (Za (hl.D 0 122 rfl rfl) (Za (hl.D 4 126 rfl rfl) (Za (hl.D 9 131 rfl rfl) (Za (hl.D 14 136 rfl rfl) Ze)))) (jo hJ hx)
     exact oX rfl fun hx hl=>Yk rfl (hl.D 15 137 rfl rfl) hx
     exact oX rfl fun hx hl=>YY rfl (hl.D 16 121 rfl rfl) rfl hx
     exact oX rfl fun hx hl=>YY rfl (hl.D 16 121 rfl rfl) rfl hx
     exact Zi rfl
     exact Zi rfl
     exact oX rfl fun hx hl=>XI rfl (hl.D 18 139 rfl rfl) hx
     case e24_2_0=>exact⟨_,rfl,rfl,rfl,rfl,fun g _ w hk hx _ _=>Zp (ZbM QB hJ rfl hk hx) fun v w' ⟨g',hv,hp⟩=>⟨g',rfl,fun k' hk'=>absurd hk' (Nat.not_lt_zero _),fun _=>hv,hp⟩⟩
     case e24_2_1=>exact⟨_,rfl,rfl,rfl,rfl,fun g a w hk hx hl hs=>(by obtain⟨us2,hv2,hr3⟩:=Zap (cs:=[.lit (.string ((Zfb (XM gf.hyps sk (sk.length-gf.hyps.length) gf.hyps.length) gf.apart d.vars f.wide).a)),.lit (.string ((Zfb (XM gf.hyps sk (sk.length-gf.hyps.length) gf.hyps.length) gf.apart d.vars f.wide).b))]) (hl.D 17 138 rfl rfl);exact Zp (XJ (S':=S) (off:=0) (cs:=[.lit (.string (⟨#[]⟩:ByteArray)),.lit (.string (⟨#[]⟩:ByteArray))]) (news:=[.lit (.string ((Zfb (XM gf.hyps sk (sk.length-gf.hyps.length) gf.hyps.length) gf.apart d.vars f.wide).a)),.lit (.string ((Zfb (XM gf.hyps sk (sk.length-gf.hyps.length) gf.hyps.length) gf.apart d.vars f.wide).b))]) (es:=[.lit (.string ((Zfb (XM gf.hyps sk (sk.length-gf.hyps.length) gf.hyps.length) gf.apart d.vars f.wide).a)),.lit (.string ((Zfb (XM gf.hyps sk (sk.length-gf.hyps.length) gf.hyps.length) gf.apart d.vars f.wide).b))]) (us:=us2) hJ hJ0 Xf rfl hk hx (ZdG (hs 0 19 _ 14 (by omega) rfl rfl rfl)) (by rw[hv2];rfl) hr3 (lb rfl) rfl) fun v w' hp=>⟨g,rfl,fun _ _=>rfl,fun e=>(by cases e),hp⟩)⟩
     clear a w h
     intro b12
     dsimp only[List.map]
     refine kw Zy ?_
     refine nx (ln 2 fun hl8=>?_)
     refine qso tb hJ [0,1,2,1000] [_] [_,_,_,_] ?_
     refine cj 3 (fun hb8=>?_) fun hb8=>?_
     ·
      try simp at hb8
      have e10:Zip (XM gf.hyps sk (sk.length-gf.hyps.length) gf.hyps.length) gf.apart d.vars f.wide=true:=by simpa using hb8
      refine Zw (XX (O:=[]) (R:=(OB.var b (mkM d f nm xs vs vt n kn y1 y2)::OB.row vs 22 1 (sk.map Zh)::R)) (Qj hJ (c:=(26:Int)) ) YT rfl rfl rfl (lb rfl) hS hJ0 Zq (fun a w h=>(Za (Rel.of_lit (Go.Value.int Go.IntKind.i64 26)) Ze)) (fun _=>?_) (fun i=>i.elim))
      exact fun a w h=>pnP (⟨26,Zsb (by omega) e6 e8 e9 e10⟩: {c:Int // ZcY d.vars f.wide gf sk= .error c}) rfl a w h
     ·
      try simp at hb8
      have e10:Zip (XM gf.hyps sk (sk.length-gf.hyps.length) gf.hyps.length) gf.apart d.vars f.wide=false:=by simpa using hb8
      refine Zc (nx (tw pm1 ?_))
      refine tw (fun h=>List.map_take▸st_cut (m:=(sk.length-gf.hyps.length)) (by rw[List.length_map];exact sfz) h) ?_
      refine tsq ?_
      refine snK 2 tb rfl ?_
      refine sq (.at b 0) rfl rfl (lb rfl) (fun _ _ h=>Zk rfl (h.get 0 rfl) h.x) ?_
      refine sq (.at b 13) rfl rfl (lb rfl) (fun _ _ h=>Zm Yn rfl (h.get 0 rfl) h.x) ?_
      refine sq (.lit vs) rfl rfl (lb rfl) (fun _ _ h=>Zo (cs:=(mkM d f nm xs vs vt n kn y1 y2)) QE rfl (Zd h.x (mo 1 rfl)) (h.get 0 rfl) rfl h.x) ?_
      refine snK 1 tb rfl ?_
      refine sq (.lit (Za6 vs (sk.length-gf.hyps.length))) rfl rfl (lb rfl) (fun _ _ h=>Zgl (m:=(sk.length-gf.hyps.length)) Z0 rfl (Zd h.x (mo 0 rfl)) (by first | rfl | (rw[List.length_map];exact sfz)) (h.get 1 rfl) (h.get 0 rfl) h.x) ?_
      refine Y7 (O:=[OB.row (Za6 vs (sk.length-gf.hyps.length)) 22 1 ((sk.take (sk.length-gf.hyps.length)).map Zh)]) (R:=(OB.var b (mkM d f nm xs vs vt n kn y1 y2)::R)) (Zs5 hJ (v:=(Za6 vs (sk.length-gf.hyps.length))) (sk:=(sk.take (sk.length-gf.hyps.length))) ) Zqx rfl rfl rfl (lb rfl) hS hJ0 Zq (fun a w h=>(Za (h.get 0 rfl) Ze)) fun _=>?_
      refine sq (.at b 0) rfl rfl (lb rfl) (fun _ _ h=>Zk rfl (h.get 7 rfl) h.x) ?_
      refine sq (.at b 13) rfl rfl (lb rfl) (fun _ _ h=>Zm Yn rfl (h.get 0 rfl) h.x) ?_
      refine kw pm1 ?_
      refine ZJ (b:=b) (off:=13) (cs:=(mkM d f nm xs vs vt n kn y1 y2)) (es:=(mkC d f [.lit nm,XL xs,.lit (Zed (Za6 vs (sk.length-gf.hyps.length))),.lit vt,.lit (.int .i64 (n:Int)),.lit (.bool kn),.lit (.int .i64 y1),.lit (.int .i64 y2)])) hJ hJ0 Zbb rfl rfl rfl (lb rfl) rfl (fun a w h=>⟨(h.get 0 rfl),(h.get 2 rfl)⟩) ?_
      refine seK [10,12] [_,_] rfl ?_
      refine nx (Zw (snK 2 tb rfl ?_))
      refine Y7 (O:=[OB.var b (mkC d f [.lit nm,XL xs,.lit (Zed (Za6 vs (sk.length-gf.hyps.length))),.lit vt,.lit (.int .i64 (n:Int)),.lit (.bool kn),.lit (.int .i64 y1),.lit (.int .i64 y2)]),OB.clp (Zed (Za6 vs (sk.length-gf.hyps.length))) ((sk.take (sk.length-gf.hyps.length)).map Zh)]) (R:=(R)) (ZsO hJ (b:=b) (d:=d) (f:=f) (nm:=nm) (xs:=xs) (vs:=(Zed (Za6 vs (sk.length-gf.hyps.length)))) (vt:=vt) (n:=n) (kn:=kn) (y1:=y1) (y2:=y2) (sk:=(sk.take (sk.length-gf.hyps.length))) (t:=(if ZdU (Yp (XM gf.hyps sk (sk.length-gf.hyps.length) gf.hyps.length)) gf.text 2000 then Zah (Yp (XM gf.hyps sk (sk.length-gf.hyps.length) gf.hyps.length)) gf.text else [])) (by rw[List.length_take];omega)) ZfM rfl rfl rfl (lb rfl) hS hJ0 Zq (fun a w h=>(Za (h.get 1 rfl) (Za (h.get 0 rfl) Ze))) fun z15=>?_
      refine seK [] [] rfl ?_
      exact fun a w h=>lvP (Xt  ⟨(z15,((sk.take (sk.length-gf.hyps.length))++[(if ZdU (Yp (XM gf.hyps sk (sk.length-gf.hyps.length) gf.hyps.length)) gf.text 2000 then Zah (Yp (XM gf.hyps sk (sk.length-gf.hyps.length) gf.hyps.length)) gf.text else [])])),by rw[Zr9 (by omega) e6 e8 e9 e10,e9];rfl⟩ rfl h rfl)
section
variable {n:Rn} {P:Program} {l:List Oper} {Q:Exit→Act→World→Prop}
theorem Zl4 {Pn:List PanicEntry→Act→World→Prop} {I:(Nat→Bool)→Act→World→Prop} {id:Nat} {draw:Bool} {a:Act} {w:World} (hP:∀ ch a w,Pn ch a w→Q (.panic ch) a w) (hm:P.follows .mixedOrders=true) (hback:Zbx l=true)
 (hstep:∀(Q:Exit→Act→World→Prop),(∀ ch a w,Pn ch a w→Q (.panic ch) a w)→∀(b:Nat→Bool) (a:Act) (w:World) (i:Nat) (o:Oper) (rest:List Oper),l[i]?=some o→b i=false→(∀ j∈ZK o,b j=true)→I b a w→(∀ a' w',I (Z1 b i) a' w'→wpListIn n.F n.d P l.toArray Q rest a' w')→wpListIn n.F n.d P l.toArray Q (o::rest) a w)
 (hend:∀ a w,I (fun i=>decide (i<l.length)) a w→Q .normal a w) (h0:I (fun _=>false) a w) (hd:I (fun _=>false) a w.drew):(Code.region id l.toArray draw).wpIn n.F n.d P Q a w:=by
 have text:∀(r:List Oper) (k:Nat) (a:Act) (w:World),k+r.length=l.length→l.drop k=r→I (fun i=>decide (i<k)) a w→wpListIn n.F n.d P l.toArray Q r a w:=by
  intro r
  induction r with
  | nil=>
   intro k a w hl _ h
   simp only[List.length_nil,Nat.add_zero]at hl
   subst hl
   exact wpListIn_nil (hend _ _ h)
  | cons o r ih=>
   intro k a w hl hr h
   simp only[List.length_cons]at hl
   have hi:l[k]?=some o:=by
    have:(l.drop k)[0]?=some o:=by rw[hr];rfl
    simpa [List.getElem?_drop]using this
   refine hstep Q hP _ a w k o r hi (by simp) (fun j hj=>by have:=Zag hback hi hj;simpa using this) h fun a' w' h'=>?_
   refine ih (k+1) a' w' (by omega) ?_ ?_
   · have:l.drop (k+1)=(l.drop k).drop 1:=by rw[List.drop_drop]
     rw[this,hr];rfl
   · have he:(fun i=>decide (i<k+1))=Z1 (fun i=>decide (i<k)) k:=by
      funext i
      unfold Z1
      by_cases e:i=k
      · simp[e]
      · rw[if_neg e]
        congr 1
        apply propext
        omega
     rw[he];exact h'
 have fin:∀(d:Array Bool) (a:Act) (w:World),d.size=l.length→I (fun i=>d.getD i false) a w→Region.ready .any l.toArray d=[]→Q .normal a w:=fun d a w hl h hnil=>by
  have hall:=Zbc hl hback hnil
  have he:(fun i=>d.getD i false)=fun i=>decide (i<l.length):=by
   funext i
   by_cases hi:i<l.length
   · simp[hall i hi,hi]
   · simp only[hi,decide_false]
     rw[Array.getD_eq_getD_getElem?,Array.getElem?_eq_none (by omega)]
     rfl
  rw[he]at h
  exact hend _ _ h
 have any:∀(fuel:Nat) (d:Array Bool) (a:Act) (w:World),d.size=l.length→ZdV d≤fuel→I (fun i=>d.getD i false) a w→wpAnyIn n.F n.d P .any l.toArray Q fuel d a w:=by
  intro fuel
  induction fuel with
  | zero=>
   intro d a w hl hf h
   have hnil:Region.ready .any l.toArray d=[]:=by
    cases hr:Region.ready .any l.toArray d with
    | nil=>rfl
    | cons x xs=>
     have hx:x∈Region.ready .any l.toArray d:=by rw[hr];simp
     have:=Qm (mem_ready.1 hx).1
     omega
   exact⟨hnil,fin d a w hl h hnil⟩
  | succ fuel ih=>
   intro d a w hl hf h
   refine⟨fun hnil=>fin d a w hl h hnil,fun i hr=>?_⟩
   obtain⟨h1,o,ho,h2⟩:=mem_ready.1 hr
   have ho':l[i]?=some o:=by simpa using ho
   have hil:i<d.size:=by rw[hl];exact(List.getElem?_eq_some_iff.1 ho').1
   refine Qs ho (hstep (Exit.then _ Q) (fun ch a w h=>hP ch a w h) _ a w i o [] ho' (by simpa [Array.getD,hil]using h1) (fun j hj=>?_) h fun a' w' h'=>?_)
   · obtain⟨e,he,hb,rfl⟩:=mem_depsOf.1 hj
     exact h2 e he hb
   · refine wpListIn_nil ?_
     refine ih _ a' w' (by simpa using hl) (by have:=Qm h1;omega) ?_
     have he:(fun j=>(d.setIfInBounds i true).getD j false)=Z1 (fun j=>d.getD j false) i:=by
      funext j
      by_cases hj:j=i
      · subst hj
        simp[Z1,Array.getD,hil]
      · simp only[Z1,if_neg hj,Array.getD_eq_getD_getElem?]
        rw[Array.getElem?_setIfInBounds_ne (fun e=>hj e.symm)]
     rw[he];exact h'
 cases draw with
 | false=>
  refine wpIn_region_lit (text l 0 a w (by simp) rfl ?_)
  have he:(fun i=>decide (i<0))=fun _:Nat=>false:=by funext i;simp
  rw[he];exact h0
 | true=>
  refine wpIn_region_any hm (any _ _ a _ (by simp) ?_ ?_)
  · simp only[ZdV]
    exact Nat.le_trans List.countP_le_length (by simp)
  · have he:(fun i=>(Array.replicate l.toArray.size false).getD i false)=fun _=>false:=by
     funext i
     simp[Array.getD]
    rw[he]
    exact hd
end
section
variable {n:Rn} {P:Program} {l:List Oper} {Q:Exit→Act→World→Prop}
variable {N:Nat} {J:World→Prop} {S:Nat→Prop} {O:List OB} {w0:World} {env:List (Nat×AV)} {avs:Nat→AV} {conds:Nat→Bool} {T:Array Value} {γ:Type}
end
section
variable {n:Rn} {N:Nat} {P:Program} {S:Nat→Prop} {w0:World} {env:List (Nat×AV)} {X:World→Prop} {l:List Oper} {Q:Exit→Act→World→Prop}
theorem Zgf {id:Nat} {draw:Bool} {a:Act} {w:World} (avs:Nat→AV) (conds:Nat→Bool) (k:Nat) {o:Oper} (ho:l[k]?=some o) (hk:l.length=k+1) (hg:o.guard=none) (hdep:(List.range k).all (fun i=>ZaF l l.length k i)=true) {G:World→Prop} {B:List PanicEntry→World→Prop}
 (h:St All S w0 N env X a w) (hm:P.follows .mixedOrders=true) (hu:Y3 l=true) (hN:Zaz l N=true) (hback:Zbx l=true) (hx:Stab X)
 (ob:∀ i o,i<k→l[i]?=some o→Ob n P All S w0 env X l avs conds i o)
 (last:∀ a w,Keeps All w0 w→X w→Look S w env l avs conds k a→Zon n P o a w (fun _ w'=>G w') B)
 (hG:∀ a w,a.defers=[]→G w→Q .normal a w) (hB:∀ ch a w,a.defers=[]→B ch w→Q (.panic ch) a w):(Code.region id l.toArray draw).wpIn n.F n.d P Q a w:=by
 have start:∀ w',Keeps All w w'→RInv All S S w0 N env X l avs conds a.tmps (fun _=>false) a w':=fun w' hkw=>
  ⟨h.defs,h.size,h.keep.trans hkw,hx _ _ hkw h.x,fun _ _=>rfl,fun _ _ _ _ _ e _=>(by cases e),fun _ _ _ _ _ e _=>(by cases e),fun _ _ _ e=>(by cases e),fun _ h=>h,fun p hp=>⟨(h.env p hp).1,(h.env p hp).2.on hkw⟩⟩
 refine Zl4 (Pn:=fun ch a' w'=>a'.defers=[]∧B ch w') (I:=fun b a' w'=>(b k=false∧RInv All S S w0 N env X l avs conds a.tmps b a' w')∨((∀ i,i≤k→b i=true)∧a'.defers=[]∧G w')) (fun ch a' w' hp=>hB ch a' w' hp.1 hp.2) hm hback ?_ ?_ (.inl ⟨rfl,start w (Keeps.refl _ _)⟩) (.inl ⟨rfl,start _ (Keeps.refl _ _).drew⟩)
 · rintro Q hP b a1 w1 i o' rest hi hb hd (⟨hbk,hr⟩ | ⟨hall,_⟩) hK
   · by_cases e:i=k
     · subst e
       rw[ho]at hi;cases hi
       refine wpListIn_plain hg fun K' hKr=>?_
       refine last a1 w1 hr.keep hr.x (hr.look ho hb hd) K' Q (fun v w2 hgw=>?_) fun ch w2 hbw=>hP _ _ _ ⟨hr.defs,hbw⟩
       refine hKr _ _ (hK _ _ (.inr ⟨fun j hj=>?_,by rw[Qy];exact hr.defs,hgw⟩))
       by_cases ej:j=i
       · simp[Z1,ej]
       · simp only[Z1,if_neg ej]
         have hu':=List.all_eq_true.1 hdep j (by simp;omega)
         exact XN hr.closed _ i j _ ho hd hu'
     · have hlt:i<k:=by
        have:=(List.getElem?_eq_some_iff.1 hi).1
        omega
       refine hr.does hu hN hi hb hd (ob i o' hlt hi) fun a' w' h'=>hK _ _ (.inl ⟨?_,h'⟩)
       simp only[Z1,if_neg (fun e':k=i=>e e'.symm)]
       exact hbk
   · have:=(List.getElem?_eq_some_iff.1 hi).1
     rw[hall i (by omega)]at hb
     cases hb
 · rintro a1 w1 (⟨hbk,_⟩ | ⟨_,hd,hgw⟩)
   · simp[hk]at hbk
   · exact hG a1 w1 hd hgw
end
theorem ZsM {J:World→Prop} (hJ:Stab J) (bx bm b:Nat) (x:Itm) (fk:FuncId) {ι κ:Type} {O:List OB} {O':ι→List OB} {pv:κ→Value} {O'':κ→List OB} (h0:0≤x.kind) (hk:([.lit (fnV 112),.lit (fnV 113),.lit (fnV 115),.lit (fnV 116),.lit (fnV 117)]:List CD)[x.kind.toNat]?=some (.lit (fnV fk))) (hok:Zl Tryz.prog fk)
 (hF:FnP Tryz.prog J fk [] [.at b 0,.agg (itC x)] O (fun _=>.tup []) O' pv O''):
 FnP Tryz.prog J 91 [] [.at bx 0,.at bm 0] (OB.var bx (itC x)::OB.var bm [.lit (.pointer (some ⟨b,0,none⟩))]::O) (fun _=>.tup []) (fun i=>OB.var bx (itC x)::OB.var bm [.lit (.pointer (some ⟨b,0,none⟩))]::O' i) pv (fun k=>OB.var bx (itC x)::OB.var bm [.lit (.pointer (some ⟨b,0,none⟩))]::O'' k):=by
 refine Qn (N:=9) Tryz.func91 rfl rfl (lb rfl) fun S w0 R hS hJ0 hH=>?_
 intro a w h
 have hpm:∀(A:List OB),((OB.var bx (itC x)::OB.var bm [.lit (.pointer (some ⟨b,0,none⟩))]::A)++R).Perm (A++OB.var bx (itC x)::OB.var bm [.lit (.pointer (some ⟨b,0,none⟩))]::R):=fun A=>by
  have e1:=List.perm_middle (l₁:=A) (l₂:=OB.var bm [.lit (.pointer (some ⟨b,0,none⟩))]::R) (a:=OB.var bx (itC x))
  have e2:=List.perm_middle (l₁:=A) (l₂:=R) (a:=OB.var bm [.lit (.pointer (some ⟨b,0,none⟩))])
  exact(List.Perm.cons _ e2.symm).trans e1.symm
 refine Zgf (fun i=>([.agg [.lit (fnV 112),.lit (fnV 113),.lit (fnV 115),.lit (fnV 116),.lit (fnV 117)],.at bx 0,.int x.kind,.lit (fnV fk),.at b 0,.agg (itC x),.any]:List AV).getD i .any) (fun _=>true) 6 rfl rfl rfl rfl
  (G:=fun w'=>∃ i,Keeps All w0 w'∧XO J S w0.heap.size ((OB.var bx (itC x)::OB.var bm [.lit (.pointer (some ⟨b,0,none⟩))]::O' i)++R) w')
  (B:=fun ch w'=>∃ k,ch=pch (pv k)∧Keeps All w0 w'∧XO J S w0.heap.size ((OB.var bx (itC x)::OB.var bm [.lit (.pointer (some ⟨b,0,none⟩))]::O'' k)++R) w') h Yh rfl rfl rfl (Yw hJ) ?_ ?_ ?_ ?_
 · intro i o hi ho
   match i,hi with
   | 0,_=>cases ho;exact⟨rfl,fun a w hk hx hl _=>ZeS (ZsL hJ) ZtU rfl (Zr hS _ hk hx) hx.1 Ze (jo hJ hx)⟩
   | 1,_=>cases ho;exact⟨rfl,fun a w _ hx hl _=>Zm Zid rfl (hl.env 0 0 _ rfl rfl) hx⟩
   | 2,_=>cases ho;exact⟨rfl,fun a w _ hx hl _=>Zo (cs:=itC x) ZbL rfl (Zd hx (mo 0 rfl)) (hl.D 1 3 rfl rfl) rfl hx⟩
   | 3,_=>cases ho;exact⟨rfl,fun a w _ hx hl _=>Zi3 Zep Zta Zkl rfl (hl.D 0 2 rfl rfl) (hl.D 2 4 rfl rfl) h0 rfl hk hx⟩
   | 4,_=>cases ho;exact⟨rfl,fun a w _ hx hl _=>Zo (cs:=[.lit (.pointer (some ⟨b,0,none⟩))]) ZU rfl (Zd hx (mo 1 rfl)) (hl.env 1 1 _ rfl rfl) rfl hx⟩
   | 5,_=>cases ho;exact⟨rfl,fun a w _ hx hl _=>YI (cs:=itC x) (ds:=itC x) YU rfl (Zd hx (mo 0 rfl)) (hl.env 0 0 _ rfl rfl) rfl rfl hx⟩
 · intro a w hkk hx hl
   have hc:a.eval (.tmp 5)=fnV fk:=(hl.D 3 5 rfl rfl).lit
   have hx':=Yt (hpm O) hx
   have hsub:∀ k,SO S ((OB.var bx (itC x)::OB.var bm [.lit (.pointer (some ⟨b,0,none⟩))]::O)++R) k→SO S (O++OB.var bx (itC x)::OB.var bm [.lit (.pointer (some ⟨b,0,none⟩))]::R) k:=fun k hs=>hs.perm (hpm O)
   intro K' Q' hK hQ
   refine ZrN (res:=fun _:ι=>.tup []) (O:=O) (R:=OB.var bx (itC x)::OB.var bm [.lit (.pointer (some ⟨b,0,none⟩))]::R) (avs:=[.at b 0,.agg (itC x)]) (avc:=[]) (cap:=[]) (args:=[.tmp 6,.tmp 7]) (by rw[List.append_nil];exact hF) hok rfl hS hJ0 Zq hkk hx' hc (Za ((hl.D 4 6 rfl rfl).sub fun k _=>hsub k) (Za ((hl.D 5 7 rfl rfl).sub fun k _=>hsub k) Ze)) Ze K' Q' (fun v w' ⟨i,hs,_⟩=>hK v w' ⟨i,hs.1,Yt (hpm _).symm hs.2.1⟩) fun ch w' ⟨k,hch,hs⟩=>hQ ch w' ⟨k,hch,hs.1,Yt (hpm _).symm hs.2.1⟩
 · rintro a w hd ⟨i,hk1,hx1⟩
   exact⟨hd,.tuple #[],by simp[results,Tryz.results91,Sem.run_pure],.inl ⟨i,_,rfl,(by simp only[Rel,RelL];exact⟨[],rfl,rfl⟩),hk1,hx1⟩⟩
 · rintro ch a w hd ⟨k,rfl,hk1,hx1⟩
   exact⟨hd,.inr ⟨k,rfl,hk1,hx1⟩⟩
theorem ZsT {J:World→Prop} (hJ:Stab J) (b:Nat) (d:Db) (f:Fr) (nm:Value) (xs:List Itm) (vs:Value) (vt:Value) (n:Nat) (kn:Bool) (y1:Int) (y2:Int) (sk:List (List ByteArray)) (tg:List (List ByteArray)) (x:Itm) (hk:x.kind=0):FnP (ι:= {q':Value×List (List ByteArray) // Y4 d.frames d.vars f sk tg x= .ok q'.2}) (κ:= {c:Int // Y4 d.frames d.vars f sk tg x= .error c}) Tryz.prog J 112 [] [.at b 0,.agg (itC x)] [OB.var b (mkM d f nm xs vs vt n kn y1 y2),OB.row vs 22 1 (sk.map Zh),OB.row vt 22 1 (tg.map Zh)] (fun _=>.tup []) (fun i'=>[OB.var b (mkC d f [.lit nm,XL xs,.lit (i'.1.1),.lit vt,.lit (.int .i64 (n:Int)),.lit (.bool kn),.lit (.int .i64 y1),.lit (.int .i64 y2)]),OB.row i'.1.1 22 1 ((i'.1.2).map Zh),OB.row vt 22 1 (tg.map Zh)]) (fun k'=>flV k'.1) (fun _=>[OB.var b (mkM d f nm xs vs vt n kn y1 y2),OB.row vs 22 1 (sk.map Zh),OB.row vt 22 1 (tg.map Zh)]):=by
 refine Qn (N:=5) Tryz.func112 rfl rfl (lb rfl) fun S w0 R hS hJ0 hH=>?_
 refine Z6 (B:=St All (SO S (OB.var b (mkM d f nm xs vs vt n kn y1 y2)::OB.row vs 22 1 (sk.map Zh)::OB.row vt 22 1 (tg.map Zh)::R)) w0 5 [(0,.at b 0),(1,.agg (itC x))] (XO J S w0.heap.size (OB.var b (mkM d f nm xs vs vt n kn y1 y2)::OB.row vs 22 1 (sk.map Zh)::OB.row vt 22 1 (tg.map Zh)::R))) ?_ fun a w h=>h
 refine ZI tb hJ [] [.ptr (itC x)] [0] [] rfl ⟨fun _ _ hk hx hl _=>YP rfl (hl.env 1 1 _ rfl rfl) (Zr hS _ hk hx _ (Nat.le_refl _)) (jo hJ hx),trivial⟩ ?_
 refine Zw (XX (O:=[]) (R:=(OB.var b (mkM d f nm xs vs vt n kn y1 y2)::OB.row vs 22 1 (sk.map Zh)::OB.row vt 22 1 (tg.map Zh)::R)) (Qj hJ (c:=(27:Int)) ) YT rfl rfl rfl (lb rfl) hS hJ0 Zq (fun a w h=>(Za (Rel.of_lit (Go.Value.int Go.IntKind.i64 27)) Ze)) (fun _=>?_) (fun i=>i.elim))
 exact fun a w h=>pnP (⟨27,by simp[Y4,hk]⟩: {c:Int // Y4 d.frames d.vars f sk tg x= .error c}) rfl a w h
theorem ZsQ {J:World→Prop} (hJ:Stab J) (b:Nat) (d:Db) (f:Fr) (nm:Value) (xs:List Itm) (vs:Value) (vt:Value) (n:Nat) (kn:Bool) (y1:Int) (y2:Int) (sk:List (List ByteArray)) (tg:List (List ByteArray)) (x:Itm) (hk:x.kind=3):FnP (ι:= {q':Value×List (List ByteArray) // Y4 d.frames d.vars f sk tg x= .ok q'.2}) (κ:= {c:Int // Y4 d.frames d.vars f sk tg x= .error c}) Tryz.prog J 116 [] [.at b 0,.agg (itC x)] [OB.var b (mkM d f nm xs vs vt n kn y1 y2),OB.row vs 22 1 (sk.map Zh),OB.row vt 22 1 (tg.map Zh)] (fun _=>.tup []) (fun i'=>[OB.var b (mkC d f [.lit nm,XL xs,.lit (i'.1.1),.lit vt,.lit (.int .i64 (n:Int)),.lit (.bool kn),.lit (.int .i64 y1),.lit (.int .i64 y2)]),OB.row i'.1.1 22 1 ((i'.1.2).map Zh),OB.row vt 22 1 (tg.map Zh)]) (fun k'=>flV k'.1) (fun _=>[OB.var b (mkM d f nm xs vs vt n kn y1 y2),OB.row vs 22 1 (sk.map Zh),OB.row vt 22 1 (tg.map Zh)]):=by
 refine Qn (N:=5) Tryz.func116 rfl rfl (lb rfl) fun S w0 R hS hJ0 hH=>?_
 refine Z6 (B:=St All (SO S (OB.var b (mkM d f nm xs vs vt n kn y1 y2)::OB.row vs 22 1 (sk.map Zh)::OB.row vt 22 1 (tg.map Zh)::R)) w0 5 [(0,.at b 0),(1,.agg (itC x))] (XO J S w0.heap.size (OB.var b (mkM d f nm xs vs vt n kn y1 y2)::OB.row vs 22 1 (sk.map Zh)::OB.row vt 22 1 (tg.map Zh)::R))) ?_ fun a w h=>h
 refine ZI tb hJ [] [.ptr (itC x)] [0] [] rfl ⟨fun _ _ hk hx hl _=>YP rfl (hl.env 1 1 _ rfl rfl) (Zr hS _ hk hx _ (Nat.le_refl _)) (jo hJ hx),trivial⟩ ?_
 refine Zw (XX (O:=[]) (R:=(OB.var b (mkM d f nm xs vs vt n kn y1 y2)::OB.row vs 22 1 (sk.map Zh)::OB.row vt 22 1 (tg.map Zh)::R)) (Qj hJ (c:=(22:Int)) ) YT rfl rfl rfl (lb rfl) hS hJ0 Zq (fun a w h=>(Za (Rel.of_lit (Go.Value.int Go.IntKind.i64 22)) Ze)) (fun _=>?_) (fun i=>i.elim))
 exact fun a w h=>pnP (⟨22,by simp[Y4,hk]⟩: {c:Int // Y4 d.frames d.vars f sk tg x= .error c}) rfl a w h
theorem ZsS {J:World→Prop} (hJ:Stab J) (b:Nat) (d:Db) (f:Fr) (nm:Value) (xs:List Itm) (vs:Value) (vt:Value) (n:Nat) (kn:Bool) (y1:Int) (y2:Int) (sk:List (List ByteArray)) (tg:List (List ByteArray)) (x:Itm) (hk:x.kind=1) (hl:sk.length≤2000):FnP (ι:= {q':Value×List (List ByteArray) // Y4 d.frames d.vars f sk tg x= .ok q'.2}) (κ:= {c:Int // Y4 d.frames d.vars f sk tg x= .error c}) Tryz.prog J 113 [] [.at b 0,.agg (itC x)] [OB.var b (mkM d f nm xs vs vt n kn y1 y2),OB.row vs 22 1 (sk.map Zh),OB.row vt 22 1 (tg.map Zh)] (fun _=>.tup []) (fun i'=>[OB.var b (mkC d f [.lit nm,XL xs,.lit (i'.1.1),.lit vt,.lit (.int .i64 (n:Int)),.lit (.bool kn),.lit (.int .i64 y1),.lit (.int .i64 y2)]),OB.row i'.1.1 22 1 ((i'.1.2).map Zh),OB.row vt 22 1 (tg.map Zh)]) (fun k'=>flV k'.1) (fun _=>[OB.var b (mkM d f nm xs vs vt n kn y1 y2),OB.row vs 22 1 (sk.map Zh),OB.row vt 22 1 (tg.map Zh)]):=by
 refine Qn (N:=8) Tryz.func113 rfl rfl (lb rfl) fun S w0 R hS hJ0 hH=>?_
 refine Z6 (B:=St All (SO S (OB.var b (mkM d f nm xs vs vt n kn y1 y2)::OB.row vs 22 1 (sk.map Zh)::OB.row vt 22 1 (tg.map Zh)::R)) w0 8 [(0,.at b 0),(1,.agg (itC x))] (XO J S w0.heap.size (OB.var b (mkM d f nm xs vs vt n kn y1 y2)::OB.row vs 22 1 (sk.map Zh)::OB.row vt 22 1 (tg.map Zh)::R))) ?_ fun a w h=>h
 refine ZI tb hJ [0,1000] [.ptr (itC x)] [0] [_,_] rfl ⟨fun _ _ hk hx hl _=>YP rfl (hl.env 1 1 _ rfl rfl) (Zr hS _ hk hx _ (Nat.le_refl _)) (jo hJ hx),trivial⟩ ?_
 refine Zw (snK 3 tb rfl ?_)
 refine Y7 (O:=[OB.var b (mkM d f nm xs vs vt n kn y1 y2),OB.row vs 22 1 (sk.map Zh)]) (R:=(OB.row vt 22 1 (tg.map Zh)::R)) (Zrq hJ (b:=b) (d:=d) (f:=f) (nm:=nm) (xs:=xs) (vs:=vs) (vt:=vt) (n:=n) (kn:=kn) (y1:=y1) (y2:=y2) (sk:=sk) (t:=x.text) sfz) ZfM rfl rfl rfl (lb rfl) hS hJ0 Zq (fun a w h=>(Za (h.get 2 rfl) (Za (h.get 0 rfl) Ze))) fun z1=>?_
 refine seK [1] [_] rfl ?_
 exact fun a w h=>lvP (Xt  ⟨(z1,(sk++[x.text])),by simp[Y4,hk]⟩ rfl h rfl)
theorem Zpp {J:World→Prop} (hJ:Stab J) (b:Nat) (d:Db) (f:Fr) (nm:Value) (xs:List Itm) (vs:Value) (vt:Value) (n:Nat) (kn:Bool) (y1:Int) (y2:Int) (sk:List (List ByteArray)) (tg:List (List ByteArray)) (xt:List ByteArray) (q:Nat) (xg:Bool) (hl:sk.length≤2000) (hn2:q<tg.length):FnP (ι:= {q':Value×List (List ByteArray) // Y4 d.frames d.vars f sk tg ⟨4,xt,(q:Int),xg⟩= .ok q'.2}) (κ:= {c:Int // Y4 d.frames d.vars f sk tg ⟨4,xt,(q:Int),xg⟩= .error c}) Tryz.prog J 117 [] [.at b 0,.agg [.lit (.int .i64 (4:Int)),Zb xt,.lit (.int .i64 (q:Int)),.lit (.bool xg)]] [OB.var b (mkM d f nm xs vs vt n kn y1 y2),OB.row vs 22 1 (sk.map Zh),OB.row vt 22 1 (tg.map Zh)] (fun _=>.tup []) (fun i'=>[OB.var b (mkC d f [.lit nm,XL xs,.lit (i'.1.1),.lit vt,.lit (.int .i64 (n:Int)),.lit (.bool kn),.lit (.int .i64 y1),.lit (.int .i64 y2)]),OB.row i'.1.1 22 1 ((i'.1.2).map Zh),OB.row vt 22 1 (tg.map Zh)]) (fun k'=>flV k'.1) (fun _=>[OB.var b (mkM d f nm xs vs vt n kn y1 y2),OB.row vs 22 1 (sk.map Zh),OB.row vt 22 1 (tg.map Zh)]):=by
 refine Qn (N:=14) Tryz.func117 rfl rfl (lb rfl) fun S w0 R hS hJ0 hH=>?_
 refine Z6 (B:=St All (SO S (OB.var b (mkM d f nm xs vs vt n kn y1 y2)::OB.row vs 22 1 (sk.map Zh)::OB.row vt 22 1 (tg.map Zh)::R)) w0 14 [(0,.at b 0),(1,.agg [.lit (.int .i64 (4:Int)),Zb xt,.lit (.int .i64 (q:Int)),.lit (.bool xg)])] (XO J S w0.heap.size (OB.var b (mkM d f nm xs vs vt n kn y1 y2)::OB.row vs 22 1 (sk.map Zh)::OB.row vt 22 1 (tg.map Zh)::R))) ?_ fun a w h=>h
 refine ZI tb hJ [0,1000] [.ptr [.lit (.int .i64 (4:Int)),Zb xt,.lit (.int .i64 (q:Int)),.lit (.bool xg)]] [0] [_,_] rfl ⟨fun _ _ hk hx hl _=>YP rfl (hl.env 1 1 _ rfl rfl) (Zr hS _ hk hx _ (Nat.le_refl _)) (jo hJ hx),trivial⟩ ?_
 refine fun a w h=>YO (γ:=Value) (fun ix'=>([.at b 0,.at b 0,.at b 0,.at b 14,.lit vt,.ptr [.lit (.int .i64 (q:Int)),.lit (.bool xg)],.int (q:Nat),.lit (X5 vt (q*1)),.rd (Zb (ge tg q)),.any]:List AV).getD ix' .any) (fun _=>true) [] (fun(j':Nat) (g:Value)=>match j' with | 0=>(OB.var b (mkM d f nm xs vs vt n kn y1 y2)::OB.row vs 22 1 (sk.map Zh)::OB.row vt 22 1 (tg.map Zh)::R) | _=>(OB.var b (mkM d f nm xs g vt n kn y1 y2)::OB.row g 22 1 ((sk++[(ge tg q)]).map Zh)::OB.row vt 22 1 (tg.map Zh)::R)) (fun(k':Nat) (g:Value)=>match k' with | 0=>(.tuple #[]) | _=>undef) [9] 0 (.slice none 0 0) (fun _=>rfl) h hJ Yh rfl rfl rfl rfl rfl rfl (fun j' g hj p hp=>by rcases j' with _ | _ | _ | j'<;>first | exact hp | exact List.mem_cons_of_mem _ hp | exact List.mem_cons_of_mem _ (List.mem_cons_of_mem _ hp) | (exfalso;omega)) ⟨?_,⟨?_,⟨?_,⟨?_,⟨?_,⟨?_,⟨?_,⟨?_,⟨?_,⟨?_,trivial⟩⟩⟩⟩⟩⟩⟩⟩⟩⟩ ⟨?e1_1_0,trivial⟩ trivial ?n1_1
 exact oX rfl fun hx hl=>Yk rfl (hl.env 0 0 _ rfl rfl) hx
 exact oX rfl fun hx hl=>Yk rfl (hl.env 0 0 _ rfl rfl) hx
 exact oX rfl fun hx hl=>Zk rfl (hl.D 1 5 rfl rfl) hx
 exact oX rfl fun hx hl=>Zm Za2 rfl (hl.D 2 6 rfl rfl) hx
 exact fun _ O' hO'=>⟨rfl,fun _ _ _ hx hl _=>Zo (cs:=(mkM d f nm xs vs vt n kn y1 y2)) QE rfl (Zd hx (hO' _ (mo 0 rfl))) (hl.D 3 7 rfl rfl) rfl hx⟩
 exact oX rfl fun hx hl=>ZT Zic rfl (hl.env 1 3 _ rfl rfl) hx
 exact oX rfl fun hx hl=>ZA ZbL rfl (hl.D 5 9 rfl rfl) hx
 exact fun _ O' hO'=>⟨rfl,fun _ _ _ hx hl _=>Y8 (i:=(q:Int)) Z0 rfl (Zd hx (hO' _ (mo 2 rfl))) (hl.D 4 8 rfl rfl) (hl.D 6 10 rfl rfl) (Int.natCast_nonneg _) (by rw[List.length_map];exact Int.ofNat_lt.2 sfz) hx⟩
 exact fun _ O' hO'=>⟨rfl,fun _ _ _ hx hl _=>Qx (i:=q) X7 rfl (Zd hx (hO' _ (mo 2 rfl))) (hl.D 7 11 rfl rfl) (Q7 (xs:=tg) (k:=q) sfz) hx⟩
 exact Zi rfl
 case e1_1_0=>exact⟨_,rfl,rfl,rfl,rfl,fun _ _ w hk hx hl _=>Zp (ZuR (O:=[OB.var b (mkM d f nm xs vs vt n kn y1 y2),OB.row vs 22 1 (sk.map Zh)]) (R:=(OB.row vt 22 1 (tg.map Zh)::R)) (Zrq hJ (b:=b) (d:=d) (f:=f) (nm:=nm) (xs:=xs) (vs:=vs) (vt:=vt) (n:=n) (kn:=kn) (y1:=y1) (y2:=y2) (sk:=sk) (t:=(ge tg q)) sfz) ZfM rfl hS hJ0 Zq hk hx (Za (hl.D 0 4 rfl rfl) (Za (hl.D 8 12 rfl rfl) Ze))) fun v w' ⟨i,hp,hv⟩=>⟨i,(by simp only[]),fun k' hk'=>absurd hk' (Nat.not_lt_zero _),fun _=>Zfj hv,hp⟩⟩
 clear a w h
 intro z1
 dsimp only[List.map]
 exact fun a w h=>lvP (Xt  ⟨(z1,(sk++[(ge tg q)])),by simp[Y4]⟩ rfl h rfl)
theorem ZsR {J:World→Prop} (hJ:Stab J) (b:Nat) (d:Db) (f:Fr) (nm:Value) (xs:List Itm) (vs:Value) (vt:Value) (n:Nat) (kn:Bool) (y1:Int) (y2:Int) (sk:List (List ByteArray)) (tg:List (List ByteArray)) (x:Itm) (hk:x.kind=2) (hn:0≤x.number) (hn2:x.number<d.frames.length) (hsk:∀ t∈sk,1≤t.length∧t.length≤2000) (hskl:sk.length≤2000) (hh:(ge d.frames x.number.toNat).hyps.length≤2000) (hf:∀ h∈(ge d.frames x.number.toNat).hyps,h.floating=true→h.text.length=2) (hwd:f.wide.length*32≤140737488351232):
 FnP (ι:= {q':Value×List (List ByteArray) // Y4 d.frames d.vars f sk tg x= .ok q'.2}) (κ:= {c:Int // Y4 d.frames d.vars f sk tg x= .error c}) Tryz.prog J 115 [] [.at b 0,.agg (itC x)] [OB.var b (mkM d f nm xs vs vt n kn y1 y2),OB.row vs 22 1 (sk.map Zh),OB.row vt 22 1 (tg.map Zh)] (fun _=>.tup []) (fun i'=>[OB.var b (mkC d f [.lit nm,XL xs,.lit (i'.1.1),.lit vt,.lit (.int .i64 (n:Int)),.lit (.bool kn),.lit (.int .i64 y1),.lit (.int .i64 y2)]),OB.row i'.1.1 22 1 ((i'.1.2).map Zh),OB.row vt 22 1 (tg.map Zh)]) (fun k'=>flV k'.1) (fun _=>[OB.var b (mkM d f nm xs vs vt n kn y1 y2),OB.row vs 22 1 (sk.map Zh),OB.row vt 22 1 (tg.map Zh)]):=by
 have e:Y4 d.frames d.vars f sk tg x=ZcY d.vars f.wide (ge d.frames x.number.toNat) sk:=by simp[Y4,hk]
 rw[e]
 exact FnP.frame [OB.row vt 22 1 (tg.map Zh)] (p_use hJ b d f nm xs vs vt n kn y1 y2 sk x (ge d.frames x.number.toNat) rfl hn hn2 hsk hskl hh hf hwd)
theorem ZsX {J:World→Prop} (hJ:Stab J) (b:Nat) (d:Db) (f:Fr) (nm:Value) (xs:List Itm) (vs:Value) (vt:Value) (n:Nat) (kn:Bool) (y1:Int) (y2:Int) (sk:List (List ByteArray))  :FnM (ι:=Unit) Tryz.prog J 90 [] [.at b 0] [OB.var b (mkM d f nm xs vs vt n kn y1 y2),OB.row vs 22 1 (sk.map Zh)] (fun _=>.tup []) (fun _=>[OB.var b (mkC d f [.lit nm,XL xs,.lit vs,.lit vt,.lit (.int .i64 (n:Int)),.lit (.bool (kn|| !decide (n<xs.length))),.lit (.int .i64 (if n<xs.length then y1 else(Zen f sk n).1)),.lit (.int .i64 (if n<xs.length then y2 else(Zen f sk n).2))]),OB.row vs 22 1 (sk.map Zh)]):=by
 refine ZX (N:=47) Tryz.func90 rfl rfl (lb rfl) fun S w0 R hS hJ0 hH=>?_
 refine Z6 (B:=St All (SO S (OB.var b (mkM d f nm xs vs vt n kn y1 y2)::OB.row vs 22 1 (sk.map Zh)::R)) w0 47 [(0,.at b 0)] (XO J S w0.heap.size (OB.var b (mkM d f nm xs vs vt n kn y1 y2)::OB.row vs 22 1 (sk.map Zh)::R))) ?_ fun a w h=>h
 refine Zj (ZI tb hJ [0,1007,1009] [_,.at b 0,.at b 15,.int (n:Nat),_,.at b 0,.at b 12,.rd (XL xs),.int (xs.length:Nat),_] [1,2,3,5,6,7,8] [_,_,_] rfl ⟨fun _ _ _ hx hl _=>Zk rfl (hl.D 0 2 rfl rfl) hx,fun _ _ _ hx hl _=>Zm YR rfl (hl.D 1 3 rfl rfl) hx,fun _ _ _ hx hl _=>Zo (cs:=(mkM d f nm xs vs vt n kn y1 y2)) ZbL rfl (Zd hx (mo 0 rfl)) (hl.D 2 4 rfl rfl) rfl hx,fun _ _ _ hx hl _=>Zk rfl (hl.D 4 6 rfl rfl) hx,fun _ _ _ hx hl _=>Zm ZH rfl (hl.D 5 7 rfl rfl) hx,fun _ _ _ hx hl _=>Zo (cs:=(mkM d f nm xs vs vt n kn y1 y2)) Qp rfl (Zd hx (mo 0 rfl)) (hl.D 6 8 rfl rfl) rfl hx,YG ZcH,trivial⟩ ?_)
 refine ln 1 fun hl1=>?_
 refine cj 2 (fun hb1=>?_) fun hb1=>?_
 try simp at hb1
 have e1:n<xs.length:=by omega
 refine tw (ob0 (show OB.var b (mkM d f nm xs vs vt n kn y1 y2)=OB.var b (mkC d f [.lit nm,XL xs,.lit vs,.lit vt,.lit (.int .i64 (n:Int)),.lit (.bool (kn|| !decide (n<xs.length))),.lit (.int .i64 (if n<xs.length then y1 else(Zen f sk n).1)),.lit (.int .i64 (if n<xs.length then y2 else(Zen f sk n).2))])from by simp[e1])) ?_
 exact Zg (fun a w h=>Xt  () rfl h rfl)
 try simp at hb1
 have e1:¬ n<xs.length:=by omega
 refine Zc (nx (Zf (ZrI tb hJ [0,1006] [_,.at b 0,.at b 13,.lit vs,.int (sk.length:Nat),_,_] [1,2,3,4] [_,_] rfl ⟨fun _ _ _ hx hl _=>Zk rfl (hl.D 0 15 rfl rfl) hx,fun _ _ _ hx hl _=>Zm Yn rfl (hl.D 1 16 rfl rfl) hx,fun _ _ _ hx hl _=>Zo (cs:=(mkM d f nm xs vs vt n kn y1 y2)) QE rfl (Zdf hx (mo 0 rfl)) (hl.D 2 17 rfl rfl) rfl hx,fun _ _ _ hx hl _=>ZaD Zam rfl (QR hS hx (mo 1 rfl) (hl.D 3 18 rfl rfl)) hx,trivial⟩ ?_)))
 refine cj 1 (fun hb2=>?_) fun hb2=>?_
 try simp at hb2
 have e2:¬ sk.length=1:=by omega
 refine Zw (snK 2 tb rfl ?_)
 refine sq (.at b 0) rfl rfl (lb rfl) (fun _ _ h=>Zk rfl (h.get 0 rfl) h.x) ?_
 refine sq (.at b 15) rfl rfl (lb rfl) (fun _ _ h=>Zm YR rfl (h.get 0 rfl) h.x) ?_
 refine sq (.int (n:Nat)) rfl rfl (lb rfl) (fun _ _ h=>Zo (cs:=(mkM d f nm xs vs vt n kn y1 y2)) ZbL rfl (Zd h.x (mo 0 rfl)) (h.get 0 rfl) rfl h.x) ?_
 refine Y7 (O:=[OB.var b (mkM d f nm xs vs vt n kn y1 y2)]) (R:=(OB.row vs 22 1 (sk.map Zh)::R)) (Zgq hJ (b:=b) (d:=d) (f:=f) (nm:=nm) (xs:=xs) (n:=n) (vs:=vs) (vt:=vt) (kn:=kn) (y1:=y1) (y2:=y2) (e:=(23:Int)) (p:=(n:Int)) ) Zeg rfl rfl rfl (lb rfl) hS hJ0 Zq (fun a w h=>(Za (h.get 4 rfl) (Za (Rel.of_lit (Go.Value.int Go.IntKind.i64 23)) (Za (h.get 0 rfl) Ze)))) fun _=>?_
 refine seK [] [] rfl ?_
 refine kw (ob0 (show OB.var b (mkC d f [.lit nm,XL xs,.lit vs,.lit vt,.lit (.int .i64 (n:Int)),.lit (.bool true),.lit (.int .i64 (23:Int)),.lit (.int .i64 (n:Int))])=OB.var b (mkC d f [.lit nm,XL xs,.lit vs,.lit vt,.lit (.int .i64 (n:Int)),.lit (.bool (kn|| !decide (n<xs.length))),.lit (.int .i64 (if n<xs.length then y1 else(Zen f sk n).1)),.lit (.int .i64 (if n<xs.length then y2 else(Zen f sk n).2))])from by simp[Zen,e1,e2])) ?_
 exact fun a w h=>Xt  () rfl h rfl
 try simp at hb2
 have e2:sk.length=1:=by omega
 refine ZI tb hJ [0,1005,1010,1013] [_,.at b 0,.at b 13,.lit vs,.lit (X5 vs (0*1)),.rd (Zb (ge sk 0)),_,.at b 0,.at b 3,.at b 7,.rd (Zb f.text),.bool (decide ((ge sk 0)=f.text)),_,_] [1,2,3,4,5,7,8,9,10,11] [_,_,_,_] rfl ⟨fun _ _ _ hx hl _=>Zk rfl (hl.D 0 28 rfl rfl) hx,fun _ _ _ hx hl _=>Zm Yn rfl (hl.D 1 29 rfl rfl) hx,fun _ _ _ hx hl _=>Zo (cs:=(mkM d f nm xs vs vt n kn y1 y2)) QE rfl (Zd hx (mo 0 rfl)) (hl.D 2 30 rfl rfl) rfl hx,fun _ _ _ hx hl _=>Y8 (i:=(0:Int)) Z0 rfl (Zd hx (mo 1 rfl)) (hl.D 3 31 rfl rfl) (Rel.of_lit (S:=fun _=>True) (Go.Value.int Go.IntKind.i64 0)) (Int.natCast_nonneg _) (by rw[List.length_map];exact Int.ofNat_lt.2 sfz) hx,fun _ _ _ hx hl _=>Qx (i:=0) X7 rfl (Zd hx (mo 1 rfl)) (hl.D 4 32 rfl rfl) (Q7 (xs:=sk) (k:=0) sfz) hx,fun _ _ _ hx hl _=>Zk rfl (hl.D 6 34 rfl rfl) hx,fun _ _ _ hx hl _=>Zm Qe rfl (hl.D 7 35 rfl rfl) hx,fun _ _ _ hx hl _=>Zm Ze5 rfl (hl.D 8 36 rfl rfl) hx,fun _ _ _ hx hl _=>Zo (cs:=(mkM d f nm xs vs vt n kn y1 y2)) X7 rfl (Zd hx (mo 0 rfl)) (hl.D 9 37 rfl rfl) rfl hx,iFo hS hJ (Zjb hJ (xs:=(ge sk 0)) (ys:=f.text) ) ZnV,trivial⟩ ?_
 refine ln 1 fun hl2=>?_
 refine ln 2 fun hl3=>?_
 refine cj 3 (fun hb3=>?_) fun hb3=>?_
 try simp at hb3
 refine Zw (snK 2 tb rfl ?_)
 refine sq (.at b 0) rfl rfl (lb rfl) (fun _ _ h=>Zk rfl (h.get 0 rfl) h.x) ?_
 refine sq (.at b 15) rfl rfl (lb rfl) (fun _ _ h=>Zm YR rfl (h.get 0 rfl) h.x) ?_
 refine sq (.int (n:Nat)) rfl rfl (lb rfl) (fun _ _ h=>Zo (cs:=(mkM d f nm xs vs vt n kn y1 y2)) ZbL rfl (Zd h.x (mo 0 rfl)) (h.get 0 rfl) rfl h.x) ?_
 refine Y7 (O:=[OB.var b (mkM d f nm xs vs vt n kn y1 y2)]) (R:=(OB.row vs 22 1 (sk.map Zh)::R)) (Zgq hJ (b:=b) (d:=d) (f:=f) (nm:=nm) (xs:=xs) (n:=n) (vs:=vs) (vt:=vt) (kn:=kn) (y1:=y1) (y2:=y2) (e:=(28:Int)) (p:=(n:Int)) ) Zeg rfl rfl rfl (lb rfl) hS hJ0 Zq (fun a w h=>(Za (h.get 4 rfl) (Za (Rel.of_lit (Go.Value.int Go.IntKind.i64 28)) (Za (h.get 0 rfl) Ze)))) fun _=>?_
 refine seK [] [] rfl ?_
 refine kw (ob0 (show OB.var b (mkC d f [.lit nm,XL xs,.lit vs,.lit vt,.lit (.int .i64 (n:Int)),.lit (.bool true),.lit (.int .i64 (28:Int)),.lit (.int .i64 (n:Int))])=OB.var b (mkC d f [.lit nm,XL xs,.lit vs,.lit vt,.lit (.int .i64 (n:Int)),.lit (.bool (kn|| !decide (n<xs.length))),.lit (.int .i64 (if n<xs.length then y1 else(Zen f sk n).1)),.lit (.int .i64 (if n<xs.length then y2 else(Zen f sk n).2))])from by simp[Zen,e1,e2,hb3])) ?_
 exact fun a w h=>Xt  () rfl h rfl
 try simp at hb3
 refine Zw (snK 1 tb rfl ?_)
 refine Y7 (O:=[OB.var b (mkM d f nm xs vs vt n kn y1 y2)]) (R:=(OB.row vs 22 1 (sk.map Zh)::R)) (Zgq hJ (b:=b) (d:=d) (f:=f) (nm:=nm) (xs:=xs) (n:=n) (vs:=vs) (vt:=vt) (kn:=kn) (y1:=y1) (y2:=y2) (e:=(0:Int)) (p:=(0:Int)) ) Zeg rfl rfl rfl (lb rfl) hS hJ0 Zq (fun a w h=>(Za (h.get 0 rfl) (Za (Rel.of_lit (Go.Value.int Go.IntKind.i64 0)) (Za (Rel.of_lit (Go.Value.int Go.IntKind.i64 0)) Ze)))) fun _=>?_
 refine seK [] [] rfl ?_
 refine kw (ob0 (show OB.var b (mkC d f [.lit nm,XL xs,.lit vs,.lit vt,.lit (.int .i64 (n:Int)),.lit (.bool true),.lit (.int .i64 (0:Int)),.lit (.int .i64 (0:Int))])=OB.var b (mkC d f [.lit nm,XL xs,.lit vs,.lit vt,.lit (.int .i64 (n:Int)),.lit (.bool (kn|| !decide (n<xs.length))),.lit (.int .i64 (if n<xs.length then y1 else(Zen f sk n).1)),.lit (.int .i64 (if n<xs.length then y2 else(Zen f sk n).2))])from by simp[Zen,e1,e2,hb3])) ?_
 exact fun a w h=>Xt  () rfl h rfl
theorem ZsU {J:World→Prop} (hJ:Stab J) (bx bm:Nat) (b:Nat) (d:Db) (f:Fr) (nm:Value) (xs:List Itm) (vs:Value) (vt:Value) (n:Nat) (kn:Bool) (y1:Int) (y2:Int) (sk:List (List ByteArray)) (tg:List (List ByteArray)) (x:Itm) (hsk:∀ t∈sk,1≤t.length∧t.length≤2000) (hskl:sk.length≤2000) (hfr:∀ g∈d.frames,okF g) (hwd:f.wide.length*32≤140737488351232) (hx:okI d.frames.length tg.length x):
 FnM (ι:=(GI d.frames d.vars f sk tg x vs)) Tryz.prog J 86 [] [.lit (.func (.func 91) #[] #[.pointer (some ⟨bx,0,none⟩),.pointer (some ⟨bm,0,none⟩)])] [OB.var bx [.lit (.int .i64 x.kind),Zb x.text,.lit (.int .i64 x.number),.lit (.bool x.tagged)],OB.var bm [.lit (.pointer (some ⟨b,0,none⟩))],OB.var b (mkM d f nm xs vs vt n kn y1 y2),OB.row vs 22 1 (sk.map Zh),OB.row vt 22 1 (tg.map Zh)] (fun i'=>.int i'.1.1) (fun i'=>[OB.var bx [.lit (.int .i64 x.kind),Zb x.text,.lit (.int .i64 x.number),.lit (.bool x.tagged)],OB.var bm [.lit (.pointer (some ⟨b,0,none⟩))],OB.var b (mkC d f [.lit nm,XL xs,.lit (i'.1.2.1),.lit vt,.lit (.int .i64 (n:Int)),.lit (.bool kn),.lit (.int .i64 y1),.lit (.int .i64 y2)]),OB.row i'.1.2.1 22 1 ((i'.1.2.2).map Zh),OB.row vt 22 1 (tg.map Zh)]):=by
 have hall:∃ fk:FuncId,([.lit (fnV 112),.lit (fnV 113),.lit (fnV 115),.lit (fnV 116),.lit (fnV 117)]:List CD)[x.kind.toNat]?=some (.lit (fnV fk))∧Zl Tryz.prog fk∧FnP (ι:= {q':Value×List (List ByteArray) // Y4 d.frames d.vars f sk tg x= .ok q'.2}) (κ:= {c:Int // Y4 d.frames d.vars f sk tg x= .error c}) Tryz.prog J fk [] [.at b 0,.agg (itC x)] [OB.var b (mkM d f nm xs vs vt n kn y1 y2),OB.row vs 22 1 (sk.map Zh),OB.row vt 22 1 (tg.map Zh)] (fun _=>.tup []) (fun i'=>[OB.var b (mkC d f [.lit nm,XL xs,.lit (i'.1.1),.lit vt,.lit (.int .i64 (n:Int)),.lit (.bool kn),.lit (.int .i64 y1),.lit (.int .i64 y2)]),OB.row i'.1.1 22 1 ((i'.1.2).map Zh),OB.row vt 22 1 (tg.map Zh)]) (fun k'=>flV k'.1) (fun _=>[OB.var b (mkM d f nm xs vs vt n kn y1 y2),OB.row vs 22 1 (sk.map Zh),OB.row vt 22 1 (tg.map Zh)]):=by
  have hk:x.kind=0∨x.kind=1∨x.kind=2∨x.kind=3∨x.kind=4:=by have:=hx.1;have:=hx.2.1;omega
  rcases hk with hk | hk | hk | hk | hk
  · exact⟨_,by rw[hk];rfl,Zs Tryz.func112 rfl rfl,ZsT hJ b d f nm xs vs vt n kn y1 y2 sk tg x hk⟩
  · exact⟨_,by rw[hk];rfl,Zs Tryz.func113 rfl rfl,ZsS hJ b d f nm xs vs vt n kn y1 y2 sk tg x hk hskl⟩
  · have h2:=hx.2.2.1 hk
    have hg:=hfr (ge d.frames x.number.toNat) (ZF (by omega))
    exact⟨_,by rw[hk];rfl,Zs Tryz.func115 rfl rfl,ZsR hJ b d f nm xs vs vt n kn y1 y2 sk tg x hk h2.1 h2.2 hsk hskl hg.1 hg.2 hwd⟩
  · exact⟨_,by rw[hk];rfl,Zs Tryz.func116 rfl rfl,ZsQ hJ b d f nm xs vs vt n kn y1 y2 sk tg x hk⟩
  · have h2:=hx.2.2.2 hk
    obtain⟨kd,xt,num,xg⟩:=x
    obtain rfl:kd=4:=hk
    obtain⟨q,rfl⟩:∃ q:Nat,num=(q:Int):=⟨num.toNat,by simp only at h2;omega⟩
    exact⟨_,by rfl,Zs Tryz.func117 rfl rfl,Zpp hJ b d f nm xs vs vt n kn y1 y2 sk tg xt q xg hskl (by simp only at h2;omega)⟩
 obtain⟨fk,h1,h2,h3⟩:=hall
 have h4:=Zgr (F:=91) (caps:=[.pointer (some ⟨bx,0,none⟩),.pointer (some ⟨bm,0,none⟩)]) hJ (ZsM hJ bx bm b x fk hx.1 h1 h2 h3) (Zs Tryz.func91 rfl rfl) (by intro v hv;simp at hv;rcases hv with rfl | rfl<;>exact True.intro)
 refine(h4.map (ι':=(GI d.frames d.vars f sk tg x vs)) (fun r=>match r with | .inl i=>⟨(0,i.1),.inl ⟨rfl,i.2⟩⟩ | .inr k=>⟨(k.1,vs,sk),.inr ⟨Zp1 k.2,k.2,rfl,rfl⟩⟩) ?_ ?_)
 · rintro(i | k)<;>rfl
 · rintro(i | k)<;>rfl
theorem p_step {J:World→Prop} (hJ:Stab J) (b:Nat) (d:Db) (f:Fr) (nm:Value) (xs:List Itm) (vs:Value) (vt:Value) (n:Nat) (kn:Bool) (y1:Int) (y2:Int) (sk:List (List ByteArray)) (tg:List (List ByteArray)) (hi:kn=false→n<xs.length∧okI d.frames.length tg.length (ge xs n)) (hsk:∀ t∈sk,1≤t.length∧t.length≤2000) (hskl:sk.length≤2000) (htg:tg.length≤2000) (hn:n≤2000) (hfr:∀ g∈d.frames,okF g) (hwd:f.wide.length*32≤140737488351232):FnM (ι:=Value×Value) Tryz.prog J 71 [] [.at b 0] [OB.var b (mkM d f nm xs vs vt n kn y1 y2),OB.row vs 22 1 (sk.map Zh),OB.row vt 22 1 (tg.map Zh)] (fun _=>.bool ((ZS d.frames d.vars f xs ⟨sk,tg,n,kn,(y1,y2),false⟩).did)) (fun i'=>[OB.var b (mkC d f [.lit nm,XL xs,.lit (i'.1),.lit (i'.2),.lit (.int .i64 (((ZS d.frames d.vars f xs ⟨sk,tg,n,kn,(y1,y2),false⟩).n:Nat):Int)),.lit (.bool ((ZS d.frames d.vars f xs ⟨sk,tg,n,kn,(y1,y2),false⟩).kn)),.lit (.int .i64 ((ZS d.frames d.vars f xs ⟨sk,tg,n,kn,(y1,y2),false⟩).v.1)),.lit (.int .i64 ((ZS d.frames d.vars f xs ⟨sk,tg,n,kn,(y1,y2),false⟩).v.2))]),OB.row i'.1 22 1 (((ZS d.frames d.vars f xs ⟨sk,tg,n,kn,(y1,y2),false⟩).sk).map Zh),OB.row i'.2 22 1 (((ZS d.frames d.vars f xs ⟨sk,tg,n,kn,(y1,y2),false⟩).tg).map Zh)]):=by
 refine ZX (N:=62) Tryz.func71 rfl rfl (lb rfl) fun S w0 R hS hJ0 hH=>?_
 refine Z6 (B:=St All (SO S (OB.var b (mkM d f nm xs vs vt n kn y1 y2)::OB.row vs 22 1 (sk.map Zh)::OB.row vt 22 1 (tg.map Zh)::R)) w0 62 [(0,.at b 0)] (XO J S w0.heap.size (OB.var b (mkM d f nm xs vs vt n kn y1 y2)::OB.row vs 22 1 (sk.map Zh)::OB.row vt 22 1 (tg.map Zh)::R))) ?_ fun a w h=>h
 refine tsq ?_
 refine ZhE (c:=.lit (.pointer (some ⟨b,0,none⟩))) hJ rfl rfl rfl (lb rfl) (fun a w h=>(h.get 0 rfl)) fun b1=>?_
 refine snK 1 tb rfl ?_
 refine seK [1] [_] rfl ?_
 refine nx (Zj (ZI tb hJ [0,1003] [.at b 0,.at b 0,.at b 16,.bool kn] [0,1,2,3] [_,_] rfl ⟨fun _ _ _ hx hl _=>Zo (cs:=[.lit (.pointer (some ⟨b,0,none⟩))]) ZU rfl (Zd hx (mo 0 rfl)) (hl.env 0 1 _ rfl rfl) rfl hx,fun _ _ _ hx hl _=>Zk rfl (hl.D 0 5 rfl rfl) hx,fun _ _ _ hx hl _=>Zm ZcS rfl (hl.D 1 6 rfl rfl) hx,fun _ _ _ hx hl _=>Zo (cs:=(mkM d f nm xs vs vt n kn y1 y2)) ZgC rfl (Zd hx (mo 1 rfl)) (hl.D 2 7 rfl rfl) rfl hx,trivial⟩ ?_))
 refine cj 1 (fun hb1=>?_) fun hb1=>?_
 ·
  try simp at hb1
  have e9:(ZS d.frames d.vars f xs ⟨sk,tg,n,kn,(y1,y2),false⟩)=⟨sk,tg,n,kn,(y1,y2),false⟩:=Zc8 hb1
  refine qso tb hJ [1000] [_] [_] ?_
  refine tw Zy ?_
  refine tw (ob0 (show OB.var b (mkM d f nm xs vs vt n kn y1 y2)=OB.var b (mkC d f [.lit nm,XL xs,.lit vs,.lit vt,.lit (.int .i64 (((ZS d.frames d.vars f xs ⟨sk,tg,n,kn,(y1,y2),false⟩).n:Nat):Int)),.lit (.bool ((ZS d.frames d.vars f xs ⟨sk,tg,n,kn,(y1,y2),false⟩).kn)),.lit (.int .i64 ((ZS d.frames d.vars f xs ⟨sk,tg,n,kn,(y1,y2),false⟩).v.1)),.lit (.int .i64 ((ZS d.frames d.vars f xs ⟨sk,tg,n,kn,(y1,y2),false⟩).v.2))])from by first | (rw[e9];done) | (rw[e9];by_cases hq:n+1<xs.length<;>simp[Zcq,hq,e0]))) ?_
  refine tw (ob1 (congrArg (fun z'=>OB.row vs 22 1 ((z').map Zh)) (show sk=((ZS d.frames d.vars f xs ⟨sk,tg,n,kn,(y1,y2),false⟩).sk)from by first | (rw[e9];done) | (rw[e9];exact e2.2) | (rw[e9];unfold Zcq;split<;>rfl)))) ?_
  refine tw (ob2 (congrArg (fun z'=>OB.row vt 22 1 ((z').map Zh)) (show tg=((ZS d.frames d.vars f xs ⟨sk,tg,n,kn,(y1,y2),false⟩).tg)from by first | (rw[e9];done) | (rw[e9];exact e2.2) | (rw[e9];unfold Zcq;split<;>rfl)))) ?_
  exact Zg (fun a w h=>ZQ  (m:=0) (vs,vt) rfl h rfl (eB (by first | (rw[e9];done) | (rw[e9];exact e2.2) | (rw[e9];unfold Zcq;split<;>rfl))))
 ·
  try simp at hb1
  have e0:kn=false:=by simpa using hb1
  have e1:=(hi e0).1
  have e3:=(hi e0).2
  refine Zc (nx (Zj (fun a w h=>YO (γ:=Nat) (fun ix'=>([.at b 0,.at b 0,.at b 12,.rd (XL xs),.at b 0,.at b 0,.at b 15,.int (n:Nat),.ptr (itC (ge xs n)),.agg (itC (ge xs n)),.any,.any]:List AV).getD ix' .any) (fun ix'=>([true,true,true,true,true,true,true,true,true,true,true,true]:List Bool).getD ix' true) [(1,fun(g:Nat)=>.at b1 0),(3,fun(g:Nat)=>.at g 0)] (fun(j':Nat) (g:Nat)=>match j' with | 0=>(OB.var b1 [.lit (.pointer (some ⟨b,0,none⟩))]::OB.var b (mkM d f nm xs vs vt n kn y1 y2)::OB.row vs 22 1 (sk.map Zh)::OB.row vt 22 1 (tg.map Zh)::R) | 1=>(OB.var g [.lit (.int .i64 0),Zb ([]:List ByteArray),.lit (.int .i64 0),.lit (.bool false)]::OB.var b1 [.lit (.pointer (some ⟨b,0,none⟩))]::OB.var b (mkM d f nm xs vs vt n kn y1 y2)::OB.row vs 22 1 (sk.map Zh)::OB.row vt 22 1 (tg.map Zh)::R) | _=>(OB.var g [.lit (.int .i64 ((ge xs n).kind)),Zb ((ge xs n).text),.lit (.int .i64 ((ge xs n).number)),.lit (.bool ((ge xs n).tagged))]::OB.var b1 [.lit (.pointer (some ⟨b,0,none⟩))]::OB.var b (mkM d f nm xs vs vt n kn y1 y2)::OB.row vs 22 1 (sk.map Zh)::OB.row vt 22 1 (tg.map Zh)::R)) (fun(k':Nat) (g:Nat)=>match k' with | 0=>(.pointer (some ⟨g,0,none⟩)) | 1=>undef | _=>undef) [10,11] 2 0 (fun _=>rfl) h hJ Yh rfl rfl rfl rfl rfl rfl (fun j' g hj p hp=>by rcases j' with _ | _ | _ | j'<;>first | exact hp | exact List.mem_cons_of_mem _ hp | exact List.mem_cons_of_mem _ (List.mem_cons_of_mem _ hp) | (exfalso;omega)) ⟨?o3_1_0,⟨?o3_1_1,⟨?o3_1_2,⟨?o3_1_3,⟨?o3_1_4,⟨?o3_1_5,⟨?o3_1_6,⟨?o3_1_7,⟨?o3_1_8,⟨?o3_1_9,⟨?o3_1_10,⟨?o3_1_11,trivial⟩⟩⟩⟩⟩⟩⟩⟩⟩⟩⟩⟩ ⟨?e3_1_0,⟨?e3_1_1,trivial⟩⟩ ⟨.old 0 1 _ rfl rfl,⟨.eff 0 10 3 (fun g=>(.pointer (some ⟨g,0,none⟩))) rfl rfl (fun _=>rfl) (fun _=>True.intro),trivial⟩⟩ ?n3_1)))
  exact fun _ O' hO'=>⟨rfl,fun _ _ _ hx hl _=>Zo (cs:=[.lit (.pointer (some ⟨b,0,none⟩))]) ZU rfl (Zd hx (hO' _ (mo 0 rfl))) (hl.env 0 1 _ rfl rfl) rfl hx⟩
  exact oX rfl fun hx hl=>Zk rfl (hl.D 0 9 rfl rfl) hx
  exact oX rfl fun hx hl=>Zm ZH rfl (hl.D 1 10 rfl rfl) hx
  exact fun _ O' hO'=>⟨rfl,fun _ _ _ hx hl _=>Zo (cs:=(mkM d f nm xs vs vt n kn y1 y2)) Qp rfl (Zd hx (hO' _ (mo 1 rfl))) (hl.D 2 11 rfl rfl) rfl hx⟩
  exact fun _ O' hO'=>⟨rfl,fun _ _ _ hx hl _=>Zo (cs:=[.lit (.pointer (some ⟨b,0,none⟩))]) ZU rfl (Zd hx (hO' _ (mo 0 rfl))) (hl.env 0 1 _ rfl rfl) rfl hx⟩
  exact oX rfl fun hx hl=>Zk rfl (hl.D 4 13 rfl rfl) hx
  exact oX rfl fun hx hl=>Zm YR rfl (hl.D 5 14 rfl rfl) hx
  exact fun _ O' hO'=>⟨rfl,fun _ _ _ hx hl _=>Zo (cs:=(mkM d f nm xs vs vt n kn y1 y2)) ZbL rfl (Zd hx (hO' _ (mo 1 rfl))) (hl.D 6 15 rfl rfl) rfl hx⟩
  exact oX rfl fun hx hl=>Yg (i:=(n:Int)) Yi rfl (hl.D 3 12 rfl rfl) (hl.D 7 16 rfl rfl) (Int.natCast_nonneg _) (Yy (xs:=xs) (k:=n) sfz) rfl hx
  exact oX rfl fun hx hl=>ZbH YU rfl (hl.D 8 17 rfl rfl) (Nat.le_refl _) hx
  exact Zi rfl
  exact Zi rfl
  case e3_1_0=>exact⟨_,rfl,rfl,rfl,rfl,fun g _ w hk hx _ _=>Zp (ZbM Zal hJ rfl hk hx) fun v w' ⟨g',hv,hp⟩=>⟨g',rfl,fun k' hk'=>absurd hk' (Nat.not_lt_zero _),fun _=>hv,hp⟩⟩
  case e3_1_1=>exact⟨_,rfl,rfl,rfl,rfl,fun g _ w hk hx hl hs=>(by obtain⟨us2,hv2,hr3⟩:=Zap (cs:=[.lit (.int .i64 ((ge xs n).kind)),Zb ((ge xs n).text),.lit (.int .i64 ((ge xs n).number)),.lit (.bool ((ge xs n).tagged))]) (hl.D 9 18 rfl rfl);exact Zp (XJ (S':=S) (off:=0) (cs:=[.lit (.int .i64 0),Zb ([]:List ByteArray),.lit (.int .i64 0),.lit (.bool false)]) (news:=[.lit (.int .i64 ((ge xs n).kind)),Zb ((ge xs n).text),.lit (.int .i64 ((ge xs n).number)),.lit (.bool ((ge xs n).tagged))]) (es:=[.lit (.int .i64 ((ge xs n).kind)),Zb ((ge xs n).text),.lit (.int .i64 ((ge xs n).number)),.lit (.bool ((ge xs n).tagged))]) (us:=us2) hJ hJ0 Xw rfl hk hx (ZdG (hs 0 10 _ 3 (by omega) rfl rfl rfl)) (by rw[hv2];rfl) hr3 (lb rfl) rfl) fun v w' hp=>⟨g,rfl,fun _ _=>rfl,fun e=>(by cases e),hp⟩)⟩
  clear a w h
  intro b2
  dsimp only[List.map]
  refine nx (Zj (tsq ?_))
  refine sq (.lit (.func (.func 91) #[] #[.pointer (some ⟨b2,0,none⟩),.pointer (some ⟨b1,0,none⟩)])) rfl rfl (lb rfl) (fun _ _ h=>ZdI (caps:=[(Go.Operand.tmp 3),(Go.Operand.tmp 1)]) rfl (map_cons (h.get 1 rfl).lit (map_cons (h.get 0 rfl).lit map_nil)) h.x) ?_
  refine Y7 (O:=[OB.var b2 [.lit (.int .i64 ((ge xs n).kind)),Zb ((ge xs n).text),.lit (.int .i64 ((ge xs n).number)),.lit (.bool ((ge xs n).tagged))],OB.var b1 [.lit (.pointer (some ⟨b,0,none⟩))],OB.var b (mkM d f nm xs vs vt n kn y1 y2),OB.row vs 22 1 (sk.map Zh),OB.row vt 22 1 (tg.map Zh)]) (R:=(R)) (ZsU hJ (bx:=b2) (bm:=b1) (b:=b) (d:=d) (f:=f) (nm:=nm) (xs:=xs) (vs:=vs) (vt:=vt) (n:=n) (kn:=kn) (y1:=y1) (y2:=y2) (sk:=sk) (tg:=tg) (x:=(ge xs n)) (by exact hsk) sfz (by exact hfr) (by exact hwd) (by exact e3)) ZnT rfl rfl rfl (lb rfl) hS hJ0 Zq (fun a w h=>(Za (h.get 0 rfl) Ze)) fun z3=>?_
  refine snK 1 tb rfl ?_
  refine seK [0,3,4] [_,_,_] rfl ?_
  refine nx (qso tb hJ [0,1,2,1001] [_,_] [_,_,_,_] ?_)
  refine cj 3 (fun hb2=>?_) fun hb2=>?_
  ·
   try simp at hb2
   have e2:=gi_err z3 hb2
   have e9:(ZS d.frames d.vars f xs ⟨sk,tg,n,kn,(y1,y2),false⟩)=⟨sk,tg,n,true,(z3.1.1,(n:Int)),false⟩:=Zdy e0 e2.1
   refine Zj (tw pm2 ?_)
   refine fun a w h=>YO (γ:=Unit) (fun ix'=>([.at b 0,.int z3.1.1,.at b 0,.at b 0,.at b 15,.int (n:Nat),.any]:List AV).getD ix' .any) (fun _=>true) [] (fun(j':Nat) (g:Unit)=>match j' with | 0=>(OB.var b (mkM d f nm xs z3.1.2.1 vt n kn y1 y2)::OB.var b2 [.lit (.int .i64 ((ge xs n).kind)),Zb ((ge xs n).text),.lit (.int .i64 ((ge xs n).number)),.lit (.bool ((ge xs n).tagged))]::OB.var b1 [.lit (.pointer (some ⟨b,0,none⟩))]::OB.row z3.1.2.1 22 1 (z3.1.2.2.map Zh)::OB.row vt 22 1 (tg.map Zh)::R) | _=>(OB.var b (mkC d f [.lit nm,XL xs,.lit z3.1.2.1,.lit vt,.lit (.int .i64 (n:Int)),.lit (.bool true),.lit (.int .i64 z3.1.1),.lit (.int .i64 (n:Int))])::OB.var b2 [.lit (.int .i64 ((ge xs n).kind)),Zb ((ge xs n).text),.lit (.int .i64 ((ge xs n).number)),.lit (.bool ((ge xs n).tagged))]::OB.var b1 [.lit (.pointer (some ⟨b,0,none⟩))]::OB.row z3.1.2.1 22 1 (z3.1.2.2.map Zh)::OB.row vt 22 1 (tg.map Zh)::R)) (fun(k':Nat) (g:Unit)=>match k' with | 0=>(.tuple #[]) | _=>undef) [6] 0 () (fun _=>rfl) h hJ Yh rfl rfl rfl rfl rfl rfl (fun j' g hj p hp=>by rcases j' with _ | _ | _ | j'<;>first | exact hp | exact List.mem_cons_of_mem _ hp | exact List.mem_cons_of_mem _ (List.mem_cons_of_mem _ hp) | (exfalso;omega)) ⟨?_,⟨?_,⟨?_,⟨?_,⟨?_,⟨?_,⟨?_,trivial⟩⟩⟩⟩⟩⟩⟩ ⟨?e6_2_0,trivial⟩ trivial ?n6_2
   exact fun _ O' hO'=>⟨rfl,fun _ _ _ hx hl _=>Zo (cs:=[.lit (.pointer (some ⟨b,0,none⟩))]) ZU rfl (Zd hx (hO' _ (mo 2 rfl))) (hl.env 1 1 _ rfl rfl) rfl hx⟩
   exact oX rfl fun hx hl=>Yk rfl (hl.env 0 4 _ rfl rfl) hx
   exact fun _ O' hO'=>⟨rfl,fun _ _ _ hx hl _=>Zo (cs:=[.lit (.pointer (some ⟨b,0,none⟩))]) ZU rfl (Zd hx (hO' _ (mo 2 rfl))) (hl.env 1 1 _ rfl rfl) rfl hx⟩
   exact oX rfl fun hx hl=>Zk rfl (hl.D 2 25 rfl rfl) hx
   exact oX rfl fun hx hl=>Zm YR rfl (hl.D 3 26 rfl rfl) hx
   exact fun _ O' hO'=>⟨rfl,fun _ _ _ hx hl _=>Zo (cs:=(mkM d f nm xs z3.1.2.1 vt n kn y1 y2)) ZbL rfl (Zd hx (hO' _ (mo 0 rfl))) (hl.D 4 27 rfl rfl) rfl hx⟩
   exact Zi rfl
   case e6_2_0=>exact⟨_,rfl,rfl,rfl,rfl,fun g _ w hk hx hl _=>Zp (ZuR (O:=[OB.var b (mkM d f nm xs z3.1.2.1 vt n kn y1 y2)]) (R:=(OB.var b2 [.lit (.int .i64 ((ge xs n).kind)),Zb ((ge xs n).text),.lit (.int .i64 ((ge xs n).number)),.lit (.bool ((ge xs n).tagged))]::OB.var b1 [.lit (.pointer (some ⟨b,0,none⟩))]::OB.row z3.1.2.1 22 1 (z3.1.2.2.map Zh)::OB.row vt 22 1 (tg.map Zh)::R)) (Zgq hJ (b:=b) (d:=d) (f:=f) (nm:=nm) (xs:=xs) (n:=n) (vs:=z3.1.2.1) (vt:=vt) (kn:=kn) (y1:=y1) (y2:=y2) (e:=z3.1.1) (p:=(n:Int)) ) Zeg rfl hS hJ0 Zq hk hx (Za (hl.D 0 23 rfl rfl) (Za (hl.D 1 24 rfl rfl) (Za (hl.D 5 28 rfl rfl) Ze)))) fun v w' ⟨i,hp,hv⟩=>⟨g,rfl,fun _ _=>rfl,fun _=>Zfj hv,hp⟩⟩
   clear a w h
   intro _
   dsimp only[List.map]
   refine nx (qso tb hJ [1000] [_] [_] ?_)
   refine tw pm1 ?_
   refine tw Zy ?_
   refine tw pm1 ?_
   refine tw Zy ?_
   refine tw (ob0 (show OB.var b (mkC d f [.lit nm,XL xs,.lit z3.1.2.1,.lit vt,.lit (.int .i64 (n:Int)),.lit (.bool true),.lit (.int .i64 z3.1.1),.lit (.int .i64 (n:Int))])=OB.var b (mkC d f [.lit nm,XL xs,.lit z3.1.2.1,.lit vt,.lit (.int .i64 (((ZS d.frames d.vars f xs ⟨sk,tg,n,kn,(y1,y2),false⟩).n:Nat):Int)),.lit (.bool ((ZS d.frames d.vars f xs ⟨sk,tg,n,kn,(y1,y2),false⟩).kn)),.lit (.int .i64 ((ZS d.frames d.vars f xs ⟨sk,tg,n,kn,(y1,y2),false⟩).v.1)),.lit (.int .i64 ((ZS d.frames d.vars f xs ⟨sk,tg,n,kn,(y1,y2),false⟩).v.2))])from by first | (rw[e9];done) | (rw[e9];by_cases hq:n+1<xs.length<;>simp[Zcq,hq,e0]))) ?_
   refine tw (ob1 (congrArg (fun z'=>OB.row z3.1.2.1 22 1 ((z').map Zh)) (show z3.1.2.2=((ZS d.frames d.vars f xs ⟨sk,tg,n,kn,(y1,y2),false⟩).sk)from by first | (rw[e9];done) | (rw[e9];exact e2.2) | (rw[e9];unfold Zcq;split<;>rfl)))) ?_
   refine tw (ob2 (congrArg (fun z'=>OB.row vt 22 1 ((z').map Zh)) (show tg=((ZS d.frames d.vars f xs ⟨sk,tg,n,kn,(y1,y2),false⟩).tg)from by first | (rw[e9];done) | (rw[e9];exact e2.2) | (rw[e9];unfold Zcq;split<;>rfl)))) ?_
   exact Zg (fun a w h=>ZQ  (m:=0) (z3.1.2.1,vt) rfl h rfl (eB (by first | (rw[e9];done) | (rw[e9];exact e2.2) | (rw[e9];unfold Zcq;split<;>rfl))))
  ·
   try simp at hb2
   have e2:=gi_ok z3 hb2
   have e4:=ZgP e2
   refine Zc (nx (Zj (ZI tb hJ [1,1001] [.at b2 3,.bool ((ge xs n).tagged)] [0,1] [_,_] rfl ⟨fun _ _ _ hx hl _=>Zm Y5 rfl (hl.env 2 3 _ rfl rfl) hx,fun _ _ _ hx hl _=>Zo (cs:=[.lit (.int .i64 ((ge xs n).kind)),Zb ((ge xs n).text),.lit (.int .i64 ((ge xs n).number)),.lit (.bool ((ge xs n).tagged))]) ZgC rfl (Zd hx (mo 0 rfl)) (hl.D 0 30 rfl rfl) rfl hx,trivial⟩ ?_)))
   refine cj 1 (fun hb3=>?_) fun hb3=>?_
   ·
    try simp at hb3
    have e9:(ZS d.frames d.vars f xs ⟨sk,tg,n,kn,(y1,y2),false⟩)=Zcq f xs.length ⟨z3.1.2.2,tg++[ge z3.1.2.2 ((z3.1.2.2.length:Int)-1).toNat],n+1,kn,(y1,y2),true⟩:=by rw[Zc7 e0 e2,if_pos hb3]
    refine tw pm2 ?_
    refine tw pm4 ?_
    refine fun a w h=>YH (OB.var b (mkM d f nm xs z3.1.2.1 vt n kn y1 y2)::OB.var b2 [.lit (.int .i64 ((ge xs n).kind)),Zb ((ge xs n).text),.lit (.int .i64 ((ge xs n).number)),.lit (.bool ((ge xs n).tagged))]::OB.var b1 [.lit (.pointer (some ⟨b,0,none⟩))]::OB.row z3.1.2.1 22 1 (z3.1.2.2.map Zh)::R) (γ:=Value) (fun ix'=>([.at b 0,.at b 0,.at b 0,.at b 14,.lit vt,.at b 0,.at b 0,.at b 13,.lit z3.1.2.1,.at b 0,.at b 0,.at b 13,.lit z3.1.2.1,.int (z3.1.2.2.length:Nat),.int ((z3.1.2.2.length:Int)-(1:Int)),.lit (X5 z3.1.2.1 ((((z3.1.2.2.length:Int)-(1:Int)).toNat)*1)),.rd (Zb (ge z3.1.2.2 (((z3.1.2.2.length:Int)-(1:Int)).toNat))),.rd (ZbW ([(ge z3.1.2.2 (((z3.1.2.2.length:Int)-(1:Int)).toNat))])),.any,.at b 0,.at b 14,.any]:List AV).getD ix' .any) (fun _=>true) [(1,fun(g:Value)=>.at b1 0)] (fun(j':Nat) (g:Value)=>match j' with | 0=>(OB.row vt 22 1 (tg.map Zh)::OB.var b (mkM d f nm xs z3.1.2.1 vt n kn y1 y2)::OB.var b2 [.lit (.int .i64 ((ge xs n).kind)),Zb ((ge xs n).text),.lit (.int .i64 ((ge xs n).number)),.lit (.bool ((ge xs n).tagged))]::OB.var b1 [.lit (.pointer (some ⟨b,0,none⟩))]::OB.row z3.1.2.1 22 1 (z3.1.2.2.map Zh)::R) | 1=>(OB.row g 22 1 ((tg++([(ge z3.1.2.2 (((z3.1.2.2.length:Int)-(1:Int)).toNat))])).map Zh)::OB.var b (mkM d f nm xs z3.1.2.1 vt n kn y1 y2)::OB.var b2 [.lit (.int .i64 ((ge xs n).kind)),Zb ((ge xs n).text),.lit (.int .i64 ((ge xs n).number)),.lit (.bool ((ge xs n).tagged))]::OB.var b1 [.lit (.pointer (some ⟨b,0,none⟩))]::OB.row z3.1.2.1 22 1 (z3.1.2.2.map Zh)::R) | _=>(OB.row g 22 1 ((tg++([(ge z3.1.2.2 (((z3.1.2.2.length:Int)-(1:Int)).toNat))])).map Zh)::OB.var b (mkM d f nm xs z3.1.2.1 g n kn y1 y2)::OB.var b2 [.lit (.int .i64 ((ge xs n).kind)),Zb ((ge xs n).text),.lit (.int .i64 ((ge xs n).number)),.lit (.bool ((ge xs n).tagged))]::OB.var b1 [.lit (.pointer (some ⟨b,0,none⟩))]::OB.row z3.1.2.1 22 1 (z3.1.2.2.map Zh)::R)) (fun(k':Nat) (g:Value)=>match k' with | 0=>g | 1=>undef | _=>undef) [18,21] 1 (.slice none 0 0) (fun _=>rfl) h hJ Yh rfl rfl rfl rfl rfl rfl (fun j' g hj p hp=>by rcases j' with _ | _ | _ | j'<;>first | exact hp | exact List.mem_cons_of_mem _ hp | exact List.mem_cons_of_mem _ (List.mem_cons_of_mem _ hp) | (exfalso;omega)) ⟨?_,⟨?_,⟨?_,⟨?_,⟨?_,⟨?_,⟨?_,⟨?_,⟨?_,⟨?_,⟨?_,⟨?_,⟨?_,⟨?_,⟨?_,⟨?_,⟨?_,⟨?_,⟨?_,⟨?_,⟨?_,⟨?_,trivial⟩⟩⟩⟩⟩⟩⟩⟩⟩⟩⟩⟩⟩⟩⟩⟩⟩⟩⟩⟩⟩⟩ ⟨?e9_3_0,⟨?e9_3_1,trivial⟩⟩ ⟨.old 0 1 _ rfl rfl,trivial⟩ ?n9_3
    exact fun _ O' hO'=>⟨rfl,fun _ _ _ hx hl _=>Zo (cs:=[.lit (.pointer (some ⟨b,0,none⟩))]) ZU rfl (Zd hx (hO' _ (mo 2 rfl))) (hl.env 0 1 _ rfl rfl) rfl hx⟩
    exact fun _ O' hO'=>⟨rfl,fun _ _ _ hx hl _=>Zo (cs:=[.lit (.pointer (some ⟨b,0,none⟩))]) ZU rfl (Zd hx (hO' _ (mo 2 rfl))) (hl.env 0 1 _ rfl rfl) rfl hx⟩
    exact oX rfl fun hx hl=>Zk rfl (hl.D 1 33 rfl rfl) hx
    exact oX rfl fun hx hl=>Zm Za2 rfl (hl.D 2 34 rfl rfl) hx
    exact fun _ O' hO'=>⟨rfl,fun _ _ _ hx hl _=>Zo (cs:=(mkM d f nm xs z3.1.2.1 vt n kn y1 y2)) QE rfl (Zd hx (hO' _ (mo 0 rfl))) (hl.D 3 35 rfl rfl) rfl hx⟩
    exact fun _ O' hO'=>⟨rfl,fun _ _ _ hx hl _=>Zo (cs:=[.lit (.pointer (some ⟨b,0,none⟩))]) ZU rfl (Zd hx (hO' _ (mo 2 rfl))) (hl.env 0 1 _ rfl rfl) rfl hx⟩
    exact oX rfl fun hx hl=>Zk rfl (hl.D 5 37 rfl rfl) hx
    exact oX rfl fun hx hl=>Zm Yn rfl (hl.D 6 38 rfl rfl) hx
    exact fun _ O' hO'=>⟨rfl,fun _ _ _ hx hl _=>Zo (cs:=(mkM d f nm xs z3.1.2.1 vt n kn y1 y2)) QE rfl (Zd hx (hO' _ (mo 0 rfl))) (hl.D 7 39 rfl rfl) rfl hx⟩
    exact fun _ O' hO'=>⟨rfl,fun _ _ _ hx hl _=>Zo (cs:=[.lit (.pointer (some ⟨b,0,none⟩))]) ZU rfl (Zd hx (hO' _ (mo 2 rfl))) (hl.env 0 1 _ rfl rfl) rfl hx⟩
    exact oX rfl fun hx hl=>Zk rfl (hl.D 9 41 rfl rfl) hx
    exact oX rfl fun hx hl=>Zm Yn rfl (hl.D 10 42 rfl rfl) hx
    exact fun _ O' hO'=>⟨rfl,fun _ _ _ hx hl _=>Zo (cs:=(mkM d f nm xs z3.1.2.1 vt n kn y1 y2)) QE rfl (Zd hx (hO' _ (mo 0 rfl))) (hl.D 11 43 rfl rfl) rfl hx⟩
    exact fun _ O' hO'=>⟨rfl,fun _ _ _ hx hl _=>Zde (by rw[List.length_map]) Zam rfl (Zd hx (hO' _ (mo 3 rfl))) (hl.D 12 44 rfl rfl) hx⟩
    exact oX rfl fun hx hl=>Zeu (i:=(z3.1.2.2.length:Int)) (j:=(1:Int)) rfl (hl.D 13 45 rfl rfl) (Rel.of_lit (Go.Value.int Go.IntKind.i64 1)) sfz sfz hx
    exact fun _ O' hO'=>⟨rfl,fun _ _ _ hx hl _=>Y8 (i:=(z3.1.2.2.length:Int)-(1:Int)) Z0 rfl (Zd hx (hO' _ (mo 3 rfl))) (hl.D 8 40 rfl rfl) (hl.D 14 46 rfl rfl) sfz (by rw[List.length_map];exact sfz) hx⟩
    exact fun _ O' hO'=>⟨rfl,fun _ _ _ hx hl _=>Qx (i:=((z3.1.2.2.length:Int)-(1:Int)).toNat) X7 rfl (Zd hx (hO' _ (mo 3 rfl))) (hl.D 15 47 rfl rfl) (Q7 (xs:=z3.1.2.2) (k:=((z3.1.2.2.length:Int)-(1:Int)).toNat) sfz) hx⟩
    exact oY rfl fun hk hx hl=>Yx Z0 Zdl rfl (hl.D 16 48 rfl rfl) (Zr hS _ hk hx _ (Nat.le_refl _)) (jo hJ hx)
    exact Zi rfl
    exact oX rfl fun hx hl=>Zk rfl (hl.D 0 32 rfl rfl) hx
    exact oX rfl fun hx hl=>Zm Za2 rfl (hl.D 19 51 rfl rfl) hx
    exact Zi rfl
    case e9_3_0=>exact⟨_,rfl,rfl,rfl,rfl,fun _ _ w hk hx hl _=>Zp (YS (f:=Zh) tg ([(ge z3.1.2.2 (((z3.1.2.2.length:Int)-(1:Int)).toNat))]) (fun _=>rfl) Zbp hJ hJ0 rfl hk hx (hl.D 4 36 rfl rfl).lit (hl.D 17 49 rfl rfl) sfz sfz) fun v w' hp=>⟨v,rfl,fun k' hk'=>absurd hk' (Nat.not_lt_zero _),fun _=>rfl,hp⟩⟩
    case e9_3_1=>exact⟨_,rfl,rfl,rfl,rfl,fun g _ w hk hx hl hs=>Zp (X2 (off:=14) (cs:=(mkM d f nm xs z3.1.2.1 vt n kn y1 y2)) (es:=(mkM d f nm xs z3.1.2.1 g n kn y1 y2)) (c:=.lit g) hJ hJ0 Zbb rfl hk hx (hl.D 20 52 rfl rfl) (by rw[(hs 0 18 _ 50 (by omega) rfl rfl rfl)];exact Rel.of_lit _ (Xh (hx.2.1 _ (mo 0 rfl)))) (lb rfl) rfl) fun v w' hp=>⟨g,rfl,fun _ _=>rfl,fun e=>(by cases e),hp⟩⟩
    clear a w h
    intro v4
    dsimp only[List.map]
    refine nx (tsq ?_)
    refine sq (.at b 0) rfl rfl (lb rfl) (fun _ _ h=>Zo (cs:=[.lit (.pointer (some ⟨b,0,none⟩))]) ZU rfl (Zd h.x (mo 3 rfl)) (h.get 0 rfl) rfl h.x) ?_
    refine sq (.at b 0) rfl rfl (lb rfl) (fun _ _ h=>Zk rfl (h.get 0 rfl) h.x) ?_
    refine sq (.at b 15) rfl rfl (lb rfl) (fun _ _ h=>Zm YR rfl (h.get 0 rfl) h.x) ?_
    refine sq (.int (n:Nat)) rfl rfl (lb rfl) (fun _ _ h=>Zo (cs:=(mkM d f nm xs z3.1.2.1 v4 n kn y1 y2)) ZbL rfl (Zd h.x (mo 1 rfl)) (h.get 0 rfl) rfl h.x) ?_
    refine sq (.int (n+1:Nat)) rfl rfl (lb rfl) (fun _ _ h=>Zgm (i:=(n:Int)) (j:=(1:Int)) rfl (h.get 0 rfl) (Rel.of_lit (Go.Value.int Go.IntKind.i64 1)) sfz sfz h.x) ?_
    refine sq (.at b 0) rfl rfl (lb rfl) (fun _ _ h=>Zk rfl (h.get 4 rfl) h.x) ?_
    refine sq (.at b 15) rfl rfl (lb rfl) (fun _ _ h=>Zm YR rfl (h.get 0 rfl) h.x) ?_
    refine kw pm1 ?_
    refine ZJ (b:=b) (off:=15) (cs:=(mkM d f nm xs z3.1.2.1 v4 n kn y1 y2)) (es:=(mkC d f [.lit nm,XL xs,.lit z3.1.2.1,.lit v4,.lit (.int .i64 ((n+1:Nat):Int)),.lit (.bool kn),.lit (.int .i64 y1),.lit (.int .i64 y2)])) hJ hJ0 QP rfl rfl rfl (lb rfl) rfl (fun a w h=>⟨(h.get 0 rfl),(h.get 2 rfl)⟩) ?_
    refine seK [7] [_] rfl ?_
    refine nx (tsq ?_)
    refine sq (.at b 0) rfl rfl (lb rfl) (fun _ _ h=>Zo (cs:=[.lit (.pointer (some ⟨b,0,none⟩))]) ZU rfl (Zd h.x (mo 3 rfl)) (h.get 0 rfl) rfl h.x) ?_
    refine kw pm3 ?_
    refine kw pm3 ?_
    refine kw pm3 ?_
    refine kw pm4 ?_
    refine kw pm4 ?_
    refine Y7 (O:=[OB.var b (mkC d f [.lit nm,XL xs,.lit z3.1.2.1,.lit v4,.lit (.int .i64 ((n+1:Nat):Int)),.lit (.bool kn),.lit (.int .i64 y1),.lit (.int .i64 y2)]),OB.row z3.1.2.1 22 1 (z3.1.2.2.map Zh)]) (R:=(OB.row v4 22 1 ((tg++([(ge z3.1.2.2 (((z3.1.2.2.length:Int)-(1:Int)).toNat))])).map Zh)::OB.var b2 [.lit (.int .i64 ((ge xs n).kind)),Zb ((ge xs n).text),.lit (.int .i64 ((ge xs n).number)),.lit (.bool ((ge xs n).tagged))]::OB.var b1 [.lit (.pointer (some ⟨b,0,none⟩))]::R)) (ZsX hJ (b:=b) (d:=d) (f:=f) (nm:=nm) (xs:=xs) (vs:=z3.1.2.1) (vt:=v4) (n:=(n+1)) (kn:=kn) (y1:=y1) (y2:=y2) (sk:=z3.1.2.2) ) Zii rfl rfl rfl (lb rfl) hS hJ0 Zq (fun a w h=>(Za (h.get 0 rfl) Ze)) fun _=>?_
    refine seK [] [] rfl ?_
    refine nx (qso tb hJ [1000] [_] [_] ?_)
    refine tw pm3 ?_
    refine tw Zy ?_
    refine tw pm3 ?_
    refine tw Zy ?_
    refine tw (ob0 (show OB.var b (mkC d f [.lit nm,XL xs,.lit z3.1.2.1,.lit v4,.lit (.int .i64 (((n+1):Nat):Int)),.lit (.bool (kn|| !decide ((n+1)<xs.length))),.lit (.int .i64 (if(n+1)<xs.length then y1 else(Zen f z3.1.2.2 (n+1)).1)),.lit (.int .i64 (if(n+1)<xs.length then y2 else(Zen f z3.1.2.2 (n+1)).2))])=OB.var b (mkC d f [.lit nm,XL xs,.lit z3.1.2.1,.lit v4,.lit (.int .i64 (((ZS d.frames d.vars f xs ⟨sk,tg,n,kn,(y1,y2),false⟩).n:Nat):Int)),.lit (.bool ((ZS d.frames d.vars f xs ⟨sk,tg,n,kn,(y1,y2),false⟩).kn)),.lit (.int .i64 ((ZS d.frames d.vars f xs ⟨sk,tg,n,kn,(y1,y2),false⟩).v.1)),.lit (.int .i64 ((ZS d.frames d.vars f xs ⟨sk,tg,n,kn,(y1,y2),false⟩).v.2))])from by first | (rw[e9];done) | (rw[e9];by_cases hq:n+1<xs.length<;>simp[Zcq,hq,e0]))) ?_
    refine tw (ob1 (congrArg (fun z'=>OB.row z3.1.2.1 22 1 ((z').map Zh)) (show z3.1.2.2=((ZS d.frames d.vars f xs ⟨sk,tg,n,kn,(y1,y2),false⟩).sk)from by first | (rw[e9];done) | (rw[e9];exact e2.2) | (rw[e9];unfold Zcq;split<;>rfl)))) ?_
    refine tw (ob2 (congrArg (fun z'=>OB.row v4 22 1 ((z').map Zh)) (show(tg++([(ge z3.1.2.2 (((z3.1.2.2.length:Int)-(1:Int)).toNat))]))=((ZS d.frames d.vars f xs ⟨sk,tg,n,kn,(y1,y2),false⟩).tg)from by first | (rw[e9];done) | (rw[e9];exact e2.2) | (rw[e9];unfold Zcq;split<;>rfl)))) ?_
    exact Zg (fun a w h=>ZQ  (m:=0) (z3.1.2.1,v4) rfl h rfl (eB (by first | (rw[e9];done) | (rw[e9];exact e2.2) | (rw[e9];unfold Zcq;split<;>rfl))))
   ·
    try simp at hb3
    have e9:(ZS d.frames d.vars f xs ⟨sk,tg,n,kn,(y1,y2),false⟩)=Zcq f xs.length ⟨z3.1.2.2,tg,n+1,kn,(y1,y2),true⟩:=by rw[Zc7 e0 e2,if_neg (by simp[hb3])]
    refine Zc (nx (tsq ?_))
    refine sq (.at b 0) rfl rfl (lb rfl) (fun _ _ h=>Zo (cs:=[.lit (.pointer (some ⟨b,0,none⟩))]) ZU rfl (Zd h.x (mo 1 rfl)) (h.get 0 rfl) rfl h.x) ?_
    refine sq (.at b 0) rfl rfl (lb rfl) (fun _ _ h=>Zk rfl (h.get 0 rfl) h.x) ?_
    refine sq (.at b 15) rfl rfl (lb rfl) (fun _ _ h=>Zm YR rfl (h.get 0 rfl) h.x) ?_
    refine sq (.int (n:Nat)) rfl rfl (lb rfl) (fun _ _ h=>Zo (cs:=(mkM d f nm xs z3.1.2.1 vt n kn y1 y2)) ZbL rfl (Zd h.x (mo 2 rfl)) (h.get 0 rfl) rfl h.x) ?_
    refine sq (.int (n+1:Nat)) rfl rfl (lb rfl) (fun _ _ h=>Zgm (i:=(n:Int)) (j:=(1:Int)) rfl (h.get 0 rfl) (Rel.of_lit (Go.Value.int Go.IntKind.i64 1)) sfz sfz h.x) ?_
    refine sq (.at b 0) rfl rfl (lb rfl) (fun _ _ h=>Zk rfl (h.get 4 rfl) h.x) ?_
    refine sq (.at b 15) rfl rfl (lb rfl) (fun _ _ h=>Zm YR rfl (h.get 0 rfl) h.x) ?_
    refine kw pm2 ?_
    refine ZJ (b:=b) (off:=15) (cs:=(mkM d f nm xs z3.1.2.1 vt n kn y1 y2)) (es:=(mkC d f [.lit nm,XL xs,.lit z3.1.2.1,.lit vt,.lit (.int .i64 ((n+1:Nat):Int)),.lit (.bool kn),.lit (.int .i64 y1),.lit (.int .i64 y2)])) hJ hJ0 QP rfl rfl rfl (lb rfl) rfl (fun a w h=>⟨(h.get 0 rfl),(h.get 2 rfl)⟩) ?_
    refine seK [7] [_] rfl ?_
    refine nx (tsq ?_)
    refine sq (.at b 0) rfl rfl (lb rfl) (fun _ _ h=>Zo (cs:=[.lit (.pointer (some ⟨b,0,none⟩))]) ZU rfl (Zd h.x (mo 2 rfl)) (h.get 0 rfl) rfl h.x) ?_
    refine kw pm4 ?_
    refine kw pm3 ?_
    refine kw pm3 ?_
    refine kw pm4 ?_
    refine kw pm4 ?_
    refine Y7 (O:=[OB.var b (mkC d f [.lit nm,XL xs,.lit z3.1.2.1,.lit vt,.lit (.int .i64 ((n+1:Nat):Int)),.lit (.bool kn),.lit (.int .i64 y1),.lit (.int .i64 y2)]),OB.row z3.1.2.1 22 1 (z3.1.2.2.map Zh)]) (R:=(OB.var b2 [.lit (.int .i64 ((ge xs n).kind)),Zb ((ge xs n).text),.lit (.int .i64 ((ge xs n).number)),.lit (.bool ((ge xs n).tagged))]::OB.var b1 [.lit (.pointer (some ⟨b,0,none⟩))]::OB.row vt 22 1 (tg.map Zh)::R)) (ZsX hJ (b:=b) (d:=d) (f:=f) (nm:=nm) (xs:=xs) (vs:=z3.1.2.1) (vt:=vt) (n:=(n+1)) (kn:=kn) (y1:=y1) (y2:=y2) (sk:=z3.1.2.2) ) Zii rfl rfl rfl (lb rfl) hS hJ0 Zq (fun a w h=>(Za (h.get 0 rfl) Ze)) fun _=>?_
    refine seK [] [] rfl ?_
    refine nx (qso tb hJ [1000] [_] [_] ?_)
    refine tw pm2 ?_
    refine tw Zy ?_
    refine tw pm2 ?_
    refine tw Zy ?_
    refine tw (ob0 (show OB.var b (mkC d f [.lit nm,XL xs,.lit z3.1.2.1,.lit vt,.lit (.int .i64 (((n+1):Nat):Int)),.lit (.bool (kn|| !decide ((n+1)<xs.length))),.lit (.int .i64 (if(n+1)<xs.length then y1 else(Zen f z3.1.2.2 (n+1)).1)),.lit (.int .i64 (if(n+1)<xs.length then y2 else(Zen f z3.1.2.2 (n+1)).2))])=OB.var b (mkC d f [.lit nm,XL xs,.lit z3.1.2.1,.lit vt,.lit (.int .i64 (((ZS d.frames d.vars f xs ⟨sk,tg,n,kn,(y1,y2),false⟩).n:Nat):Int)),.lit (.bool ((ZS d.frames d.vars f xs ⟨sk,tg,n,kn,(y1,y2),false⟩).kn)),.lit (.int .i64 ((ZS d.frames d.vars f xs ⟨sk,tg,n,kn,(y1,y2),false⟩).v.1)),.lit (.int .i64 ((ZS d.frames d.vars f xs ⟨sk,tg,n,kn,(y1,y2),false⟩).v.2))])from by first | (rw[e9];done) | (rw[e9];by_cases hq:n+1<xs.length<;>simp[Zcq,hq,e0]))) ?_
    refine tw (ob1 (congrArg (fun z'=>OB.row z3.1.2.1 22 1 ((z').map Zh)) (show z3.1.2.2=((ZS d.frames d.vars f xs ⟨sk,tg,n,kn,(y1,y2),false⟩).sk)from by first | (rw[e9];done) | (rw[e9];exact e2.2) | (rw[e9];unfold Zcq;split<;>rfl)))) ?_
    refine tw (ob2 (congrArg (fun z'=>OB.row vt 22 1 ((z').map Zh)) (show tg=((ZS d.frames d.vars f xs ⟨sk,tg,n,kn,(y1,y2),false⟩).tg)from by first | (rw[e9];done) | (rw[e9];exact e2.2) | (rw[e9];unfold Zcq;split<;>rfl)))) ?_
    exact Zg (fun a w h=>ZQ  (m:=0) (z3.1.2.1,vt) rfl h rfl (eB (by first | (rw[e9];done) | (rw[e9];exact e2.2) | (rw[e9];unfold Zcq;split<;>rfl))))
theorem Zhd:ZcX Tryz.prog 211 2:=⟨#[.slice none 0 0,.slice none 0 0],rfl,fun i=>some (i*1,1),fun j _=>(show some (j*1,1)=some (j,1) by rw[Nat.mul_one]),fun parts=>by kernel_rfl⟩
theorem Zoa:Zem Tryz.prog 84 [.string ⟨#[]⟩,.bool false,.slice none 0 0]:=⟨fun i=>(#[(0,1),(1,1),(2,1)]:Array (Nat×Nat))[i]?,fun j hj=>by rcases j with _ | _ | _ | j<;>first | rfl | (simp at hj;omega),fun parts=>by kernel_rfl⟩
theorem ZsJ {J:World→Prop} (hJ:Stab J) (l:List ByteArray)  :Fn Tryz.prog J 110 [.rd (Zb l)] (.bool (Zdv l)):=by
 refine Zu (N:=19) Tryz.func110 rfl rfl (lb rfl) fun S w0 hS hJ0=>?_
 refine tw Yj ?_
 refine ln 0 fun hl1=>?_
 refine qso tb hJ [0] [_] [_] ?_
 refine tsq ?_
 refine QC keyS hJ rfl rfl rfl (lb rfl) fun m1=>?_
 refine snK 1 tb rfl ?_
 refine seK [0,2] [_,_] rfl ?_
 refine nx (Zj (ZI tb hJ [0,1000,1001,1002] [_,.int (l.length:Nat),_] [1] [_,_,_,_] rfl ⟨YG Zv,trivial⟩ ?_))
 refine Zf (lpo (ι:=Nat×(List ByteArray)) (fun(k,ys)=>(k≤l.length)∧(ys=Qd (l.take k))∧(∀ j,j<k→¬ ge l j∈l.take j)) (fun(_,ys)=>[OB.set keyS m1 ys]) (fun(k,_)=>[(9,.int (k:Nat))]) (fun(k,_)=>l.length-k) [0,1,2,3] [_,_,_] (0,([]:List ByteArray)) ⟨Nat.zero_le _,rfl,fun j hj=>by omega⟩ ?_)
 rintro⟨k,ys⟩ ⟨f1_1,f1_2,f1_3⟩
 refine qso tb hJ [0,1,2,3,1000] [_] [_,_,_,_,_] ?_
 refine cjS 4 (fun hb1=>?_) fun hb1=>?_
 try simp at hb1
 refine Zc (nx (Zj (Zf (ZI tb hJ [0,1,2,3,1002] [.ptr [.lit (.string (ge l k))],_,_] [0] [_,_,_,_,_] rfl ⟨iIx Zn,trivial⟩ ?_))))
 refine Zj (ZI tb hJ [0,1,2,3,4,1002] [_,_,.bool (decide ((ge l k)∈ys))] [2] [_,_,_,_,_,_] rfl ⟨fun _ _ _ hx hl _=>Z8 (Kd:=keyS) (xs:=ys) Qc ZM (ge l k) rfl (Zd hx (mo 0 rfl)) (hl.D 0 13 rfl rfl) (hl.D 1 14 rfl rfl) hx,trivial⟩ ?_)
 refine cj 5 (fun hb2=>?_) fun hb2=>?_
 try simp at hb2
 refine qso tb hJ [1000] [_] [_] ?_
 exact Zg (Qw (m:=0) rfl rfl (eB (by rw[ZlA (by omega) (by rw[f1_2]at hb2;simpa [mem_lstL]using hb2)])))
 try simp at hb2
 refine Zc (nx (Zw (snK 2 tb rfl ?_)))
 refine Q0 Qc hJ hJ0 (ge l k) rfl rfl (.inl rfl) (fun a w h=>⟨(h.get 1 rfl),(h.get 0 rfl),(Rel.of_lit (Go.Value.bool true))⟩) ?_
 refine seK [2,3,4,5] [_,_,_,_] rfl ?_
 refine nx (YQ tb hJ [0,1,2,1001] [.int (k+1:Nat),_] [0] [_,_,_,_] rfl ⟨Yv,trivial⟩ ?_)
 exact Xi (k+1,XT ys (ge l k)) [0,1,2,3] ⟨by omega,by rw[ZgM (by omega),←f1_2],ZZ f1_3 (by rw[f1_2]at hb2;simpa [mem_lstL]using hb2)⟩
 try simp at hb1
 refine Zx (nx (qso tb hJ [1000] [_] [_] ?_))
 exact Zg (Qw (m:=0) rfl rfl (eB (by rw[ZoI fun j hj=>f1_3 j (by omega)])))
theorem p_Hyp {J:World→Prop} (hJ:Stab J) (f:Fr) (s:ByteArray) (ht:∀ h∈f.hyps++f.dummies,h.text.length≤2000):Fn Tryz.prog J 133 [.agg (frC f),.str s] (.tup [.agg (hyC ((ZcB f s).getD default)),.bool ((ZcB f s).isSome)]):=by
 refine Zu (N:=33) Tryz.func133 rfl rfl (lb rfl) fun S w0 hS hJ0=>?_
 refine tw Yj ?_
 refine tsq ?_
 refine sq (.ptr (frC f)) rfl rfl (lb rfl) (fun _ _ h=>YP rfl (h.get 0 rfl) (Zr hS _ h.keep h.x _ (Nat.le_refl _)) (jo hJ h.x)) ?_
 refine ZP Y2 hJ rfl rfl rfl (lb rfl) fun b1=>?_
 refine snK 1 tb rfl ?_
 refine seK [1,2,4] [_,_,_] rfl ?_
 refine nx (Zj (ZI tb hJ [0,2,1001,1003,1004,1005] [_,_,_,_,.agg [YW f.hyps,YW f.dummies],_] [4] [_,_,_,_,_,_] rfl ⟨fun a _ _ hx hl _=>ZbI (us:=[a.eval (Go.Operand.tmp 11),a.eval (Go.Operand.tmp 13)]) Zhd rfl (by simp) (Zz (hl.D 1 11 rfl rfl) (Zz (hl.D 3 13 rfl rfl) Yb)) rfl hx,trivial⟩ ?_))
 refine ln 2 fun hl1=>?_
 refine ln 3 fun hl2=>?_
 refine Zf (lpo (ι:=Nat) (fun k=>(k≤2)∧(∀ i,i<k→∀ h∈ZaB f.hyps f.dummies i,¬ h.label=s)) (fun _=>[OB.var b1 [.lit (.string (⟨#[]⟩:ByteArray)),.lit (.bool false),Zb ([]:List ByteArray)]]) (fun k=>[(15,.int (k:Nat))]) (fun k=>2-k) [0,1,4,5] [_,_,_] 0 ⟨Nat.zero_le _,fun i hi=>by omega⟩ ?_)
 rintro k ⟨f1_1,f1_2⟩
 refine qso tb hJ [0,1,2,3,1000] [_] [_,_,_,_,_] ?_
 refine cjS 4 (fun hb1=>?_) fun hb1=>?_
 try simp at hb1
 refine Zc (nx (Zj (Zf (ZI tb hJ [0,1,2,3,1000,1001] [.rd (YW (ZaB f.hyps f.dummies k)),_] [0] [_,_,_,_,_,_] rfl ⟨fun _ _ _ hx hl _=>Zi3 (c:=YW (ZaB f.hyps f.dummies k)) Zfe ZgD ZlW rfl (hl.env 2 14 _ rfl rfl) (hl.env 3 15 _ rfl rfl) (Int.natCast_nonneg _) rfl (two_at sfz) hx,trivial⟩ ?_))))
 refine ln 4 fun hl3=>?_
 refine ZI tb hJ [0,1,2,3,1000,1001,1002] [_,.int ((ZaB f.hyps f.dummies k).length:Nat),_] [1] [_,_,_,_,_,_,_] rfl ⟨YG ZN,trivial⟩ ?_
 refine Zf (lpo (ι:=Nat) (fun j=>(j≤(ZaB f.hyps f.dummies k).length)∧(∀ i,i<j→¬ (ge (ZaB f.hyps f.dummies k) i).label=s)) (fun _=>[OB.var b1 [.lit (.string (⟨#[]⟩:ByteArray)),.lit (.bool false),Zb ([]:List ByteArray)]]) (fun j=>[(20,.int (j:Nat))]) (fun j=>(ZaB f.hyps f.dummies k).length-j) [0,1,2,3,4,5,6] [_,_,_,_,_,_] 0 ⟨Nat.zero_le _,fun i hi=>by omega⟩ ?_)
 rintro j ⟨f2_1,f2_2⟩
 refine qso tb hJ [0,1,2,3,4,5,6,1000] [_] [_,_,_,_,_,_,_,_] ?_
 refine cjS 7 (fun hb2=>?_) fun hb2=>?_
 try simp at hb2
 refine Zc (nx (Zj (Zf (tsq ?_))))
 refine sq (.ptr (hyC (ge (ZaB f.hyps f.dummies k) j))) rfl rfl (lb rfl) (fun _ _ h=>Yg (i:=(j:Int)) ZR rfl (h.get 4 rfl) (h.get 6 rfl) (Int.natCast_nonneg _) (Yy (xs:=(ZaB f.hyps f.dummies k)) (k:=j) sfz) rfl h.x) ?_
 refine snK 1 tb rfl ?_
 refine Qi (cs:=hyC (ge (ZaB f.hyps f.dummies k) j)) Za9 rfl rfl rfl (lb rfl) rfl rfl rfl (by decide) (m:=0) rfl rfl (fun a w h=>Zr hS _ h.keep h.x _ (Nat.le_refl _)) (fun a w h w' hk'=>Yw hJ _ _ hk' h.x) ?_
 refine seK [0,3,4,5,6,7,8,9] [_,_,_,_,_,_,_,_] rfl ?_
 refine nx (qso tb hJ [0,1,2,3,4,5,6,7,1003] [_,_,_,_] [_,_,_,_,_,_,_,_,_] ?_)
 refine cj 8 (fun hb3=>?_) fun hb3=>?_
 try simp at hb3
 have e3:=Znn (by omega) f1_2 hb2 f2_2 hb3
 refine tsq ?_
 refine snK 1 tb rfl ?_
 refine sq (.agg (hyC (ge (ZaB f.hyps f.dummies k) j))) rfl rfl (lb rfl) (fun _ _ h=>ZeS (Zja hJ (y:=(ge (ZaB f.hyps f.dummies k) j)) (by have h9:=ht _ (Zsj (k:=k) (ZF hb2));omega)) Zn1 rfl (Zr hS _ h.keep h.x) (h.x.1) (Za (h.get 0 rfl) Ze) (jo hJ h.x)) ?_
 refine ZE (b:=b1) (off:=0) (cs:=[.lit (.string (⟨#[]⟩:ByteArray)),.lit (.bool false),Zb ([]:List ByteArray)]) (es:=[.lit (.string ((ge (ZaB f.hyps f.dummies k) j).label)),.lit (.bool ((ge (ZaB f.hyps f.dummies k) j).floating)),Zb ((ge (ZaB f.hyps f.dummies k) j).text)]) (news:=[.lit (.string ((ge (ZaB f.hyps f.dummies k) j).label)),.lit (.bool ((ge (ZaB f.hyps f.dummies k) j).floating)),Zb ((ge (ZaB f.hyps f.dummies k) j).text)]) hJ hJ0 Xp rfl rfl rfl (lb rfl) rfl (fun a w h=>⟨(h.get 3 rfl),(h.get 0 rfl)⟩) ?_
 refine snK 1 tb rfl ?_
 refine seK [0,4] [_,_] rfl ?_
 exact nx (Zg (fun a w h=>Zfv (cs:=[.lit (.string ((ge (ZaB f.hyps f.dummies k) j).label)),.lit (.bool ((ge (ZaB f.hyps f.dummies k) j).floating)),Zb ((ge (ZaB f.hyps f.dummies k) j).text)]) (m:=1) (q:=0) rfl Zbq h rfl rfl (show([.lit (.string ((ge (ZaB f.hyps f.dummies k) j).label)),.lit (.bool ((ge (ZaB f.hyps f.dummies k) j).floating)),Zb ((ge (ZaB f.hyps f.dummies k) j).text)]:List CD)=[.lit (.string (((ZcB f s).getD default).label)),.lit (.bool (((ZcB f s).getD default).floating)),Zb (((ZcB f s).getD default).text)]from by rw[e3];rfl) rfl (eB (by rw[e3];rfl))))
 try simp at hb3
 refine Zc (nx (YQ tb hJ [1,2,3,4,5,6,1001] [.int (j+1:Nat),_] [0] [_,_,_,_,_,_,_] rfl ⟨Yv,trivial⟩ ?_))
 exact Xi (j+1) [0,1,2,3,4,5,6] ⟨by omega,ZZ f2_2 hb3⟩
 try simp at hb2
 refine Zx (nx (YQ tb hJ [0,1,2,1001] [.int (k+1:Nat),_] [0] [_,_,_,_] rfl ⟨Yv,trivial⟩ ?_))
 exact Xi (k+1) [0,1,2,3] ⟨by omega,ZZ f1_2 fun h hm=>by obtain⟨i,hi,rfl⟩:=XQ hm;exact f2_2 i (by omega)⟩
 try simp at hb1
 refine Zx (nx (tsq ?_))
 refine sq (.agg (hyC (⟨⟨#[]⟩,false,[]⟩:Hy))) rfl rfl (lb rfl) (fun _ _ h=>Xk (ps:=[]) (us:=[.string ⟨#[]⟩,.bool false,.slice none 0 0]) Zoa rfl (by simp) ZjZ rfl (XU (.lit _ (Nat.zero_le _)) (XU (.lit _ True.intro) (XU (.nil _ _ (Nat.zero_le _)) Yb))) h.x) ?_
 refine ZE (b:=b1) (off:=0) (cs:=[.lit (.string (⟨#[]⟩:ByteArray)),.lit (.bool false),Zb ([]:List ByteArray)]) (es:=[.lit (.string ((⟨⟨#[]⟩,false,[]⟩:Hy).label)),.lit (.bool ((⟨⟨#[]⟩,false,[]⟩:Hy).floating)),Zb ((⟨⟨#[]⟩,false,[]⟩:Hy).text)]) (news:=[.lit (.string ((⟨⟨#[]⟩,false,[]⟩:Hy).label)),.lit (.bool ((⟨⟨#[]⟩,false,[]⟩:Hy).floating)),Zb ((⟨⟨#[]⟩,false,[]⟩:Hy).text)]) hJ hJ0 Xp rfl rfl rfl (lb rfl) rfl (fun a w h=>⟨(h.get 1 rfl),(h.get 0 rfl)⟩) ?_
 refine snK 1 tb rfl ?_
 refine seK [0,2] [_,_] rfl ?_
 exact nx (Zg (fun a w h=>Zfv (cs:=[.lit (.string ((⟨⟨#[]⟩,false,[]⟩:Hy).label)),.lit (.bool ((⟨⟨#[]⟩,false,[]⟩:Hy).floating)),Zb ((⟨⟨#[]⟩,false,[]⟩:Hy).text)]) (m:=1) (q:=0) rfl Zbq h rfl rfl (show([.lit (.string ((⟨⟨#[]⟩,false,[]⟩:Hy).label)),.lit (.bool ((⟨⟨#[]⟩,false,[]⟩:Hy).floating)),Zb ((⟨⟨#[]⟩,false,[]⟩:Hy).text)]:List CD)=[.lit (.string (((ZcB f s).getD default).label)),.lit (.bool (((ZcB f s).getD default).floating)),Zb (((ZcB f s).getD default).text)]from by rw[ZgW fun i hi=>f1_2 i (by omega)];rfl) rfl (eB (by rw[ZgW fun i hi=>f1_2 i (by omega)];rfl))))
theorem Qg:Zem Tryz.prog 147 [.int .i64 0,.slice none 0 0,.int .i64 0,.bool false]:=⟨fun i=>(#[(0,1),(1,1),(2,1),(3,1)]:Array (Nat×Nat))[i]?,fun j hj=>by rcases j with _ | _ | _ | _ | j<;>first | rfl | (simp at hj;omega),fun parts=>by kernel_rfl⟩
theorem ZmB {J:World→Prop} (hJ:Stab J) (b:Nat) (d:Db) (f:Fr) (M:Nat) (L:List (ByteArray×Int)) (vi:Value) (vs:Value) (vt:Value) (n:Nat) (kn:Bool) (y1:Int) (y2:Int) (s:ByteArray) (ht:∀ h∈f.hyps++f.dummies,h.text.length≤2000):FnR Tryz.prog J 106 [OB.var b (mkR d f M vi vs vt n kn y1 y2),OB.mI M L] [.at b 0,.str s] (.agg (itC (ZY f L s))):=by
 refine Z9 (N:=38) Tryz.func106 rfl rfl (lb rfl) fun S w0 hS hJ0 hH=>?_
 refine tw Yj ?_
 refine tsq ?_
 refine ZP Zal hJ rfl rfl rfl (lb rfl) fun b1=>?_
 refine seK [0,1,2] [_,_,_] rfl ?_
 refine nx (Zj (qso tb hJ [0,1,2,1001] [_,_] [_,_,_,_] ?_))
 refine cj 3 (fun hb1=>?_) fun hb1=>?_
 try simp at hb1
 refine tsq ?_
 refine sq (.agg (itC (⟨(0:Int),[],0,false⟩:Itm))) rfl rfl (lb rfl) (fun a _ h=>Xk (ps:=[(0,a.eval (Go.Operand.const (Go.Value.int Go.IntKind.i64 0)))]) (us:=[a.eval (Go.Operand.const (Go.Value.int Go.IntKind.i64 0)),.slice none 0 0,.int .i64 0,.bool false]) Qg rfl (by simp) (ZjY (lb rfl) rfl ZjZ) rfl (Zz (Rel.of_lit (Go.Value.int Go.IntKind.i64 0)) (XU (.nil _ _ (Nat.zero_le _)) (XU (.lit _ True.intro) (XU (.lit _ True.intro) Yb)))) h.x) ?_
 refine ZE (b:=b1) (off:=0) (cs:=[.lit (.int .i64 0),Zb ([]:List ByteArray),.lit (.int .i64 0),.lit (.bool false)]) (es:=[.lit (.int .i64 (0:Int)),Zb ([]:List ByteArray),.lit (.int .i64 (0:Int)),.lit (.bool false)]) (news:=[.lit (.int .i64 (0:Int)),Zb ([]:List ByteArray),.lit (.int .i64 (0:Int)),.lit (.bool false)]) hJ hJ0 Xw rfl rfl rfl (lb rfl) rfl (fun a w h=>⟨(h.get 1 rfl),(h.get 0 rfl)⟩) ?_
 refine seK [1] [_] rfl ?_
 exact nx (Zg (fun a w h=>QW (cs:=[.lit (.int .i64 (0:Int)),Zb ([]:List ByteArray),.lit (.int .i64 (0:Int)),.lit (.bool false)]) (m:=0) rfl YU h rfl rfl (show([.lit (.int .i64 (0:Int)),Zb ([]:List ByteArray),.lit (.int .i64 (0:Int)),.lit (.bool false)]:List CD)=[.lit (.int .i64 ((ZY f L s).kind)),Zb ((ZY f L s).text),.lit (.int .i64 ((ZY f L s).number)),.lit (.bool ((ZY f L s).tagged))]from by first | (rw[ZmY hb1];done) | (rw[ZmY hb1];rfl))))
 try simp at hb1
 refine Zc (nx (Zj (tsq ?_)))
 refine snK 1 tb rfl ?_
 refine sq (.at b 0) rfl rfl (lb rfl) (fun _ _ h=>Zk rfl (h.get 0 rfl) h.x) ?_
 refine sq (.at b 3) rfl rfl (lb rfl) (fun _ _ h=>Zm Qe rfl (h.get 0 rfl) h.x) ?_
 refine sq (.agg (frC f)) rfl rfl (lb rfl) (fun _ _ h=>YI (cs:=(mkR d f M vi vs vt n kn y1 y2)) (ds:=[.lit (.string f.label),.lit (.bool f.thm),YW f.hyps,Xm f.apart,Zb f.text,YW f.dummies,Xm f.wide,Zb f.proof]) ZfX rfl (Yf hH h.keep h.x (mo 0 rfl)) (h.get 0 rfl) rfl rfl h.x) ?_
 refine snK 1 tb rfl ?_
 refine sq (.tup [.agg (hyC ((ZcB f s).getD default)),.bool ((ZcB f s).isSome)]) rfl rfl (lb rfl) (fun _ _ h=>ZeS (p_Hyp hJ (f:=f) (s:=s) sfz) ZqE rfl (Zr hS _ h.keep h.x) (h.x.1) (Za (h.get 1 rfl) (Za (h.get 0 rfl) Ze)) (jo hJ h.x)) ?_
 refine snK 3 tb rfl ?_
 refine Qi (cs:=hyC ((ZcB f s).getD default)) Za9 rfl rfl rfl (lb rfl) rfl rfl rfl (by decide) (m:=1) rfl rfl (fun a w h=>Zr hS _ h.keep h.x _ (Nat.le_refl _)) (fun a w h w' hk'=>Yw hJ _ _ hk' h.x) ?_
 refine snK 1 tb rfl ?_
 refine seK [0,1,11,12,13] [_,_,_,_,_] rfl ?_
 refine nx (qso tb hJ [1,2,3,4,1000] [_] [_,_,_,_,_] ?_)
 refine cj 4 (fun hb2=>?_) fun hb2=>?_
 try simp at hb2
 refine tsq ?_
 refine snK 2 tb rfl ?_
 refine sq (.agg (itC (⟨(1:Int),((ZcB f s).getD default).text,0,false⟩:Itm))) rfl rfl (lb rfl) (fun a _ h=>Xk (ps:=[(0,a.eval (Go.Operand.const (Go.Value.int Go.IntKind.i64 1))),(1,a.eval (Go.Operand.tmp 23))]) (us:=[a.eval (Go.Operand.const (Go.Value.int Go.IntKind.i64 1)),a.eval (Go.Operand.tmp 23),.int .i64 0,.bool false]) Qg rfl (by simp) (ZjY (lb rfl) rfl (ZjY (lb rfl) (Rel.oneC (h.get 0 rfl)) ZjZ)) rfl (Zz (Rel.of_lit (Go.Value.int Go.IntKind.i64 1)) (Zz (h.get 0 rfl) (XU (.lit _ True.intro) (XU (.lit _ True.intro) Yb)))) h.x) ?_
 refine ZE (b:=b1) (off:=0) (cs:=[.lit (.int .i64 0),Zb ([]:List ByteArray),.lit (.int .i64 0),.lit (.bool false)]) (es:=[.lit (.int .i64 (1:Int)),Zb (((ZcB f s).getD default).text),.lit (.int .i64 (0:Int)),.lit (.bool false)]) (news:=[.lit (.int .i64 (1:Int)),Zb (((ZcB f s).getD default).text),.lit (.int .i64 (0:Int)),.lit (.bool false)]) hJ hJ0 Xw rfl rfl rfl (lb rfl) rfl (fun a w h=>⟨(h.get 4 rfl),(h.get 0 rfl)⟩) ?_
 refine seK [1,4] [_,_] rfl ?_
 refine nx (ln 0 fun hl1=>?_)
 exact Zg (fun a w h=>QW (cs:=[.lit (.int .i64 (1:Int)),Zb (((ZcB f s).getD default).text),.lit (.int .i64 (0:Int)),.lit (.bool false)]) (m:=1) rfl YU h rfl rfl (show([.lit (.int .i64 (1:Int)),Zb (((ZcB f s).getD default).text),.lit (.int .i64 (0:Int)),.lit (.bool false)]:List CD)=[.lit (.int .i64 ((ZY f L s).kind)),Zb ((ZY f L s).text),.lit (.int .i64 ((ZY f L s).number)),.lit (.bool ((ZY f L s).tagged))]from by first | (rw[ZmX hb1 (by simp[hb2])];done) | (rw[ZmX hb1 (by simp[hb2])];rfl)))
 try simp at hb2
 refine Zc (nx (Zj (ZI tb hJ [1,1009,1010] [_,.at b 0,.at b 11,.lit (.map (some M)),_,.tup [.int ((ZB L s).getD default),.bool ((ZB L s).isSome)],_,_,_,_,_] [1,2,3,5] [_,_,_] rfl ⟨fun _ _ _ hx hl _=>Zk rfl (hl.D 0 26 rfl rfl) hx,fun _ _ _ hx hl _=>Zm ZcT rfl (hl.D 1 27 rfl rfl) hx,fun _ _ hk hx hl _=>Zo (cs:=(mkR d f M vi vs vt n kn y1 y2)) Zrv rfl (Yf hH hk hx (mo 0 rfl)) (hl.D 2 28 rfl rfl) rfl hx,fun _ _ hk hx hl _=>XE (Kd:=keyS) (f:=(fun z':Int=>AV.int z')) (L:=L) Zav Zdp s rfl (Yf hH hk hx (mo 1 rfl)) (hl.D 3 29 rfl rfl) (hl.D 4 30 rfl rfl) hx,trivial⟩ ?_)))
 refine qso tb hJ [0,1,1000] [_] [_,_,_] ?_
 refine cj 2 (fun hb3=>?_) fun hb3=>?_
 try simp at hb3
 refine tsq ?_
 refine snK 1 tb rfl ?_
 refine sq (.agg (itC (⟨(2:Int),[],((ZB L s).getD default),false⟩:Itm))) rfl rfl (lb rfl) (fun a _ h=>Xk (ps:=[(0,a.eval (Go.Operand.const (Go.Value.int Go.IntKind.i64 2))),(2,a.eval (Go.Operand.tmp 35))]) (us:=[a.eval (Go.Operand.const (Go.Value.int Go.IntKind.i64 2)),.slice none 0 0,a.eval (Go.Operand.tmp 35),.bool false]) Qg rfl (by simp) (ZjY (lb rfl) rfl (ZjY (lb rfl) (Rel.oneC (h.get 0 rfl)) ZjZ)) rfl (Zz (Rel.of_lit (Go.Value.int Go.IntKind.i64 2)) (XU (.nil _ _ (Nat.zero_le _)) (Zz (h.get 0 rfl) (XU (.lit _ True.intro) Yb)))) h.x) ?_
 refine ZE (b:=b1) (off:=0) (cs:=[.lit (.int .i64 0),Zb ([]:List ByteArray),.lit (.int .i64 0),.lit (.bool false)]) (es:=[.lit (.int .i64 (2:Int)),Zb ([]:List ByteArray),.lit (.int .i64 ((ZB L s).getD default)),.lit (.bool false)]) (news:=[.lit (.int .i64 (2:Int)),Zb ([]:List ByteArray),.lit (.int .i64 ((ZB L s).getD default)),.lit (.bool false)]) hJ hJ0 Xw rfl rfl rfl (lb rfl) rfl (fun a w h=>⟨(h.get 2 rfl),(h.get 0 rfl)⟩) ?_
 refine seK [2] [_] rfl ?_
 exact nx (Zg (fun a w h=>QW (cs:=[.lit (.int .i64 (2:Int)),Zb ([]:List ByteArray),.lit (.int .i64 ((ZB L s).getD default)),.lit (.bool false)]) (m:=0) rfl YU h rfl rfl (show([.lit (.int .i64 (2:Int)),Zb ([]:List ByteArray),.lit (.int .i64 ((ZB L s).getD default)),.lit (.bool false)]:List CD)=[.lit (.int .i64 ((ZY f L s).kind)),Zb ((ZY f L s).text),.lit (.int .i64 ((ZY f L s).number)),.lit (.bool ((ZY f L s).tagged))]from by first | (rw[ZmW hb1 (by simp[hb2]) (by simp[hb3])];done) | (rw[ZmW hb1 (by simp[hb2]) (by simp[hb3])];rfl))))
 try simp at hb3
 refine Zc (nx (tsq ?_))
 refine sq (.agg (itC (⟨(3:Int),[],0,false⟩:Itm))) rfl rfl (lb rfl) (fun a _ h=>Xk (ps:=[(0,a.eval (Go.Operand.const (Go.Value.int Go.IntKind.i64 3)))]) (us:=[a.eval (Go.Operand.const (Go.Value.int Go.IntKind.i64 3)),.slice none 0 0,.int .i64 0,.bool false]) Qg rfl (by simp) (ZjY (lb rfl) rfl ZjZ) rfl (Zz (Rel.of_lit (Go.Value.int Go.IntKind.i64 3)) (XU (.nil _ _ (Nat.zero_le _)) (XU (.lit _ True.intro) (XU (.lit _ True.intro) Yb)))) h.x) ?_
 refine ZE (b:=b1) (off:=0) (cs:=[.lit (.int .i64 0),Zb ([]:List ByteArray),.lit (.int .i64 0),.lit (.bool false)]) (es:=[.lit (.int .i64 (3:Int)),Zb ([]:List ByteArray),.lit (.int .i64 (0:Int)),.lit (.bool false)]) (news:=[.lit (.int .i64 (3:Int)),Zb ([]:List ByteArray),.lit (.int .i64 (0:Int)),.lit (.bool false)]) hJ hJ0 Xw rfl rfl rfl (lb rfl) rfl (fun a w h=>⟨(h.get 1 rfl),(h.get 0 rfl)⟩) ?_
 refine seK [1] [_] rfl ?_
 exact nx (Zg (fun a w h=>QW (cs:=[.lit (.int .i64 (3:Int)),Zb ([]:List ByteArray),.lit (.int .i64 (0:Int)),.lit (.bool false)]) (m:=0) rfl YU h rfl rfl (show([.lit (.int .i64 (3:Int)),Zb ([]:List ByteArray),.lit (.int .i64 (0:Int)),.lit (.bool false)]:List CD)=[.lit (.int .i64 ((ZY f L s).kind)),Zb ((ZY f L s).text),.lit (.int .i64 ((ZY f L s).number)),.lit (.bool ((ZY f L s).tagged))]from by first | (rw[ZmV hb1 (by simp[hb2]) (by simp[hb3])];done) | (rw[ZmV hb1 (by simp[hb2]) (by simp[hb3])];rfl))))
end Go.Proofs.YtapelgeodldlcaaGreatDoor
