/-
  DERIVED: the shelf's contracts at this dump, in plain words.
  THE ENGINE: a row of structs that is made; two results out of variables; texts of a row.
  CONTRACT of the library: a row of pairs is sorted.
  CONTRACT of the program: pairs in order.
  CONTRACT of the program: what a use breaks.
  THE ENGINE: a drawn region in which operations turn what is owned, or end with a panic.
  CONTRACTS of the program: what a proof's words mean.
-/
import Derived.Shelf.SlSortCmp.WholeK
import Derived.Shelf.SlSortCmp.NoneTotal
import Derived.Ground.SlsfProg
import Derived.Test.YtdfadihhfppjaaaGreatDoorQW
namespace Go.Proofs
open Go.Shelf
def Tryz.sortP_ren:Go.Shelf.Ren:=⟨fun | 6=>145 | 15=>151 | 14=>188 | 28=>197 | 29=>198 | 20=>221 | 21=>222 | 22=>223 | 23=>224 | 24=>225 | 25=>226 | 26=>227 | 27=>228 | 46=>249 | 47=>230 | 48=>231 | 49=>250 | 50=>251 | 57=>262 | n=>n,fun | 22=>70 | 24=>162 | 25=>202 | 3=>3 | 39=>230 | 0=>0 | 53=>266 | 55=>268 | 4=>4 | 46=>260 | 45=>259 | 50=>172 | 5=>5 | 9=>9 | 66=>294 | 70=>298 | 76=>313 | 77=>314 | n=>n,fun | n=>n⟩
theorem Tryz.sortP:Go.Proofs.SlLaysF0.n6 Tryz.prog Tryz.sortP_ren:= {
 mixed:=by kernel_rfl
 f6:=⟨Tryz.f145.name,by decide,Tryz.func145.trans (congrArg some (by kernel_rfl))⟩
 f14:=⟨Tryz.f188.name,by decide,Tryz.func188.trans (congrArg some (by kernel_rfl))⟩
 f15:=Tryz.func151.trans (congrArg some (by kernel_rfl))
 f20:=⟨Tryz.f221.name,by decide,Tryz.func221.trans (congrArg some (by kernel_rfl))⟩
 f21:=⟨Tryz.f222.name,by decide,Tryz.func222.trans (congrArg some (by kernel_rfl))⟩
 f22:=⟨Tryz.f223.name,by decide,Tryz.func223.trans (congrArg some (by kernel_rfl))⟩
 f23:=⟨Tryz.f224.name,by decide,Tryz.func224.trans (congrArg some (by kernel_rfl))⟩
 f24:=⟨Tryz.f225.name,by decide,Tryz.func225.trans (congrArg some (by kernel_rfl))⟩
 f25:=⟨Tryz.f226.name,by decide,Tryz.func226.trans (congrArg some (by kernel_rfl))⟩
 f26:=⟨Tryz.f227.name,by decide,Tryz.func227.trans (congrArg some (by kernel_rfl))⟩
 f27:=⟨Tryz.f228.name,by decide,Tryz.func228.trans (congrArg some (by kernel_rfl))⟩
 f28:=Tryz.func197.trans (congrArg some (by kernel_rfl))
 f29:=Tryz.func198.trans (congrArg some (by kernel_rfl))
 f46:=⟨Tryz.f249.name,by decide,Tryz.func249.trans (congrArg some (by kernel_rfl))⟩
 f47:=Tryz.func230.trans (congrArg some (by kernel_rfl))
 f48:=Tryz.func231.trans (congrArg some (by kernel_rfl))
 f49:=⟨Tryz.f250.name,by decide,Tryz.func250.trans (congrArg some (by kernel_rfl))⟩
 f50:=⟨Tryz.f251.name,by decide,Tryz.func251.trans (congrArg some (by kernel_rfl))⟩
 f57:=⟨Tryz.f262.name,by decide,Tryz.func262.trans (congrArg some (by kernel_rfl))⟩
 t0:=Tryz.underlying0
 a0:=Tryz.isAgg0
 z0:=Tryz.sizeOf0
 v0:=Tryz.zeroValue0
 t3:=Tryz.underlying3
 a3:=Tryz.isAgg3
 z3:=Tryz.sizeOf3
 v3:=Tryz.zeroValue3
 t4:=Tryz.underlying4
 a4:=Tryz.isAgg4
 z4:=Tryz.sizeOf4
 v4:=Tryz.zeroValue4
 t5:=Tryz.underlying5
 a5:=Tryz.isAgg5
 z5:=Tryz.sizeOf5
 v5:=Tryz.zeroValue5
 t9:=Tryz.underlying9
 a9:=Tryz.isAgg9
 z9:=Tryz.sizeOf9
 v9:=Tryz.zeroValue9
 t22:=Tryz.underlying70
 a22:=Tryz.isAgg70
 z22:=Tryz.sizeOf70
 v22:=Tryz.zeroValue70
 t25:=Tryz.underlying202
 a25:=Tryz.isAgg202
 z25:=Tryz.sizeOf202
 v25:=Tryz.zeroValue202
 t39:=Tryz.underlying230
 a39:=Tryz.isAgg230
 z39:=Tryz.sizeOf230
 v39:=Tryz.zeroValue230
 t45:=Tryz.underlying259
 a45:=Tryz.isAgg259
 z45:=Tryz.sizeOf259
 v45:=Tryz.zeroValue259
 t46:=Tryz.underlying260
 a46:=Tryz.isAgg260
 z46:=Tryz.sizeOf260
 v46:=Tryz.zeroValue260
 t50:=Tryz.underlying172
 a50:=Tryz.isAgg172
 z50:=Tryz.sizeOf172
 v50:=Tryz.zeroValue172
 t53:=Tryz.underlying266
 a53:=Tryz.isAgg266
 z53:=Tryz.sizeOf266
 v53:=Tryz.zeroValue266
 t55:=Tryz.underlying268
 a55:=Tryz.isAgg268
 z55:=Tryz.sizeOf268
 v55:=Tryz.zeroValue268
 t66:=Tryz.underlying294
 a66:=Tryz.isAgg294
 z66:=Tryz.sizeOf294
 v66:=Tryz.zeroValue294
 t70:=Tryz.underlying298
 a70:=Tryz.isAgg298
 z70:=Tryz.sizeOf298
 v70:=Tryz.zeroValue298
 t76:=Tryz.underlying313
 a76:=Tryz.isAgg313
 z76:=Tryz.sizeOf313
 v76:=Tryz.zeroValue313
 t77:=Tryz.underlying314
 a77:=Tryz.isAgg314
 z77:=Tryz.sizeOf314
 v77:=Tryz.zeroValue314 }
end Go.Proofs
namespace Go.Proofs.YtdfadihhfppjaaaGreatDoor
open Go.RowKit
def ZxZ (P:Program) (t e:TypeId) (kc bytes:Nat) (z:Value):Prop:=
 P.underlying t=some (.slice e)∧(∃ i,P.info? e=some i∧i.zero=some z∧i.size=kc∧i.bytes=bytes)
theorem makeN {P:Program} {t e:TypeId} {kc bytes:Nat} {z:Value} (h1:P.underlying t=some (.slice e)) (hinfo:(P.info? e).map (fun i=>(i.zero,i.size,i.bytes))=some (some z,kc,bytes)):ZxZ P t e kc bytes z:=by
 refine⟨h1,?_⟩
 cases hi:P.info? e with
 | none=>rw[hi]at hinfo;cases hinfo
 | some i=>
  rw[hi]at hinfo
  simp only[Option.map_some,Option.some.injEq,Prod.mk.injEq]at hinfo
  exact⟨i,rfl,hinfo.1,hinfo.2.1,hinfo.2.2⟩
theorem Ze6 {α:Type} {l:List α} (h0:0<l.length):∀(k i:Nat),i<k*l.length→(List.replicate k l).flatten[i]?=l[i%l.length]?
 | 0,i,h=>by omega
 | k+1,i,h=>by
  rw[List.replicate_succ,List.flatten_cons]
  rcases Nat.lt_or_ge i l.length with h1 | h1
  · rw[List.getElem?_append_left h1,Nat.mod_eq_of_lt h1]
  · rw[List.getElem?_append_right h1,Ze6 h0 k (i-l.length) (by rw[Nat.succ_mul]at h;omega),Nat.mod_eq_sub_mod h1]
theorem made_N {c:Array Value} (h0:0<c.size) (k:Nat):(madeCells c (k*c.size)).toList=(List.replicate k c.toList).flatten:=by
 apply List.ext_getElem?
 intro i
 have hl:c.toList.length=c.size:=by simp
 rcases Nat.lt_or_ge i (k*c.size)with h | h
 · rw[Ze6 (by rw[hl];exact h0) k i (by rw[hl];exact h),hl]
   have hm:i%c.size<c.size:=Nat.mod_lt _ h0
   simp[madeCells,h,hm]
 · rw[List.getElem?_eq_none (by simp[madeCells];exact h),List.getElem?_eq_none]
   simp only[List.length_flatten,List.map_replicate,List.sum_replicate_nat,hl]
   exact h
theorem Zli {cs:List CD} {vs:List Value} {S:Nat→Prop} {w:World} (h:RdL S w cs vs):∀ k,RdL S w ((List.replicate k cs).flatten) ((List.replicate k vs).flatten)
 | 0=>trivial
 | k+1=>by
  rw[List.replicate_succ,List.flatten_cons,List.replicate_succ,List.flatten_cons]
  exact h.append (Zli h k)
section
variable {n:Rn} {N:Nat} {P:Program} {J X:WP} {S S' S'':Nat→Prop} {O:List OB} {w0:World} {env:List (Nat×AV)} {Q:Exit→Act→WP}
theorem ZjM {ops:Array Oper} {o:Oper} {rest:List Oper} {t e:TypeId} {kc bytes d k:Nat} {z:Value} {x y:Operand} {α:Type} {f:α→List CD} (a0:α) (ht:ZxZ P t e kc bytes z) (hf:∀(S:Nat→Prop) (w:World),RdL S w (f a0) z.cells.toList) (hzc:z.cells.size=kc) (hkc:0<kc) (hJ:Stab J) (hg:o.guard=none) (hop:o.op= .makeSlice t x y) (hd:o.dst=some d) (hN:d<N)
 (h1:∀ a w,So J S w0 N O env a w→Rel (SO S O) w (.int (k:Int)) (a.eval x)∧Rel (SO S O) w (.int (k:Int)) (a.eval y)) (hb:bytes*k≤281474976710656) (h63:k≤9223372036854775807)
 (next:∀ v a w,So J S w0 N (OB.row v e kc ((List.replicate k a0).map f)::O) ((d,.lit v)::Yn d env) a w→wpListIn n.F n.d P ops Q rest a w):
 ∀ a w,So J S w0 N O env a w→wpListIn n.F n.d P ops Q (o::rest) a w:=by
 refine Zc7 (O2:=fun v=>OB.row v e kc ((List.replicate k a0).map f)::O) (av:=fun v=>.lit v) hg hd hN (fun a w h=>?_) next
 obtain⟨ht1,i,hi,hz,hs,hbb⟩:=ht
 obtain⟨g1,g2⟩:=h1 a w h
 have hb':(i.bytes:Int)*(k:Int)≤281474976710656:=by
  rw[hbb]
  have h:((bytes*k:Nat):Int)≤281474976710656:=by omega
  rwa [Int.natCast_mul]at h
 have hrun:=run_make (P:=P) w t e i z ht1 hi hz .i64 .i64 (k:Int) (k:Int) oz (Int.le_refl _) hb' oz
 rw[hs,Int.toNat_natCast]at hrun
 have hk:Keeps All w (w.alloc (.cells (madeCells z.cells (k*kc)) e)):=(Keeps.refl _ _).alloc _
 have hmade:(madeCells z.cells (k*kc)).toList=(List.replicate k z.cells.toList).flatten:=by rw[←hzc];exact made_N oz k
 have hrows:((List.replicate k a0).map f).flatten=(List.replicate k (f a0)).flatten:=by rw[List.map_replicate]
 have hfl:(f a0).length=kc:=by rw[←(hf S w).length];simpa using hzc
 have hml:(madeCells z.cells (k*kc)).toList.length=k*kc:=by simp[madeCells]
 refine ZS (v:=.slice (some ⟨w.heap.size,0,none⟩) k k) (w':=w.alloc (.cells (madeCells z.cells (k*kc)) e)) ?_ ⟨.slice (some ⟨w.heap.size,0,none⟩) k k,X9 hJ h.keep h.x hk (fun b hb=>?_) ?_,Rel.of_lit _⟩
 · simp only[execOp,hop,g1.lit,g2.lit,Sem.run_bind,hrun]
   rfl
 · simp[OB.row,Value.ownBlock]at hb
   omega
 · refine⟨(madeCells z.cells (k*kc)).toList,⟨by rw[hml];simp,.inr ⟨w.heap.size,k,madeCells z.cells (k*kc),by simp,h.keep.size,heap_alloc_new w _,by simp,by unfold maxLen;omega,by simp[madeCells],?_⟩⟩,?_,fun r hr=>?_⟩
   · exact List.take_of_length_le (by rw[hml];simp)
   · rw[hrows,hmade];exact Zli (hf _ _) k
   · rw[List.map_replicate]at hr
     rw[(List.mem_replicate.1 hr).2];exact hfl
end
section
variable {N:Nat} {P:Program} {J:WP} {S:Nat→Prop} {O:List OB} {w0 w:World} {env:List (Nat×AV)} {a:Act} {b b2:Nat} {cs:List CD} {c2:CD} {t t2:TypeId}
theorem ZpK {fn:Func} {d m q u:Nat} {k:Nat} {cs':List CD} {r2:AV} (hr:fn.results= #[.cell d t,.cell u t2]) (h1:Xl P t k) (h2:XA P t2) (h:So J S w0 N (OB.var b cs::OB.var b2 [c2]::O) env a w) (he:env[m]?=some (d,.at b 0)) (he2:env[q]?=some (u,.at b2 0)) (hl:cs.length=k) (hE:cs=cs') (hE2:AV.rd c2=r2):
 bodyPost P fn (fun e w'=>∃ v,e= .returned v∧Rel S w' (.tup [.agg cs',r2]) v∧Keeps All w0 w'∧J w') .ret a w:=by
 subst hE
 subst hE2
 obtain⟨h0,us,e,hb,hrd⟩:=h.x.2.1 (OB.var b cs) yz
 obtain⟨g0,vs,e',gb,grd⟩:=h.x.2.1 (OB.var b2 [c2]) yz
 match vs,grd with
 | [v2],grd=>
  have hd:a.tmps.getD d undef= .pointer (some ⟨b,0,none⟩):=(h.get m he).lit
  have hu:a.tmps.getD u undef= .pointer (some ⟨b2,0,none⟩):=(h.get q he2).lit
  have hrun:=Yr (P:=P) b 0 w us 0 #[] fun j u hj=>by rw[Nat.zero_add];simp[World.cell?,hb,hj]
  rw[show us.length=k by rw[hrd.length,hl]]at hrun
  have hd':a.tmps[d]?.getD undef= .pointer (some ⟨b,0,none⟩):=by rw[←Array.getD_eq_getD_getElem?];exact hd
  have hu':a.tmps[u]?.getD undef= .pointer (some ⟨b2,0,none⟩):=by rw[←Array.getD_eq_getD_getElem?];exact hu
  have hcell:w.cell? ⟨b2,0,none⟩=some v2:=by simp[World.cell?,gb]
  refine⟨h.defs,.tuple #[.agg us.toArray,v2],by simp[results,hr,hd',hu',asAddr,Sem.run_bind,loadVar,loadCells,h1.1 w,h1.2 w,h2 w,hrun,hcell],_,rfl,?_,h.keep,h.x.1⟩
  simp only[Rel,RelL]
  exact⟨_,rfl,_,_,rfl,⟨us,rfl,hrd.sub fun _ _ hk=>hk.1⟩,_,_,rfl,grd.1.sub fun _ _ hk=>hk.1,rfl⟩
theorem ZvH {T:Nat→Prop} {us:List BA} {v:Value} (h:Rd T w (Zg us) v):∀ s∈us,s.size≤maxLen:=by
 unfold Zg at h
 generalize hr:us.map ZbZ=rows at h
 cases h with
 | nil a cap hm=>simp at hr;subst hr;simp
 | sl b off cap n rows vs hl hm hb hS hn hc hrd=>
  subst hr
  intro s hs
  obtain⟨i,hi,rfl⟩:=List.getElem_of_mem hs
  have h1:=hrd i 0 (ZbZ us[i]) (.lit (.string us[i])) (by simp[hi]) rfl
  generalize vs i 0=u at h1
  cases h1 with
  | lit _ hv=>exact hv
theorem lnStrA {fid:FuncId} {K:Nat→Prop} {X:WP} {c:Code} {Q:Exit→Act→WP} {us:List BA} {s:Nat} (m:Nat) (h:(∀ x∈us,x.size≤maxLen)→TrA fid P (St K S w0 N env X) c Q) (he:env[m]?=some (s,.rd (Zg us)):=by exact rfl):TrA fid P (St K S w0 N env X) c Q:=fun a w ha=>h (ZvH (by have:=ha.get m he;simpa only[Rel]using this)) a w ha
end
end Go.Proofs.YtdfadihhfppjaaaGreatDoor
set_option maxHeartbeats 8000000
set_option maxRecDepth 100000
namespace Go.Proofs.YtdfadihhfppjaaaGreatDoor
open Go.RowKit
open Go.Sort Go.Shelf
abbrev PrB:Type:= {p:Pr // p.a.size≤maxLen∧p.b.size≤maxLen}
instance instInhPrB:Inhabited PrB:=⟨⟨⟨⟨#[]⟩,⟨#[]⟩⟩,nzl,nzl⟩⟩
def Zi2 (p:PrB):List Value:=Zqq p.1
def cfB (p q:PrB):Int:=Zgp p.1 q.1
theorem ltB (p q:PrB):ltOf cfB p q=ltP p.1 q.1:=by
 unfold ltOf cfB
 by_cases h:ltP p.1 q.1=true
 · rw[decide_eq_true (cmpT_lt.2 h),h]
 · rw[decide_eq_false (fun h2=>h (cmpT_lt.1 h2))]
   simpa using h
theorem swoB:Go.Sort.SWO (ltOf cfB) where
 irrefl x:=by rw[ltB];exact Zka _
 trans x y z h1 h2:=by rw[ltB]at*;exact ZaP h1 h2
 ntrans x y z h1 h2:=by
  rw[ltB]at*
  cases h3:ltP x.1 z.1 with
  | false=>rfl
  | true=>
   cases h4:ltP y.1 x.1 with
   | true=>rw[ZaP h4 h3]at h2;cases h2
   | false=>rw[Zj9 h1 h4,h2]at h3;cases h3
theorem Ztj (blk off size:Nat) (w:World):CmpLays Tryz.prog 123 #[] Zi2 2 cfB blk off size w:=fun m os dk _ x y=>by
 have:=Zqv x.1 y.1 x.2 y.2 (sortWorldK Zi2 2 w blk off m dk os)
 rw[Array.append_empty]
 exact this
theorem Zl0 {α:Type} [Inhabited α] {enc:α→List Value} {k:Nat} (hk:∀ x,(enc x).length=k) (h0:0<k):∀(l:List α) (t:Nat),t<l.length*k→(l.flatMap enc)[t]?=(enc (ge l (t/k)))[t%k]?
 | [],t,h=>by simp at h
 | x::l,t,h=>by
  rw[List.flatMap_cons]
  rcases Nat.lt_or_ge t k with h1 | h1
  · rw[List.getElem?_append_left (by rw[hk];exact h1),Nat.div_eq_of_lt h1,Nat.mod_eq_of_lt h1]
    rfl
  · have e:t=(t-k)+k:=by omega
    rw[List.getElem?_append_right (by rw[hk];exact h1),hk,Zl0 hk h0 l (t-k) (by simp only[List.length_cons,Nat.succ_mul]at h;omega)]
    rw[show t/k=(t-k)/k+1 from by rw[Nat.div_eq_sub_div h0 h1],Nat.mod_eq_sub_mod h1]
    simp[ge]
theorem Zgl {α:Type} [Inhabited α] {enc:α→List Value} {k:Nat} (hk:∀ x,(enc x).length=k) (h0:0<k) (d:Array α):(flatK enc k d).toList=d.toList.flatMap enc:=by
 apply List.ext_getElem?
 intro t
 have hl:d.toList.length=d.size:=by simp
 rcases Nat.lt_or_ge t (d.size*k)with h | h
 · rw[Zl0 hk h0 d.toList t (by rw[hl];exact h)]
   have h1:=get_flatK enc k d t h
   have hdk:t/k<d.size:=Nat.div_lt_of_lt_mul (by rw[Nat.mul_comm];exact h)
   have hm:t%k<k:=Nat.mod_lt _ h0
   have h2:(flatK enc k d).toList[t]?=some ((flatK enc k d)[t]!):=by
    rw[Array.getElem?_toList,Array.getElem?_eq_getElem (by simpa using h),getElem!_pos _ t (by simpa using h)]
   rw[h2,h1]
   have e1:ge d.toList (t/k)=d[t/k]!:=by
    rw[Yj (by rw[hl];exact hdk),getElem!_pos d (t/k) hdk];simp
   rw[e1,List.getElem?_eq_getElem (show t%k< (enc d[t/k]!).length by rw[hk];exact hm),getElem!_pos (enc d[t/k]!) (t%k) (by rw[hk];exact hm)]
 · rw[List.getElem?_eq_none (by simpa using h),List.getElem?_eq_none]
   rw[List.length_flatMap]
   simp only[hk,List.map_const',List.sum_replicate_nat]
   simpa using h
theorem Zk4 (cur F:Array Value) (h:F.size≤cur.size):(putCells id 0 F cur).toList.take F.size=F.toList:=by
 apply List.ext_getElem?
 intro t
 rw[List.getElem?_take]
 split
 · rename_i h1
   have h2:t<cur.size:=by omega
   simp[putCells,h1,h2]
 · rename_i h1
   rw[List.getElem?_eq_none (by simpa using h1)]
theorem Zo0 {S:Nat→Prop} {w:World}:∀ {ps:List Pr} {us:List Value},RdL S w (ps.map prC).flatten us→us=ps.flatMap Zqq∧∀ p∈ps,p.a.size≤maxLen∧p.b.size≤maxLen
 | [],us,h=>by
  have:=h.length
  simp at this
  exact⟨by simpa using this,by simp⟩
 | p::ps,us,h=>by
  match us,h with
  | u1::u2::us,⟨h1,h2,h3⟩=>
   obtain⟨e,hb⟩:=Zo0 (ps:=ps) h3
   have ok1:p.a.size≤maxLen:=by cases h1 with | lit _ hv=>exact hv
   have ok2:p.b.size≤maxLen:=by cases h2 with | lit _ hv=>exact hv
   refine⟨by rw[h1.of_lit,h2.of_lit,e];rfl,fun q hq=>?_⟩
   rcases List.mem_cons.1 hq with rfl | hq
   · exact⟨ok1,ok2⟩
   · exact hb q hq
theorem pr_rd {S:Nat→Prop} {w:World}:∀ {ps:List Pr},(∀ p∈ps,p.a.size≤maxLen∧p.b.size≤maxLen)→RdL S w (ps.map prC).flatten (ps.flatMap Zqq)
 | [],_=>trivial
 | p::ps,h=>⟨.lit _ (h p yz).1,.lit _ (h p yz).2,pr_rd fun q hq=>h q (by simp[hq])⟩
theorem Zwh {J:WP} (hJ:Stab J) (v:Value) (ps:List Pr) (hn:ps.length≤140737488355328):FnM (ι:= {qs:List Pr // qs.Perm ps∧WkP qs}) Tryz.prog J 145 [] [.lit v,.fn 123 []] [OB.row v 162 2 (ps.map prC)] (fun _=>.tup []) (fun i=>[OB.row v 162 2 (i.1.map prC)]):=by
 intro S w0 R w vs hS hJ0 hH hk hx ha
 simp only[RelL]at ha
 obtain⟨u,_,rfl,h1,u2,_,rfl,h2,rfl⟩:=ha
 obtain rfl:=h1.lit
 obtain rfl:u2= .func (.func 123) #[] #[]:=by
  simp only[Rel,RelL]at h2
  obtain⟨_,rfl,rfl⟩:=h2
  rfl
 have hi:=hx.2.1 (OB.row u 162 2 (ps.map prC)) yz
 obtain⟨us,⟨hul,hrow⟩,hrd,h3⟩:=hi
 rcases hrow with⟨rfl,hz⟩ | ⟨g,cap,cur,rfl,hb,hg,hnc,hcm,hcs,ht⟩
 · have hps:ps=[]:=by simpa using hz
   subst hps
   refine(AnyF.slices_SortFunc_none Tryz.sortP none 0 _ w).mono ?_
   rintro e w' ⟨rfl,rfl⟩
   exact⟨⟨[],.refl _,.nil⟩,_,Y,by simp only[Rel,RelL];exact⟨[],Y,Y⟩,hk,hx⟩
 · obtain⟨hus,hok⟩:=Zo0 hrd
   have hlen:(ps.map prC).length=ps.length:=List.length_map _
   rw[hlen]at hnc ht hul
   obtain⟨d,hd⟩:∃ d:Array PrB,d.toList.map (·.1)=ps:=⟨(ps.pmap (fun p h=>(⟨p,h⟩:PrB)) hok).toArray,by simp[List.map_pmap]⟩
   have hds:d.size=ps.length:=by rw[←hd];simp
   have hkB:∀ x:PrB,(Zi2 x).length=2:=fun _=>Y
   have hfl:∀ e:Array PrB,(flatK Zi2 2 e).toList=(e.toList.map (·.1)).flatMap Zqq:=fun e=>by
    rw[Zgl hkB oz,List.flatMap_map]
    rfl
   have hgl:g<w.heap.size:=(Array.getElem?_eq_some_iff.1 hg).1
   have hfz:∀ j,w.frozen? ⟨g,j,none⟩=false:=fun j=>by simp[World.frozen?,hg]
   have hH:HoldsK Zi2 2 w g 0 d:=fun j hj=>by
    refine⟨?_,hfz _⟩
    have hj2:j<ps.length*2:=by rw[size_flatK,hds]at hj;exact hj
    have e1:cur.toList[j]?=some ((flatK Zi2 2 d)[j]!):=by
     have e2:(cur.toList.take (ps.length*2))[j]?=cur.toList[j]?:=by rw[List.getElem?_take,if_pos hj2]
     rw[←e2,ht,hus,←hd,←hfl d,Array.getElem?_toList,Array.getElem?_eq_getElem hj,getElem!_pos _ j hj]
    rw[Nat.zero_add]
    simp only[World.cell?,hg]
    simpa using e1
   have hcall:=AnyQ.slices_SortFunc Tryz.sortP 2 Tryz.isAgg162 Tryz.sizeOf162 Zi2 hkB (fun x v hv=>by simp[Zi2,Zqq]at hv;rcases hv with rfl | rfl<;>rfl) cfB swoB 123 #[] g 0 cap d w (enters_of Tryz.func123 V rfl) (Ztj g 0 d.size w) hH hgl oz
   rw[hds]at hcall
   rw[hlen]
   refine hcall.mono ?_
   rintro e w' ⟨rfl,d',n,os,hperm,hsrt,rfl⟩
   have hd's:d'.size=ps.length:=by rw[hperm.1,hds]
   have hpm:(d'.toList.map (·.1)).Perm ps:=by
    have h9:=hperm.2.2
    rw[show d'.extract 0 ps.length=d' by rw[←hd's];exact Array.extract_size,show d.extract 0 ps.length=d by rw[←hds];exact Array.extract_size]at h9
    rw[←hd]
    exact h9.map _
   have hwk:WkP (d'.toList.map (·.1)):=by
    unfold WkP
    rw[List.pairwise_map,List.pairwise_iff_getElem]
    intro i j hi hj hij
    have h9:=hsrt i j nzl hij (by rw[←hd's];simpa using hj)
    rw[ltB,getElem!_pos _ j (by simpa using hj),getElem!_pos _ i (by simpa using hi)]at h9
    simpa using h9
   have hheap:(sortWorldK Zi2 2 w g 0 n d' os).heap[g]?=some (.cells (putCells id 0 (flatK Zi2 2 d') cur) 162):=by
    show(grow (putRow id (Sort.ahead w n) g 0 (flatK Zi2 2 d')) os).heap[g]?=_
    rw[heap_grow_old _ _ (by simpa [Sort.ahead]using hgl)]
    show((Sort.ahead w n).heap.modify g _)[g]?=_
    rw[Array.getElem?_modify,if_pos Y]
    show(w.heap[g]?).map _=_
    rw[hg]
    rfl
   have hkk:Keeps (fun k=>k≠g) w (sortWorldK Zi2 2 w g 0 n d' os):=by
    refine⟨?_,?_,?_,?_,?_⟩
    · simp[sortWorldK,putRowK,grow,putRow,mapBlock,Sort.ahead]
    · simp[sortWorldK,putRowK,grow,putRow,mapBlock,Sort.ahead]
    · simp[sortWorldK,putRowK,grow,putRow,mapBlock,Sort.ahead]
    · simp[sortWorldK,putRowK,grow,putRow,mapBlock,Sort.ahead]
    · intro k hk hne
      show(grow (putRow id (Sort.ahead w n) g 0 (flatK Zi2 2 d')) os).heap[k]?=_
      rw[heap_grow_old _ _ (by simpa [Sort.ahead]using hk)]
      show((Sort.ahead w n).heap.modify g _)[k]?=_
      rw[Array.getElem?_modify,if_neg (fun e=>hne e.symm)]
      rfl
   have hFs:(flatK Zi2 2 d').size=ps.length*2:=by rw[size_flatK,hd's]
   have hk0:Keeps All w0 (sortWorldK Zi2 2 w g 0 n d' os):=hk.upto' hkk fun k hk0 e=>by subst e;omega
   have hok':∀ p∈d'.toList.map (·.1),p.a.size≤maxLen∧p.b.size≤maxLen:=fun p hp=>hok p (hpm.mem_iff.1 hp)
   have hinv:(OB.row (.slice (some ⟨g,0,none⟩) ps.length cap) 162 2 ((d'.toList.map (·.1)).map prC)).inv w0.heap.size (SO S ([OB.row (.slice (some ⟨g,0,none⟩) ps.length cap) 162 2 ((d'.toList.map (·.1)).map prC)]++R)) (sortWorldK Zi2 2 w g 0 n d' os):=by
    have hl2:((d'.toList.map (·.1)).map prC).length=ps.length:=by simp[hd's]
    refine⟨(d'.toList.map (·.1)).flatMap Zqq,⟨?_,.inr ⟨g,cap,putCells id 0 (flatK Zi2 2 d') cur,by rw[hl2],hb,hheap,by rw[hl2];exact hnc,hcm,by simpa [putCells]using hcs,?_⟩⟩,pr_rd hok',fun r hr=>by obtain⟨p,_,rfl⟩:=List.mem_map.1 hr;rfl⟩
    · rw[hl2,←hfl d',Array.length_toList,hFs]
    · rw[hl2,←hfl d',←hFs]
      exact Zk4 cur _ (by rw[hFs,hcs];exact Nat.mul_le_mul_right _ hnc)
   refine⟨⟨d'.toList.map (·.1),hpm,hwk⟩,_,Y,by simp only[Rel,RelL];exact⟨[],Y,Y⟩,hk0,?_⟩
   have hx1:=hx
   rw[hlen]at hx1
   have:=ZhL (o':=OB.row (.slice (some ⟨g,0,none⟩) ps.length cap) 162 2 ((d'.toList.map (·.1)).map prC)) hx1 (hJ _ _ hk0 hJ0) (hkk.sub fun k _ hk=>fun e=>hk (by show(OB.row (.slice (some ⟨g,0,none⟩) ps.length cap) 162 2 (ps.map prC)).blk k;rw[e];rfl)) (fun k hk=>.inl hk) hinv
   exact this.1
end Go.Proofs.YtdfadihhfppjaaaGreatDoor
set_option maxHeartbeats 8000000
set_option maxRecDepth 100000
namespace Go.Proofs.YtdfadihhfppjaaaGreatDoor
open Go.RowKit
theorem ZiB:ZxZ Tryz.prog 70 162 2 32 (.agg #[.string ⟨#[]⟩,.string ⟨#[]⟩]):=makeN V V
theorem Zsb {J:WP} (hJ:Stab J) (l:List Pr) (hwd:l.length*32≤140737488351232):FnM (ι:= {qs:List Pr // Zx0 l qs}) Tryz.prog J 120 [] [.rd (X8 l)] [] (fun i'=>.rd (X8 (i'.1))) (fun _=>[]):=by
 refine fEM Tryz.func120 fun S w0 R hS hJ0 hH=>?_
 refine YS (B:=So J S w0 26 (R) [(0,.rd (X8 l))]) ?_ fun a w h=>h
 refine ln 0 fun hl1=>?_
 refine qso tb hJ [0] [_] [_] ?_
 refine tsq (snK 1 tb Y (sy (.int (l.length:Nat)) (fun h=>Qw Yl Y (h.get 0 Y) h.x) ?_))
 refine ZjM (f:=prC) (k:=l.length) (⟨⟨#[]⟩,⟨#[]⟩⟩:Pr) ZiB (fun _ _=>⟨.lit _ nzl,.lit _ nzl,U⟩) Y dz hJ Y Y Y (lb Y) (fun a w h=>⟨(h.get 0 Y),(h.get 0 Y)⟩) sfz sfz fun v1=>?_
 refine snK 1 tb Y (seK [0,4] U2 Y ?_)
 refine nx (Zf (ZF tb hJ [0,1000,1001,1002] [_,.int (l.length:Nat),_] [1] U4 Y ⟨Ym Yl,U⟩ ?_))
 refine Zd (lpo (ι:=Nat×(List Pr)) (fun(k,rs)=>(k≤l.length)∧(rs.length=l.length)∧(∀ i,i<k→ge rs i=ZcG (ge l i))) (fun(_,rs)=>(OB.row v1 162 2 (rs.map prC)::R)) (fun(k,_)=>[(11,.int (k:Nat))]) (fun(k,_)=>l.length-k) [0,1,2,3] U3 (0,List.replicate l.length (⟨⟨#[]⟩,⟨#[]⟩⟩:Pr)) ⟨nzl,List.length_replicate,fun i hi=>by omega⟩ ?_)
 rintro⟨k,rs⟩ ⟨f1_1,f1_2,f1_3⟩
 refine qso tb hJ [0,1,2,3,1000] [_] U5 ?_
 refine cjS 4 (fun hb1=>?_) fun hb1=>?_
 ·
  try simp at hb1
  refine Zb (nx (Zf (Zd (tsq (snK 1 tb Y (sy (.ptr (prC (ge l k))) (fun h=>ZM (i:=(k:Int)) ZE Y (h.get 2 Y) (h.get 4 Y) nnn (ZT (xs:=l) (k:=k) sfz) Y h.x) ?_))))))
  refine snK 1 tb Y (Zv X0 hJ Y Y Y (lb Y) fun b2=>?_)
  refine snK 1 tb Y (Zn (b:=b2) (off:=0) (es:=U2) (news:=U2) hJ hJ0 Xj Y Y Y (lb Y) Y (fun a w h=>⟨(h.get 1 Y),(h.get 2 Y)⟩) ?_)
  refine kw (fun h=>ZP hS h (m:=1) (s:=5) Y) (seK [0,1,5,6,7,8] U6 Y ?_)
  refine nx (ZO (snK 3 tb Y (sy (.agg (prC (ZcG (ge l k)))) (fun h=>ZaL (Zig hJ (ge l k)) Zmo Y (Zk hS _ h.keep h.x) (h.x.1) (Za (h.get 0 Y) Zc) (jo hJ h.x)) ?_)))
  refine sy (.lit (YG v1 (k*2))) (fun h=>ZU (i:=(k:Int)) ZE Y (Ze h.x (mo 0 Y)) (h.get 3 Y) (h.get 2 Y) nnn (by rw[List.length_map];exact Int.ofNat_lt.2 sfz) h.x) ?_
  refine Zak (i:=k) hJ hJ0 Xj Y Y Y (by rw[List.length_map];exact sfz) Y (fun a w h=>⟨(h.get 0 Y),(h.get 1 Y)⟩) ?_
  rw[show(rs.map prC).set k (prC (ZcG (ge l k)))=(rs.set k (ZcG (ge l k))).map prC from List.map_set.symm]
  refine seK [7,8,9,10] U4 Y (nx (YU tb hJ [0,1,2,1001] [.int (k+1:Nat),_] [0] U4 Y ⟨YT,U⟩ ?_))
  exact Xk (k+1,rs.set k (ZcG (ge l k))) [0,1,2,3] ⟨oz,by rw[List.length_set];exact f1_2,fun i hi=>by rw[Zp7 oz];by_cases h9:i=k;(· simp[h9]);rw[if_neg h9];exact f1_3 i oz⟩
 ·
  try simp at hb1
  have e9:rs=l.map ZcG:=map_of f1_2 fun i hi=>f1_3 i oz
  refine Zu (nx (tsq (snK 1 tb Y (QK (O:=[OB.row v1 162 2 (rs.map prC)]) (R:=(R)) (Zwh hJ v1 rs sfz) ZtX Y Y Y (lb Y) hS hJ0 Zq (fun a w h=>(Za (h.get 0 Y) (Za (Qt 123) Zc))) fun z3=>?_))))
  refine seK [2] [_] Y (nx (tsq ?_))
  refine snK 1 tb Y (QK (O:=[OB.row v1 162 2 (z3.1.map prC)]) (R:=(R)) (Znj hJ v1 z3.1 (by have h9:=z3.2.1.length_eq;omega)) ZtW Y Y Y (lb Y) hS hJ0 Zq (fun a w h=>(Za (h.get 0 Y) Zc)) fun z4=>?_)
  refine snK 1 tb Y (seK [0] [_] Y ?_)
  exact nx (tw (fun h=>Ya hS h (m:=0) (s:=2) Y) (Zs (fun a w h=>ZK  (m:=0) ⟨(Zc4 z3.1 z3.1.length),srt_of (e9▸z3.2.1) z3.2.2⟩ Y h Y Y)))
theorem ZnJ:ZdH Tryz.prog 162 [.string ⟨#[]⟩,.string ⟨#[]⟩]:=⟨fun i=>(#[(0,1),(1,1)]:Array (Nat×Nat))[i]?,fun j hj=>by rcases j with _ | _ | j<;>first | rfl | (simp at hj;omega) | simp at hj,fun parts=>by kernel_rfl⟩
theorem Zhs {l:List Bd} {ap:List Pr} {us:List BA} {wd:List Pr} {q:Pr} (h:Zq1 l ap us wd=some q):Zjf l ap us wd=q:=by unfold Zjf;rw[h];rfl
theorem Zhu {l:List Bd} {ap:List Pr} {us:List BA} {wd:List Pr} {q:Pr} (h:Zq1 l ap us wd=some q):ZfE l ap us wd=true:=by unfold ZfE;rw[h];rfl
theorem Zht {l:List Bd} {ap:List Pr} {us:List BA} {wd:List Pr} (h:Zq1 l ap us wd=none):Zjf l ap us wd=⟨⟨#[]⟩,⟨#[]⟩⟩:=by unfold Zjf;rw[h];rfl
theorem Zhv {l:List Bd} {ap:List Pr} {us:List BA} {wd:List Pr} (h:Zq1 l ap us wd=none):ZfE l ap us wd=false:=by unfold ZfE;rw[h];rfl
theorem Zne {J:WP} (hJ:Stab J) (bl:List Bd) (us:List BA) (ap:List Pr)  :Fn Tryz.prog J 121 [.rd (Zgu bl),.rd (X8 ap),.rd (Zg us)] (.fn 147 [.ptr [Zgu bl],.ptr [Zg us],.ptr [X8 ap]]):=by
 refine fE Tryz.func121 fun S w0 hS hJ0=>?_
 clear hJ0
 refine ln 0 fun hl1=>?_
 refine ln 1 fun hl2=>?_
 refine ln 2 fun hl3=>?_
 refine hqs tb hJ [1000,1001,1002] [.ptr [Zgu bl],.ptr [X8 ap],.ptr [Zg us],_] [0,1,2] U3 Y ⟨fun _ _ hk hx hl _=>ZaM Y (hl.env 0 0 _ Y Y) (hS _ hk.size) (js hJ hx),fun _ _ hk hx hl _=>ZaM Y (hl.env 1 1 _ Y Y) (hS _ hk.size) (js hJ hx),fun _ _ hk hx hl _=>ZaM Y (hl.env 2 2 _ Y Y) (hS _ hk.size) (js hJ hx),U⟩ ?_
 refine hqs tb hJ [1001] [.fn 147 [.ptr [Zgu bl],.ptr [Zg us],.ptr [X8 ap]],_] [0] [_] Y ⟨fun _ _ _ hx hl _=>YR (caps:=[(.tmp 3),(.tmp 5),(.tmp 4)]) Y (Za (hl.env 0 3 _ Y Y) (Za (hl.env 2 5 _ Y Y) (Za (hl.env 1 4 _ Y Y) Zc))) hx,U⟩ ?_
 exact tRn 0 (hE:=Y)
theorem ZlC {J:WP} (hJ:Stab J) (bl:List Bd) (ap:List Pr) (us:List BA) (wd:List Pr) (hbl:∀ b∈bl,b.text.length≤2000) (hwd:wd.length*32≤140737488351232):Fn Tryz.prog J 95 [.rd (Zgu bl),.rd (X8 ap),.rd (Zg us),.rd (X8 wd)] (.tup [.agg (prC (Zjf bl ap us wd)),.bool (ZfE bl ap us wd)]):=by
 refine ZcP (N:=38) Tryz.func95 Y Y (lb Y) fun S w0 hS hJ0=>?_
 refine atw Z4 ?_
 refine lnA 0 fun hl1=>?_
 refine lnA 1 fun hl2=>?_
 refine lnA 2 fun hl3=>?_
 refine lnA 3 fun hl4=>?_
 refine lnStrA 2 fun hus=>?_
 refine Xr (m:=5) ?_
 refine ZO (Zv X0 hJ Y Y Y (lb Y) fun b1=>?_)
 refine Zv Zrt hJ Y Y Y (lb Y) fun b2=>?_
 refine seK (r6 []) U6 Y (ZdV ?_)
 refine Xr (m:=5) ?_
 refine ZO (snK 1 tb Y (QK (O:=[]) (R:=[OB.var b2 [lB false],OB.var b1 [lS (⟨#[]⟩:BA),lS (⟨#[]⟩:BA)]]) (Zsb hJ wd sfz) Zt7 Y Y Y (lb Y) hS hJ0 Zq (fun a w h=>(Za (h.get 0 Y) Zc)) fun z3=>?_))
 refine Zv Zn5 hJ Y Y Y (lb Y) fun b4=>?_
 refine Z6 (b:=b4) (off:=0) (es:=[_]) hJ hJ0 Zoy Y Y Y (lb Y) Y (fun a w h=>⟨(h.get 0 Y),(h.get 1 Y)⟩) ?_
 refine kw (fun h=>ZP hS h (m:=0) (s:=10) Y) (seK [0,1,3,4,5,6,7] U7 Y ?_)
 refine ZdV ?_
 refine lnA 1 fun hl5=>?_
 refine Zrc ?_
 refine Xr (m:=5) ?_
 refine YU tb hJ [0,2,3,1003] (V3 [.fn 147 [.ptr [Zgu bl],.ptr [Zg us],.ptr [X8 ap]]]) [3] U4 Y ⟨iFo hS hJ (Zne hJ bl us ap) Zt6,U⟩ ?_
 refine ZdV ?_
 refine Zfr ?_
 refine atw (fun h=>XC (p:=(∀ x∈([]:List Pr),Zjy wd x=false)) (fun x hx=>by cases hx) h) ?_
 refine ZoN (m:=5) (κ:=Unit) (μ:=Empty) (σ:= {q:Pr // Zq1 bl ap us wd=some q}) (Zj0 hJ bl us ap hbl) ZtV hJ hS hJ0 Zq (fun pre _=>[OB.fct (∀ x∈pre,Zjy wd x=false),OB.var b2 [lB false],OB.var b1 [lS (⟨#[]⟩:BA),lS (⟨#[]⟩:BA)]]) (fun q':Empty=>undef) (fun q'=>[]) (fun s'=>[OB.var b1 (prC (s'.1)),OB.var b2 [lB true]]) () (fun x9=>[(11,.ptr (prC x9)),(10,.ptr [X8 z3.1]),(9,.at b2 0),(8,.at b1 0)]) (lb Y) Tryz.func95 ?_ ?_ ?_ ?_ ?_ ?_ ?_
 · exact fun a w h=>Zew (h.get 3 Y)
 rintro m9 l9 R' pre x9 _ K9 hK9
 refine ZO (Qk (cs:=prC x9) Zeg Y Y Y (lb Y) Y Y Y dz (m:=0) Y Y (fun a w h=>Zk hS _ h.keep h.x _ nlr) (fun a w h w' hk'=>Yw hJ _ _ hk' h.x) ?_)
 exact seK [0,2,3,4] U4 Y (hK9)
 rintro m9 l9 R' pre x9 _ hpre
 refine ZhV fun hF=>?_
 have r1_:∀ x∈pre,Zjy wd x=false:=hF
 refine Zd (ZF tb hJ [0,1,2,3,1007] [_,_,.tup [.int (bsN z3.1 x9:Nat),.bool (decide (x9∈z3.1))],_,_,_,_,_] [2] U5 Y ⟨iFo hS hJ (p_bsP hJ z3.1 x9 123 [] (fun x' y'=>(Zpc hJ x' y').r) (Zt4) (z3.2.1) (by have:=z3.2.2.2;omega)) Zt5,U⟩ ?_)
 refine qso tb hJ [0,1,2,3,1008] U9 U5 ?_
 refine cj 4 (fun hb1=>?_) fun hb1=>?_
 have e8:Zjy wd x9=true:=(Zvh z3.2).symm.trans hb1
 refine tsq (snK 1 tb Y (kw pm1 ?_))
 refine Zn (b:=b1) (off:=0) (es:=U2) (news:=U2) hJ hJ0 Xj Y Y Y (lb Y) Y (fun a w h=>⟨(h.get 4 Y),(h.get 0 Y)⟩) ?_
 refine kw pm1 (Z6 (b:=b2) (off:=0) (es:=[_]) hJ hJ0 ZbK Y Y Y (lb Y) Y (fun a w h=>⟨(h.get 3 Y),(Rel.of_lit (.bool true))⟩) ?_)
 refine seK [3,4] U2 Y (nx (Zs (kw pm1 ?_)))
 exact fun a w h=>⟨⟨x9,ZxQ hpre r1_ e8⟩,h.keep,h.x⟩
 have e8:Zjy wd x9=false:=(Zvh z3.2).symm.trans hb1
 exact Zb (kw (fun h=>XC (p:=(∀ x∈(pre++[x9]),Zjy wd x=false)) (ZrU r1_ e8) h) (fun a w h=>⟨(),h.keep,h.x⟩))
 rintro hfl _ D
 refine kw pm1 (ZhY fun hF=>?_)
 have r1_:∀ x∈(ZvX bl ap us),Zjy wd x=false:=hF
 have e9:Zq1 bl ap us wd=none:=Zuh r1_
 refine Zwt (m:=5) ?_
 refine Zgo ?_
 refine Zb8 ?_
 refine sy (.agg (prC (⟨⟨#[]⟩,⟨#[]⟩⟩:Pr))) (fun h=>Y7 (ps:=[]) (us:=[.string ⟨#[]⟩,.string ⟨#[]⟩]) ZnJ Y yz Zjr Y (X1 (.lit _ nzl) (X1 (.lit _ nzl) Z0)) h.x) ?_
 refine kw pm2 (Zn (b:=b1) (off:=0) (es:=U2) (news:=U2) hJ hJ0 Xj Y Y Y (lb Y) Y (fun a w h=>⟨(h.get 3 Y),(h.get 0 Y)⟩) ?_)
 refine kw pm2 (Z6 (b:=b2) (off:=0) (es:=[_]) hJ hJ0 ZbK Y Y Y (lb Y) Y (fun a w h=>⟨(h.get 2 Y),(Rel.of_lit (.bool false))⟩) ?_)
 refine seK [2,3] U2 Y (nxD ?_)
 refine dtw pm2 ?_
 refine Zqs ?_
 refine outD hJ hJ0 ?_
 exact kw pm1 (fun a w h=>ZpK (m:=1) (q:=0) Y Xt Zsp h Y Y Y (show(_:List CD)=[lS ((Zjf bl ap us wd).a),lS ((Zjf bl ap us wd).b)]from by(first | rw[Zht e9] | rw[Zhv e9] | rw[Zhs s'.2] | rw[Zhu s'.2])<;>rfl) (eB (by first | rw[Zht e9] | rw[Zhv e9] | rw[Zhs s'.2] | rw[Zhu s'.2])))
 rintro s' D
 refine outD hJ hJ0 ?_
 exact fun a w h=>ZpK (m:=2) (q:=1) Y Xt Zsp h Y Y Y (show(_:List CD)=[lS ((Zjf bl ap us wd).a),lS ((Zjf bl ap us wd).b)]from by(first | rw[Zht e9] | rw[Zhv e9] | rw[Zhs s'.2] | rw[Zhu s'.2])<;>rfl) (eB (by first | rw[Zht e9] | rw[Zhv e9] | rw[Zhs s'.2] | rw[Zhu s'.2]))
 · exact fun v h=>by cases h
 · exact fun q=>q.elim
section
variable {n:Rn} {P:Program} {l:List Oper} {Q:Exit→Act→WP}
theorem ZoK {Pn:List PanicEntry→Act→WP} {I:(Nat→Bool)→Act→WP} {id:Nat} {draw:Bool} {a:Act} {w:World} (hP:∀ ch a w,Pn ch a w→Q (.panic ch) a w) (hm:P.follows .mixedOrders=true) (hback:Zbm l=true)
 (hstep:∀(Q:Exit→Act→WP),(∀ ch a w,Pn ch a w→Q (.panic ch) a w)→∀(b:Nat→Bool) (a:Act) (w:World) (i:Nat) (o:Oper) (rest:List Oper),l[i]?=some o→b i=false→(∀ j∈ZL o,b j=true)→I b a w→(∀ a' w',I (Ye b i) a' w'→wpListIn n.F n.d P l.toArray Q rest a' w')→wpListIn n.F n.d P l.toArray Q (o::rest) a w)
 (hend:∀ a w,I (fun i=>decide (i<l.length)) a w→Q .normal a w) (h0:I (fun _=>false) a w) (hd:I (fun _=>false) a w.drew):(Code.region id l.toArray draw).wpIn n.F n.d P Q a w:=by
 have text:∀(r:List Oper) (k:Nat) (a:Act) (w:World),k+r.length=l.length→l.drop k=r→I (fun i=>decide (i<k)) a w→wpListIn n.F n.d P l.toArray Q r a w:=by
  intro r
  induction r with
  | nil=>
   intro k a w hl _ h
   simp only[List.length_nil,Nat.add_zero]at hl
   subst hl
   exact wpListIn_nil (hend _ _ h)
  | cons o r ih=>
   intro k a w hl hr h
   simp only[List.length_cons]at hl
   have hi:l[k]?=some o:=by
    have:(l.drop k)[0]?=some o:=by rw[hr];rfl
    simpa [List.getElem?_drop]using this
   refine hstep Q hP _ a w k o r hi yz (fun j hj=>by have:=Za1 hback hi hj;simpa using this) h fun a' w' h'=>?_
   refine ih (k+1) a' w' oz ?_ ?_
   · have:l.drop (k+1)=(l.drop k).drop 1:=by rw[List.drop_drop]
     rw[this,hr];rfl
   · have he:(fun i=>decide (i<k+1))=Ye (fun i=>decide (i<k)) k:=by
      funext i
      unfold Ye
      by_cases e:i=k
      · simp[e]
      · rw[if_neg e]
        congr 1
        apply propext
        omega
     rw[he];exact h'
 have fin:∀(d:Array Bool) (a:Act) (w:World),d.size=l.length→I (fun i=>d.getD i false) a w→Region.ready .any l.toArray d=[]→Q .normal a w:=fun d a w hl h hnil=>by
  have hall:=ZbM hl hback hnil
  have he:(fun i=>d.getD i false)=fun i=>decide (i<l.length):=by
   funext i
   by_cases hi:i<l.length
   · simp[hall i hi,hi]
   · simp only[hi,decide_false]
     rw[Array.getD_eq_getD_getElem?,Array.getElem?_eq_none oz]
     rfl
  rw[he]at h
  exact hend _ _ h
 have any:∀(fuel:Nat) (d:Array Bool) (a:Act) (w:World),d.size=l.length→ZeS d≤fuel→I (fun i=>d.getD i false) a w→wpAnyIn n.F n.d P .any l.toArray Q fuel d a w:=by
  intro fuel
  induction fuel with
  | zero=>
   intro d a w hl hf h
   have hnil:Region.ready .any l.toArray d=[]:=by
    cases hr:Region.ready .any l.toArray d with
    | nil=>rfl
    | cons x xs=>
     have hx:x∈Region.ready .any l.toArray d:=by rw[hr];simp
     have:=Qz (mem_ready.1 hx).1
     omega
   exact⟨hnil,fin d a w hl h hnil⟩
  | succ fuel ih=>
   intro d a w hl hf h
   refine⟨fun hnil=>fin d a w hl h hnil,fun i hr=>?_⟩
   obtain⟨h1,o,ho,h2⟩:=mem_ready.1 hr
   have ho':l[i]?=some o:=by simpa using ho
   have hil:i<d.size:=by rw[hl];exact(List.getElem?_eq_some_iff.1 ho').1
   refine QJ ho (hstep (Exit.then _ Q) (fun ch a w h=>hP ch a w h) _ a w i o [] ho' (by simpa [Array.getD,hil]using h1) (fun j hj=>?_) h fun a' w' h'=>?_)
   · obtain⟨e,he,hb,rfl⟩:=mem_depsOf.1 hj
     exact h2 e he hb
   · refine wpListIn_nil ?_
     refine ih _ a' w' (by simpa using hl) (by have:=Qz h1;omega) ?_
     have he:(fun j=>(d.setIfInBounds i true).getD j false)=Ye (fun j=>d.getD j false) i:=by
      funext j
      by_cases hj:j=i
      · subst hj
        simp[Ye,Array.getD,hil]
      · simp only[Ye,if_neg hj,Array.getD_eq_getD_getElem?]
        rw[Array.getElem?_setIfInBounds_ne (fun e=>hj e.symm)]
     rw[he];exact h'
 cases draw with
 | false=>
  refine wpIn_region_lit (text l 0 a w yz rfl ?_)
  have he:(fun i=>decide (i<0))=fun _:Nat=>false:=by funext i;simp
  rw[he];exact h0
 | true=>
  refine wpIn_region_any hm (any _ _ a _ yz ?_ ?_)
  · simp only[ZeS]
    exact Nat.le_trans List.countP_le_length yz
  · have he:(fun i=>(Array.replicate l.toArray.size false).getD i false)=fun _=>false:=by
     funext i
     simp[Array.getD]
    rw[he]
    exact hd
end
section
variable {n:Rn} {P:Program} {l:List Oper} {Q:Exit→Act→WP}
variable {N:Nat} {J:WP} {S:Nat→Prop} {O:List OB} {w0:World} {env:List (Nat×AV)} {avs:Nat→AV} {conds:Nat→Bool} {T:Array Value} {γ:Type}
theorem Does.toP {n:Rn} {P:Program} {o:Oper} {a:Act} {w:World} {post:Value→WP} {fl:List PanicEntry→WP} (h:Does n P o a w post):ZhF n P o a w post fl:=fun K Q hK _=>h K Q hK
end
section
variable {n:Rn} {N:Nat} {P:Program} {S:Nat→Prop} {w0:World} {env:List (Nat×AV)} {X:WP} {l:List Oper} {Q:Exit→Act→WP}
end
theorem Zje:Zb9 Tryz.prog 179 2:=⟨#[.slice none 0 0,.slice none 0 0],Y,fun i=>some (i*1,1),fun j _=>(show some (j*1,1)=some (j,1) by rw[Nat.mul_one]),fun parts=>by kernel_rfl⟩
theorem Zgs:ZdH Tryz.prog 119 [.string ⟨#[]⟩,.bool false,.slice none 0 0]:=⟨fun i=>(#[(0,1),(1,1),(2,1)]:Array (Nat×Nat))[i]?,fun j hj=>by rcases j with _ | _ | _ | j<;>first | rfl | (simp at hj;omega) | simp at hj,fun parts=>by kernel_rfl⟩
theorem p_Hyp {J:WP} (hJ:Stab J) (f:Fr) (s:BA) (ht:∀ h∈f.hyps++f.dummies,h.text.length≤2000):Fn Tryz.prog J 86 [.agg (frC f),.str s] (.tup [.agg (hyC ((ZbA f s).getD default)),.bool ((ZbA f s).isSome)]):=by
 refine fE Tryz.func86 fun S w0 hS hJ0=>?_
 refine tw Z4 (tsq ?_)
 refine sy (.ptr (frC f)) (fun h=>Q1 Y (h.get 0 Y) (Zk hS _ h.keep h.x _ nlr) (jo hJ h.x)) ?_
 refine Zv Yy hJ Y Y Y (lb Y) fun b1=>?_
 refine snK 1 tb Y (seK [1,2,4] U3 Y ?_)
 refine nx (Zf (ZF tb hJ [0,2,1001,1003,1004,1005] (V4 [.agg [XQ f.hyps,XQ f.dummies],_]) [4] U6 Y ⟨fun a _ _ hx hl _=>XR (us:=[a.eval (.tmp 11),a.eval (.tmp 13)]) Zje Y yz (Zt (hl.D 1 11 Y Y) (Zt (hl.D 3 13 Y Y) Z0)) Y hx,U⟩ ?_))
 refine ln 2 fun hl1=>?_
 refine ln 3 fun hl2=>?_
 refine Zd (lpo (ι:=Nat) (fun k=>(k≤2)∧(∀ i,i<k→∀ h∈Zdt f.hyps f.dummies i,¬ h.label=s)) (fun _=>[OB.var b1 [lS (⟨#[]⟩:BA),lB false,Zg ([]:List BA)]]) (fun k=>[(15,.int (k:Nat))]) (fun k=>2-k) [0,1,4,5] U3 0 ⟨nzl,fun i hi=>by omega⟩ ?_)
 rintro k ⟨f1_1,f1_2⟩
 refine qso tb hJ [0,1,2,3,1000] [_] U5 ?_
 refine cjS 4 (fun hb1=>?_) fun hb1=>?_
 ·
  try simp at hb1
  refine Zb (nx (Zf (Zd (ZF tb hJ [0,1,2,3,1000,1001] [.rd (XQ (Zdt f.hyps f.dummies k)),_] [0] U6 Y ⟨fun _ _ _ hx hl _=>ZrO (c:=XQ (Zdt f.hyps f.dummies k)) Zgy Zpp Zh1 Y (hl.env 2 14 _ Y Y) (hl.env 3 15 _ Y Y) nnn Y (two_at sfz) hx,U⟩ ?_))))
  refine ln 4 fun hl3=>?_
  refine ZF tb hJ [0,1,2,3,1000,1001,1002] [_,.int ((Zdt f.hyps f.dummies k).length:Nat),_] [1] U7 Y ⟨Ym ZC,U⟩ ?_
  refine Zd (lpo (ι:=Nat) (fun j=>(j≤(Zdt f.hyps f.dummies k).length)∧(∀ i,i<j→¬ (ge (Zdt f.hyps f.dummies k) i).label=s)) (fun _=>[OB.var b1 [lS (⟨#[]⟩:BA),lB false,Zg ([]:List BA)]]) (fun j=>[(20,.int (j:Nat))]) (fun j=>(Zdt f.hyps f.dummies k).length-j) (r7 []) U6 0 ⟨nzl,fun i hi=>by omega⟩ ?_)
  rintro j ⟨f2_1,f2_2⟩
  refine qso tb hJ (r7 [1000]) [_] U8 ?_
  refine cjS 7 (fun hb2=>?_) fun hb2=>?_
  ·
   try simp at hb2
   refine Zb (nx (Zf (Zd (tsq (sy (.ptr (hyC (ge (Zdt f.hyps f.dummies k) j))) (fun h=>ZM (i:=(j:Int)) ZI Y (h.get 4 Y) (h.get 6 Y) nnn (ZT (xs:=(Zdt f.hyps f.dummies k)) (k:=j) sfz) Y h.x) ?_)))))
   refine snK 1 tb Y (Qk (cs:=hyC (ge (Zdt f.hyps f.dummies k) j)) ZaG Y Y Y (lb Y) Y Y Y dz (m:=0) Y Y (fun a w h=>Zk hS _ h.keep h.x _ nlr) (fun a w h w' hk'=>Yw hJ _ _ hk' h.x) ?_)
   refine seK [0,3,4,5,6,7,8,9] U8 Y (nx (qso tb hJ (r8 [1003]) U4 U9 ?_))
   refine cj 8 (fun hb3=>?_) fun hb3=>?_
   ·
    try simp at hb3
    have e3:=ZpY oz f1_2 hb2 f2_2 hb3
    refine tsq (snK 1 tb Y (sy (.agg (hyC (ge (Zdt f.hyps f.dummies k) j))) (fun h=>ZaL (Zly hJ (ge (Zdt f.hyps f.dummies k) j) (by have h9:=ht _ (Zvz (k:=k) (Zp hb2));omega)) Zms Y (Zk hS _ h.keep h.x) (h.x.1) (Za (h.get 0 Y) Zc) (jo hJ h.x)) ?_))
    refine Zn (b:=b1) (off:=0) (es:=U3) (news:=U3) hJ hJ0 YQ Y Y Y (lb Y) Y (fun a w h=>⟨(h.get 3 Y),(h.get 0 Y)⟩) ?_
    refine snK 1 tb Y (seK [0,4] U2 Y ?_)
    exact nx (Zs (fun a w h=>Zay (m:=1) (q:=0) Y Za2 h Y Y (show(_:List CD)=[lS (((ZbA f s).getD default).label),lB (((ZbA f s).getD default).floating),Zg (((ZbA f s).getD default).text)]from by(rw[e3];rfl)<;>rfl) Y (eB (by rw[e3];rfl))))
   ·
    try simp at hb3
    refine Zb (nx (YU tb hJ [1,2,3,4,5,6,1001] [.int (j+1:Nat),_] [0] U7 Y ⟨YT,U⟩ ?_))
    exact Xk (j+1) (r7 []) ⟨oz,Z2 f2_2 hb3⟩
  ·
   try simp at hb2
   refine Zu (nx (YU tb hJ [0,1,2,1001] [.int (k+1:Nat),_] [0] U4 Y ⟨YT,U⟩ ?_))
   exact Xk (k+1) [0,1,2,3] ⟨oz,Z2 f1_2 fun h hm=>by obtain⟨i,hi,rfl⟩:=Xc hm;exact f2_2 i oz⟩
 ·
  try simp at hb1
  refine Zu (nx (tsq (sy (.agg (hyC (⟨⟨#[]⟩,false,[]⟩:Hy))) (fun h=>Y7 (ps:=[]) (us:=[.string ⟨#[]⟩,.bool false,.slice none 0 0]) Zgs Y yz Zjr Y (X1 (.lit _ nzl) (X1 (.lit _ True.intro) (X1 (.nil _ _ nzl) Z0))) h.x) ?_)))
  refine Zn (b:=b1) (off:=0) (es:=U3) (news:=U3) hJ hJ0 YQ Y Y Y (lb Y) Y (fun a w h=>⟨(h.get 1 Y),(h.get 0 Y)⟩) ?_
  refine snK 1 tb Y (seK [0,2] U2 Y ?_)
  exact nx (Zs (fun a w h=>Zay (m:=1) (q:=0) Y Za2 h Y Y (show(_:List CD)=[lS (((ZbA f s).getD default).label),lB (((ZbA f s).getD default).floating),Zg (((ZbA f s).getD default).text)]from by(rw[ZiQ fun i hi=>f1_2 i oz];rfl)<;>rfl) Y (eB (by rw[ZiQ fun i hi=>f1_2 i oz];rfl))))
end Go.Proofs.YtdfadihhfppjaaaGreatDoor
