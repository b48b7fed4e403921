/-
  DERIVED: the shelf's contracts at this dump, in plain words.
  THE ENGINE: a row of structs that is made; two results out of variables; texts of a row.
  CONTRACT of the library: a row of pairs is sorted.
  CONTRACT of the program: pairs in order.
  CONTRACT of the program: what a use breaks.
-/
import Derived.Shelf.SlSortCmp.WholeK
import Derived.Shelf.SlSortCmp.NoneTotal
import Derived.Ground.SlsfProg
import Derived.Test.YtaigaoflehfdcaaGreatDoorZGY
namespace Go.Proofs
open Go.Shelf
def Tryz.sortP_ren:Go.Shelf.Ren:=⟨fun | 6=>200 | 15=>225 | 14=>224 | 28=>246 | 29=>247 | 20=>238 | 21=>239 | 22=>240 | 23=>241 | 24=>242 | 25=>243 | 26=>244 | 27=>245 | 46=>257 | 47=>258 | 48=>259 | 49=>260 | 50=>261 | 57=>268 | n=>n,fun | 22=>51 | 24=>173 | 25=>223 | 3=>3 | 39=>265 | 0=>0 | 53=>302 | 55=>304 | 4=>4 | 46=>296 | 45=>295 | 50=>190 | 5=>5 | 9=>9 | 66=>313 | 70=>317 | 76=>324 | 77=>325 | n=>n,fun | n=>n⟩
theorem Tryz.sortP:Go.Proofs.SlLaysF0.n6 Tryz.prog Tryz.sortP_ren:= {
 mixed:=by kernel_rfl
 f6:=⟨Tryz.f200.name,by decide,Tryz.func200.trans (congrArg some (by kernel_rfl))⟩
 f14:=⟨Tryz.f224.name,by decide,Tryz.func224.trans (congrArg some (by kernel_rfl))⟩
 f15:=Tryz.func225.trans (congrArg some (by kernel_rfl))
 f20:=⟨Tryz.f238.name,by decide,Tryz.func238.trans (congrArg some (by kernel_rfl))⟩
 f21:=⟨Tryz.f239.name,by decide,Tryz.func239.trans (congrArg some (by kernel_rfl))⟩
 f22:=⟨Tryz.f240.name,by decide,Tryz.func240.trans (congrArg some (by kernel_rfl))⟩
 f23:=⟨Tryz.f241.name,by decide,Tryz.func241.trans (congrArg some (by kernel_rfl))⟩
 f24:=⟨Tryz.f242.name,by decide,Tryz.func242.trans (congrArg some (by kernel_rfl))⟩
 f25:=⟨Tryz.f243.name,by decide,Tryz.func243.trans (congrArg some (by kernel_rfl))⟩
 f26:=⟨Tryz.f244.name,by decide,Tryz.func244.trans (congrArg some (by kernel_rfl))⟩
 f27:=⟨Tryz.f245.name,by decide,Tryz.func245.trans (congrArg some (by kernel_rfl))⟩
 f28:=Tryz.func246.trans (congrArg some (by kernel_rfl))
 f29:=Tryz.func247.trans (congrArg some (by kernel_rfl))
 f46:=⟨Tryz.f257.name,by decide,Tryz.func257.trans (congrArg some (by kernel_rfl))⟩
 f47:=Tryz.func258.trans (congrArg some (by kernel_rfl))
 f48:=Tryz.func259.trans (congrArg some (by kernel_rfl))
 f49:=⟨Tryz.f260.name,by decide,Tryz.func260.trans (congrArg some (by kernel_rfl))⟩
 f50:=⟨Tryz.f261.name,by decide,Tryz.func261.trans (congrArg some (by kernel_rfl))⟩
 f57:=⟨Tryz.f268.name,by decide,Tryz.func268.trans (congrArg some (by kernel_rfl))⟩
 t0:=Tryz.underlying0
 a0:=Tryz.isAgg0
 z0:=Tryz.sizeOf0
 v0:=Tryz.zeroValue0
 t3:=Tryz.underlying3
 a3:=Tryz.isAgg3
 z3:=Tryz.sizeOf3
 v3:=Tryz.zeroValue3
 t4:=Tryz.underlying4
 a4:=Tryz.isAgg4
 z4:=Tryz.sizeOf4
 v4:=Tryz.zeroValue4
 t5:=Tryz.underlying5
 a5:=Tryz.isAgg5
 z5:=Tryz.sizeOf5
 v5:=Tryz.zeroValue5
 t9:=Tryz.underlying9
 a9:=Tryz.isAgg9
 z9:=Tryz.sizeOf9
 v9:=Tryz.zeroValue9
 t22:=Tryz.underlying51
 a22:=Tryz.isAgg51
 z22:=Tryz.sizeOf51
 v22:=Tryz.zeroValue51
 t25:=Tryz.underlying223
 a25:=Tryz.isAgg223
 z25:=Tryz.sizeOf223
 v25:=Tryz.zeroValue223
 t39:=Tryz.underlying265
 a39:=Tryz.isAgg265
 z39:=Tryz.sizeOf265
 v39:=Tryz.zeroValue265
 t45:=Tryz.underlying295
 a45:=Tryz.isAgg295
 z45:=Tryz.sizeOf295
 v45:=Tryz.zeroValue295
 t46:=Tryz.underlying296
 a46:=Tryz.isAgg296
 z46:=Tryz.sizeOf296
 v46:=Tryz.zeroValue296
 t50:=Tryz.underlying190
 a50:=Tryz.isAgg190
 z50:=Tryz.sizeOf190
 v50:=Tryz.zeroValue190
 t53:=Tryz.underlying302
 a53:=Tryz.isAgg302
 z53:=Tryz.sizeOf302
 v53:=Tryz.zeroValue302
 t55:=Tryz.underlying304
 a55:=Tryz.isAgg304
 z55:=Tryz.sizeOf304
 v55:=Tryz.zeroValue304
 t66:=Tryz.underlying313
 a66:=Tryz.isAgg313
 z66:=Tryz.sizeOf313
 v66:=Tryz.zeroValue313
 t70:=Tryz.underlying317
 a70:=Tryz.isAgg317
 z70:=Tryz.sizeOf317
 v70:=Tryz.zeroValue317
 t76:=Tryz.underlying324
 a76:=Tryz.isAgg324
 z76:=Tryz.sizeOf324
 v76:=Tryz.zeroValue324
 t77:=Tryz.underlying325
 a77:=Tryz.isAgg325
 z77:=Tryz.sizeOf325
 v77:=Tryz.zeroValue325 }
end Go.Proofs
namespace Go.Proofs.YtaigaoflehfdcaaGreatDoor
open Go.RowKit
def ZuV (P:Program) (t e:TypeId) (kc bytes:Nat) (z:Value):Prop:=
 P.underlying t=some (.slice e)∧(∃ i,P.info? e=some i∧i.zero=some z∧i.size=kc∧i.bytes=bytes)
theorem makeN {P:Program} {t e:TypeId} {kc bytes:Nat} {z:Value} (h1:P.underlying t=some (.slice e)) (hinfo:(P.info? e).map (fun i=>(i.zero,i.size,i.bytes))=some (some z,kc,bytes)):ZuV P t e kc bytes z:=by
 refine⟨h1,?_⟩
 cases hi:P.info? e with
 | none=>rw[hi]at hinfo;cases hinfo
 | some i=>
  rw[hi]at hinfo
  simp only[Option.map_some,Option.some.injEq,Prod.mk.injEq]at hinfo
  exact⟨i,rfl,hinfo.1,hinfo.2.1,hinfo.2.2⟩
theorem ZeM {α:Type} {l:List α} (h0:0<l.length):∀(k i:Nat),i<k*l.length→(List.replicate k l).flatten[i]?=l[i%l.length]?
 | 0,i,h=>by omega
 | k+1,i,h=>by
  rw[List.replicate_succ,List.flatten_cons]
  rcases Nat.lt_or_ge i l.length with h1 | h1
  · rw[List.getElem?_append_left h1,Nat.mod_eq_of_lt h1]
  · rw[List.getElem?_append_right h1,ZeM h0 k (i-l.length) (by rw[Nat.succ_mul]at h;omega),Nat.mod_eq_sub_mod h1]
theorem made_N {c:Array Value} (h0:0<c.size) (k:Nat):(madeCells c (k*c.size)).toList=(List.replicate k c.toList).flatten:=by
 apply List.ext_getElem?
 intro i
 have hl:c.toList.length=c.size:=by simp
 rcases Nat.lt_or_ge i (k*c.size)with h | h
 · rw[ZeM (by rw[hl];exact h0) k i (by rw[hl];exact h),hl]
   have hm:i%c.size<c.size:=Nat.mod_lt _ h0
   simp[madeCells,h,hm]
 · rw[List.getElem?_eq_none (by simp[madeCells];exact h),List.getElem?_eq_none]
   simp only[List.length_flatten,List.map_replicate,List.sum_replicate_nat,hl]
   exact h
theorem ZjM {cs:List CD} {vs:List Value} {S:Nat→Prop} {w:World} (h:RdL S w cs vs):∀ k,RdL S w ((List.replicate k cs).flatten) ((List.replicate k vs).flatten)
 | 0=>trivial
 | k+1=>by
  rw[List.replicate_succ,List.flatten_cons,List.replicate_succ,List.flatten_cons]
  exact h.append (ZjM h k)
section
variable {n:Rn} {N:Nat} {P:Program} {J X:WP} {S S' S'':Nat→Prop} {O:List OB} {w0:World} {env:List (Nat×AV)} {Q:Exit→Act→WP}
theorem Zis {ops:Array Oper} {o:Oper} {rest:List Oper} {t e:TypeId} {kc bytes d k:Nat} {z:Value} {x y:Operand} {α:Type} {f:α→List CD} (a0:α) (ht:ZuV P t e kc bytes z) (hf:∀(S:Nat→Prop) (w:World),RdL S w (f a0) z.cells.toList) (hzc:z.cells.size=kc) (hkc:0<kc) (hJ:Stab J) (hg:o.guard=none) (hop:o.op= .makeSlice t x y) (hd:o.dst=some d) (hN:d<N)
 (h1:∀ a w,So J S w0 N O env a w→Rel (SO S O) w (.int (k:Int)) (a.eval x)∧Rel (SO S O) w (.int (k:Int)) (a.eval y)) (hb:bytes*k≤281474976710656) (h63:k≤9223372036854775807)
 (next:∀ v a w,So J S w0 N (OB.row v e kc ((List.replicate k a0).map f)::O) ((d,.lit v)::YW d env) a w→wpListIn n.F n.d P ops Q rest a w):
 ∀ a w,So J S w0 N O env a w→wpListIn n.F n.d P ops Q (o::rest) a w:=by
 refine ZcU (O2:=fun v=>OB.row v e kc ((List.replicate k a0).map f)::O) (av:=fun v=>.lit v) hg hd hN (fun a w h=>?_) next
 obtain⟨ht1,i,hi,hz,hs,hbb⟩:=ht
 obtain⟨g1,g2⟩:=h1 a w h
 have hb':(i.bytes:Int)*(k:Int)≤281474976710656:=by
  rw[hbb]
  have h:((bytes*k:Nat):Int)≤281474976710656:=by omega
  rwa [Int.natCast_mul]at h
 have hrun:=run_make (P:=P) w t e i z ht1 hi hz .i64 .i64 (k:Int) (k:Int) oz (Int.le_refl _) hb' oz
 rw[hs,Int.toNat_natCast]at hrun
 have hk:Keeps All w (w.alloc (.cells (madeCells z.cells (k*kc)) e)):=(Keeps.refl _ _).alloc _
 have hmade:(madeCells z.cells (k*kc)).toList=(List.replicate k z.cells.toList).flatten:=by rw[←hzc];exact made_N oz k
 have hrows:((List.replicate k a0).map f).flatten=(List.replicate k (f a0)).flatten:=by rw[List.map_replicate]
 have hfl:(f a0).length=kc:=by rw[←(hf S w).length];simpa using hzc
 have hml:(madeCells z.cells (k*kc)).toList.length=k*kc:=by simp[madeCells]
 refine Yb (v:=.slice (some ⟨w.heap.size,0,none⟩) k k) (w':=w.alloc (.cells (madeCells z.cells (k*kc)) e)) ?_ ⟨.slice (some ⟨w.heap.size,0,none⟩) k k,Qv hJ h.keep h.x hk (fun b hb=>?_) ?_,Rel.of_lit _⟩
 · simp only[execOp,hop,g1.lit,g2.lit,Sem.run_bind,hrun]
   rfl
 · simp[OB.row,Value.ownBlock]at hb
   omega
 · refine⟨(madeCells z.cells (k*kc)).toList,⟨by rw[hml];simp,.inr ⟨w.heap.size,k,madeCells z.cells (k*kc),by simp,h.keep.size,heap_alloc_new w _,by simp,by unfold maxLen;omega,by simp[madeCells],?_⟩⟩,?_,fun r hr=>?_⟩
   · exact List.take_of_length_le (by rw[hml];simp)
   · rw[hrows,hmade];exact ZjM (hf _ _) k
   · rw[List.map_replicate]at hr
     rw[(List.mem_replicate.1 hr).2];exact hfl
end
section
variable {N:Nat} {P:Program} {J:WP} {S:Nat→Prop} {O:List OB} {w0 w:World} {env:List (Nat×AV)} {a:Act} {b b2:Nat} {cs:List CD} {c2:CD} {t t2:TypeId}
theorem Zno {fn:Func} {d m q u:Nat} {k:Nat} {cs':List CD} {r2:AV} (hr:fn.results= #[.cell d t,.cell u t2]) (h1:XZ P t k) (h2:QA P t2) (h:So J S w0 N (OB.var b cs::OB.var b2 [c2]::O) env a w) (he:env[m]?=some (d,.at b 0)) (he2:env[q]?=some (u,.at b2 0)) (hl:cs.length=k) (hE:cs=cs') (hE2:AV.rd c2=r2):
 bodyPost P fn (fun e w'=>∃ v,e= .returned v∧Rel S w' (.tup [.agg cs',r2]) v∧Keeps All w0 w'∧J w') .ret a w:=by
 subst hE
 subst hE2
 obtain⟨h0,us,e,hb,hrd⟩:=h.x.2.1 (OB.var b cs) yz
 obtain⟨g0,vs,e',gb,grd⟩:=h.x.2.1 (OB.var b2 [c2]) yz
 match vs,grd with
 | [v2],grd=>
  have hd:a.tmps.getD d undef= .pointer (some ⟨b,0,none⟩):=(h.get m he).lit
  have hu:a.tmps.getD u undef= .pointer (some ⟨b2,0,none⟩):=(h.get q he2).lit
  have hrun:=YR (P:=P) b 0 w us 0 #[] fun j u hj=>by rw[Nat.zero_add];simp[World.cell?,hb,hj]
  rw[show us.length=k by rw[hrd.length,hl]]at hrun
  have hd':a.tmps[d]?.getD undef= .pointer (some ⟨b,0,none⟩):=by rw[←Array.getD_eq_getD_getElem?];exact hd
  have hu':a.tmps[u]?.getD undef= .pointer (some ⟨b2,0,none⟩):=by rw[←Array.getD_eq_getD_getElem?];exact hu
  have hcell:w.cell? ⟨b2,0,none⟩=some v2:=by simp[World.cell?,gb]
  refine⟨h.defs,.tuple #[.agg us.toArray,v2],by simp[results,hr,hd',hu',asAddr,Sem.run_bind,loadVar,loadCells,h1.1 w,h1.2 w,h2 w,hrun,hcell],_,rfl,?_,h.keep,h.x.1⟩
  simp only[Rel,RelL]
  exact⟨_,rfl,_,_,rfl,⟨us,rfl,hrd.sub fun _ _ hk=>hk.1⟩,_,_,rfl,grd.1.sub fun _ _ hk=>hk.1,rfl⟩
theorem ZsZ {T:Nat→Prop} {us:List BA} {v:Value} (h:Rd T w (Zi us) v):∀ s∈us,s.size≤maxLen:=by
 unfold Zi at h
 generalize hr:us.map Q3=rows at h
 cases h with
 | nil a cap hm=>simp at hr;subst hr;simp
 | sl b off cap n rows vs hl hm hb hS hn hc hrd=>
  subst hr
  intro s hs
  obtain⟨i,hi,rfl⟩:=List.getElem_of_mem hs
  have h1:=hrd i 0 (Q3 us[i]) (.lit (.string us[i])) (by simp[hi]) rfl
  generalize vs i 0=u at h1
  cases h1 with
  | lit _ hv=>exact hv
theorem lnStrA {fid:FuncId} {K:Nat→Prop} {X:WP} {c:Code} {Q:Exit→Act→WP} {us:List BA} {s:Nat} (m:Nat) (h:(∀ x∈us,x.size≤maxLen)→TrA fid P (St K S w0 N env X) c Q) (he:env[m]?=some (s,.rd (Zi us)):=by exact rfl):TrA fid P (St K S w0 N env X) c Q:=fun a w ha=>h (ZsZ (by have:=ha.get m he;simpa only[Rel]using this)) a w ha
end
end Go.Proofs.YtaigaoflehfdcaaGreatDoor
set_option maxHeartbeats 8000000
set_option maxRecDepth 100000
namespace Go.Proofs.YtaigaoflehfdcaaGreatDoor
open Go.RowKit
open Go.Sort Go.Shelf
abbrev PrB:Type:= {p:Pr // p.a.size≤maxLen∧p.b.size≤maxLen}
instance instInhPrB:Inhabited PrB:=⟨⟨⟨⟨#[]⟩,⟨#[]⟩⟩,nzl,nzl⟩⟩
def Zh2 (p:PrB):List Value:=Zn7 p.1
def cfB (p q:PrB):Int:=ZfZ p.1 q.1
theorem ltB (p q:PrB):ltOf cfB p q=ltP p.1 q.1:=by
 unfold ltOf cfB
 by_cases h:ltP p.1 q.1=true
 · rw[decide_eq_true (cmpT_lt.2 h),h]
 · rw[decide_eq_false (fun h2=>h (cmpT_lt.1 h2))]
   simpa using h
theorem swoB:Go.Sort.SWO (ltOf cfB) where
 irrefl x:=by rw[ltB];exact ZiJ _
 trans x y z h1 h2:=by rw[ltB]at*;exact Zan h1 h2
 ntrans x y z h1 h2:=by
  rw[ltB]at*
  cases h3:ltP x.1 z.1 with
  | false=>rfl
  | true=>
   cases h4:ltP y.1 x.1 with
   | true=>rw[Zan h4 h3]at h2;cases h2
   | false=>rw[ZiI h1 h4,h2]at h3;cases h3
theorem ZqI (blk off size:Nat) (w:World):CmpLays Tryz.prog 162 #[] Zh2 2 cfB blk off size w:=fun m os dk _ x y=>by
 have:=Zoc x.1 y.1 x.2 y.2 (sortWorldK Zh2 2 w blk off m dk os)
 rw[Array.append_empty]
 exact this
theorem Zkj {α:Type} [Inhabited α] {enc:α→List Value} {k:Nat} (hk:∀ x,(enc x).length=k) (h0:0<k):∀(l:List α) (t:Nat),t<l.length*k→(l.flatMap enc)[t]?=(enc (ge l (t/k)))[t%k]?
 | [],t,h=>by simp at h
 | x::l,t,h=>by
  rw[List.flatMap_cons]
  rcases Nat.lt_or_ge t k with h1 | h1
  · rw[List.getElem?_append_left (by rw[hk];exact h1),Nat.div_eq_of_lt h1,Nat.mod_eq_of_lt h1]
    rfl
  · have e:t=(t-k)+k:=by omega
    rw[List.getElem?_append_right (by rw[hk];exact h1),hk,Zkj hk h0 l (t-k) (by simp only[List.length_cons,Nat.succ_mul]at h;omega)]
    rw[show t/k=(t-k)/k+1 from by rw[Nat.div_eq_sub_div h0 h1],Nat.mod_eq_sub_mod h1]
    simp[ge]
theorem ZlD {α:Type} [Inhabited α] {enc:α→List Value} {k:Nat} (hk:∀ x,(enc x).length=k) (h0:0<k) (d:Array α):(flatK enc k d).toList=d.toList.flatMap enc:=by
 apply List.ext_getElem?
 intro t
 have hl:d.toList.length=d.size:=by simp
 rcases Nat.lt_or_ge t (d.size*k)with h | h
 · rw[Zkj hk h0 d.toList t (by rw[hl];exact h)]
   have h1:=get_flatK enc k d t h
   have hdk:t/k<d.size:=Nat.div_lt_of_lt_mul (by rw[Nat.mul_comm];exact h)
   have hm:t%k<k:=Nat.mod_lt _ h0
   have h2:(flatK enc k d).toList[t]?=some ((flatK enc k d)[t]!):=by
    rw[Array.getElem?_toList,Array.getElem?_eq_getElem (by simpa using h),getElem!_pos _ t (by simpa using h)]
   rw[h2,h1]
   have e1:ge d.toList (t/k)=d[t/k]!:=by
    rw[YS (by rw[hl];exact hdk),getElem!_pos d (t/k) hdk];simp
   rw[e1,List.getElem?_eq_getElem (show t%k< (enc d[t/k]!).length by rw[hk];exact hm),getElem!_pos (enc d[t/k]!) (t%k) (by rw[hk];exact hm)]
 · rw[List.getElem?_eq_none (by simpa using h),List.getElem?_eq_none]
   rw[List.length_flatMap]
   simp only[hk,List.map_const',List.sum_replicate_nat]
   simpa using h
theorem Zpb (cur F:Array Value) (h:F.size≤cur.size):(putCells id 0 F cur).toList.take F.size=F.toList:=by
 apply List.ext_getElem?
 intro t
 rw[List.getElem?_take]
 split
 · rename_i h1
   have h2:t<cur.size:=by omega
   simp[putCells,h1,h2]
 · rename_i h1
   rw[List.getElem?_eq_none (by simpa using h1)]
theorem ZmQ {S:Nat→Prop} {w:World}:∀ {ps:List Pr} {us:List Value},RdL S w (ps.map prC).flatten us→us=ps.flatMap Zn7∧∀ p∈ps,p.a.size≤maxLen∧p.b.size≤maxLen
 | [],us,h=>by
  have:=h.length
  simp at this
  exact⟨by simpa using this,by simp⟩
 | p::ps,us,h=>by
  match us,h with
  | u1::u2::us,⟨h1,h2,h3⟩=>
   obtain⟨e,hb⟩:=ZmQ (ps:=ps) h3
   have ok1:p.a.size≤maxLen:=by cases h1 with | lit _ hv=>exact hv
   have ok2:p.b.size≤maxLen:=by cases h2 with | lit _ hv=>exact hv
   refine⟨by rw[h1.of_lit,h2.of_lit,e];rfl,fun q hq=>?_⟩
   rcases List.mem_cons.1 hq with rfl | hq
   · exact⟨ok1,ok2⟩
   · exact hb q hq
theorem pr_rd {S:Nat→Prop} {w:World}:∀ {ps:List Pr},(∀ p∈ps,p.a.size≤maxLen∧p.b.size≤maxLen)→RdL S w (ps.map prC).flatten (ps.flatMap Zn7)
 | [],_=>trivial
 | p::ps,h=>⟨.lit _ (h p yz).1,.lit _ (h p yz).2,pr_rd fun q hq=>h q (by simp[hq])⟩
theorem Zto {J:WP} (hJ:Stab J) (v:Value) (ps:List Pr) (hn:ps.length≤140737488355328):FnM (ι:= {qs:List Pr // qs.Perm ps∧WkP qs}) Tryz.prog J 200 [] [.lit v,.fn 162 []] [OB.row v 173 2 (ps.map prC)] (fun _=>.tup []) (fun i=>[OB.row v 173 2 (i.1.map prC)]):=by
 intro S w0 R w vs hS hJ0 hH hk hx ha
 simp only[RelL]at ha
 obtain⟨u,_,rfl,h1,u2,_,rfl,h2,rfl⟩:=ha
 obtain rfl:=h1.lit
 obtain rfl:u2= .func (.func 162) #[] #[]:=by
  simp only[Rel,RelL]at h2
  obtain⟨_,rfl,rfl⟩:=h2
  rfl
 have hi:=hx.2.1 (OB.row u 173 2 (ps.map prC)) yz
 obtain⟨us,⟨hul,hrow⟩,hrd,h3⟩:=hi
 rcases hrow with⟨rfl,hz⟩ | ⟨g,cap,cur,rfl,hb,hg,hnc,hcm,hcs,ht⟩
 · have hps:ps=[]:=by simpa using hz
   subst hps
   refine(AnyF.slices_SortFunc_none Tryz.sortP none 0 _ w).mono ?_
   rintro e w' ⟨rfl,rfl⟩
   exact⟨⟨[],.refl _,.nil⟩,_,rfl,by simp only[Rel,RelL];exact⟨[],rfl,rfl⟩,hk,hx⟩
 · obtain⟨hus,hok⟩:=ZmQ hrd
   have hlen:(ps.map prC).length=ps.length:=List.length_map _
   rw[hlen]at hnc ht hul
   obtain⟨d,hd⟩:∃ d:Array PrB,d.toList.map (·.1)=ps:=⟨(ps.pmap (fun p h=>(⟨p,h⟩:PrB)) hok).toArray,by simp[List.map_pmap]⟩
   have hds:d.size=ps.length:=by rw[←hd];simp
   have hkB:∀ x:PrB,(Zh2 x).length=2:=fun _=>rfl
   have hfl:∀ e:Array PrB,(flatK Zh2 2 e).toList=(e.toList.map (·.1)).flatMap Zn7:=fun e=>by
    rw[ZlD hkB oz,List.flatMap_map]
    rfl
   have hgl:g<w.heap.size:=(Array.getElem?_eq_some_iff.1 hg).1
   have hfz:∀ j,w.frozen? ⟨g,j,none⟩=false:=fun j=>by simp[World.frozen?,hg]
   have hH:HoldsK Zh2 2 w g 0 d:=fun j hj=>by
    refine⟨?_,hfz _⟩
    have hj2:j<ps.length*2:=by rw[size_flatK,hds]at hj;exact hj
    have e1:cur.toList[j]?=some ((flatK Zh2 2 d)[j]!):=by
     have e2:(cur.toList.take (ps.length*2))[j]?=cur.toList[j]?:=by rw[List.getElem?_take,if_pos hj2]
     rw[←e2,ht,hus,←hd,←hfl d,Array.getElem?_toList,Array.getElem?_eq_getElem hj,getElem!_pos _ j hj]
    rw[Nat.zero_add]
    simp only[World.cell?,hg]
    simpa using e1
   have hcall:=AnyQ.slices_SortFunc Tryz.sortP 2 Tryz.isAgg173 Tryz.sizeOf173 Zh2 hkB (fun x v hv=>by simp[Zh2,Zn7]at hv;rcases hv with rfl | rfl<;>rfl) cfB swoB 162 #[] g 0 cap d w (enters_of Tryz.func162 (by kernel_rfl) rfl) (ZqI g 0 d.size w) hH hgl oz
   rw[hds]at hcall
   rw[hlen]
   refine hcall.mono ?_
   rintro e w' ⟨rfl,d',n,os,hperm,hsrt,rfl⟩
   have hd's:d'.size=ps.length:=by rw[hperm.1,hds]
   have hpm:(d'.toList.map (·.1)).Perm ps:=by
    have h9:=hperm.2.2
    rw[show d'.extract 0 ps.length=d' by rw[←hd's];exact Array.extract_size,show d.extract 0 ps.length=d by rw[←hds];exact Array.extract_size]at h9
    rw[←hd]
    exact h9.map _
   have hwk:WkP (d'.toList.map (·.1)):=by
    unfold WkP
    rw[List.pairwise_map,List.pairwise_iff_getElem]
    intro i j hi hj hij
    have h9:=hsrt i j nzl hij (by rw[←hd's];simpa using hj)
    rw[ltB,getElem!_pos _ j (by simpa using hj),getElem!_pos _ i (by simpa using hi)]at h9
    simpa using h9
   have hheap:(sortWorldK Zh2 2 w g 0 n d' os).heap[g]?=some (.cells (putCells id 0 (flatK Zh2 2 d') cur) 173):=by
    show(grow (putRow id (Sort.ahead w n) g 0 (flatK Zh2 2 d')) os).heap[g]?=_
    rw[heap_grow_old _ _ (by simpa [Sort.ahead]using hgl)]
    show((Sort.ahead w n).heap.modify g _)[g]?=_
    rw[Array.getElem?_modify,if_pos rfl]
    show(w.heap[g]?).map _=_
    rw[hg]
    rfl
   have hkk:Keeps (fun k=>k≠g) w (sortWorldK Zh2 2 w g 0 n d' os):=by
    refine⟨?_,?_,?_,?_,?_⟩
    · simp[sortWorldK,putRowK,grow,putRow,mapBlock,Sort.ahead]
    · simp[sortWorldK,putRowK,grow,putRow,mapBlock,Sort.ahead]
    · simp[sortWorldK,putRowK,grow,putRow,mapBlock,Sort.ahead]
    · simp[sortWorldK,putRowK,grow,putRow,mapBlock,Sort.ahead]
    · intro k hk hne
      show(grow (putRow id (Sort.ahead w n) g 0 (flatK Zh2 2 d')) os).heap[k]?=_
      rw[heap_grow_old _ _ (by simpa [Sort.ahead]using hk)]
      show((Sort.ahead w n).heap.modify g _)[k]?=_
      rw[Array.getElem?_modify,if_neg (fun e=>hne e.symm)]
      rfl
   have hFs:(flatK Zh2 2 d').size=ps.length*2:=by rw[size_flatK,hd's]
   have hk0:Keeps All w0 (sortWorldK Zh2 2 w g 0 n d' os):=hk.upto' hkk fun k hk0 e=>by subst e;omega
   have hok':∀ p∈d'.toList.map (·.1),p.a.size≤maxLen∧p.b.size≤maxLen:=fun p hp=>hok p (hpm.mem_iff.1 hp)
   have hinv:(OB.row (.slice (some ⟨g,0,none⟩) ps.length cap) 173 2 ((d'.toList.map (·.1)).map prC)).inv w0.heap.size (SO S ([OB.row (.slice (some ⟨g,0,none⟩) ps.length cap) 173 2 ((d'.toList.map (·.1)).map prC)]++R)) (sortWorldK Zh2 2 w g 0 n d' os):=by
    have hl2:((d'.toList.map (·.1)).map prC).length=ps.length:=by simp[hd's]
    refine⟨(d'.toList.map (·.1)).flatMap Zn7,⟨?_,.inr ⟨g,cap,putCells id 0 (flatK Zh2 2 d') cur,by rw[hl2],hb,hheap,by rw[hl2];exact hnc,hcm,by simpa [putCells]using hcs,?_⟩⟩,pr_rd hok',fun r hr=>by obtain⟨p,_,rfl⟩:=List.mem_map.1 hr;rfl⟩
    · rw[hl2,←hfl d',Array.length_toList,hFs]
    · rw[hl2,←hfl d',←hFs]
      exact Zpb cur _ (by rw[hFs,hcs];exact Nat.mul_le_mul_right _ hnc)
   refine⟨⟨d'.toList.map (·.1),hpm,hwk⟩,_,rfl,by simp only[Rel,RelL];exact⟨[],rfl,rfl⟩,hk0,?_⟩
   have hx1:=hx
   rw[hlen]at hx1
   have:=Zju (o':=OB.row (.slice (some ⟨g,0,none⟩) ps.length cap) 173 2 ((d'.toList.map (·.1)).map prC)) hx1 (hJ _ _ hk0 hJ0) (hkk.sub fun k _ hk=>fun e=>hk (by show(OB.row (.slice (some ⟨g,0,none⟩) ps.length cap) 173 2 (ps.map prC)).blk k;rw[e];rfl)) (fun k hk=>.inl hk) hinv
   exact this.1
end Go.Proofs.YtaigaoflehfdcaaGreatDoor
set_option maxHeartbeats 8000000
set_option maxRecDepth 100000
namespace Go.Proofs.YtaigaoflehfdcaaGreatDoor
open Go.RowKit
theorem ZhH:ZuV Tryz.prog 51 173 2 32 (.agg #[.string ⟨#[]⟩,.string ⟨#[]⟩]):=makeN (by kernel_rfl) (by kernel_rfl)
theorem ZpT {J:WP} (hJ:Stab J) (l:List Pr) (hwd:l.length*32≤140737488351232):FnM (ι:= {qs:List Pr // ZuW l qs}) Tryz.prog J 159 [] [.rd (Xa l)] [] (fun i'=>.rd (Xa (i'.1))) (fun _=>[]):=by
 refine fEM Tryz.func159 fun S w0 R hS hJ0 hH=>?_
 refine Xq (B:=So J S w0 26 (R) [(0,.rd (Xa l))]) ?_ fun a w h=>h
 refine ln 0 fun hl1=>?_
 refine qso tb hJ [0] [_] [_] ?_
 refine tsq (snK 1 tb rfl (sy (.int (l.length:Nat)) (fun h=>Zel ZH rfl (h.get 0 rfl) h.x) ?_))
 refine Zis (f:=prC) (k:=l.length) (⟨⟨#[]⟩,⟨#[]⟩⟩:Pr) ZhH (fun _ _=>⟨.lit _ nzl,.lit _ nzl,trivial⟩) rfl dz hJ rfl rfl rfl (lb rfl) (fun a w h=>⟨(h.get 0 rfl),(h.get 0 rfl)⟩) sfz sfz fun v1=>?_
 refine snK 1 tb rfl (seK [0,4] U2 rfl ?_)
 refine nx (Zd (ZE tb hJ [0,1000,1001,1002] [_,.int (l.length:Nat),_] [1] U4 rfl ⟨ZX ZH,trivial⟩ ?_))
 refine Zc (lpo (ι:=Nat×(List Pr)) (fun(k,rs)=>(k≤l.length)∧(rs.length=l.length)∧(∀ i,i<k→ge rs i=Qk (ge l i))) (fun(_,rs)=>(OB.row v1 173 2 (rs.map prC)::R)) (fun(k,_)=>[(11,.int (k:Nat))]) (fun(k,_)=>l.length-k) [0,1,2,3] U3 (0,List.replicate l.length (⟨⟨#[]⟩,⟨#[]⟩⟩:Pr)) ⟨nzl,List.length_replicate,fun i hi=>by omega⟩ ?_)
 rintro⟨k,rs⟩ ⟨f1_1,f1_2,f1_3⟩
 refine qso tb hJ [0,1,2,3,1000] [_] U5 ?_
 refine cjS 4 (fun hb1=>?_) fun hb1=>?_
 ·
  try simp at hb1
  refine Za (nx (Zd (Zc (tsq (snK 1 tb rfl (sy (.ptr (prC (ge l k))) (fun h=>ZK (i:=(k:Int)) Zo rfl (h.get 2 rfl) (h.get 4 rfl) nnn (ZR (xs:=l) (k:=k) sfz) rfl h.x) ?_))))))
  refine snK 1 tb rfl (Z9 Xo hJ rfl rfl rfl (lb rfl) fun b2=>?_)
  refine snK 1 tb rfl (ZD (b:=b2) (off:=0) (es:=U2) (news:=U2) hJ hJ0 YF rfl rfl rfl (lb rfl) rfl (fun a w h=>⟨(h.get 1 rfl),(h.get 2 rfl)⟩) ?_)
  refine kw (fun h=>Yn hS h (m:=1) (s:=5) rfl) (seK [0,1,5,6,7,8] U6 rfl ?_)
  refine nx (Ya (snK 3 tb rfl (sy (.agg (prC (Qk (ge l k)))) (fun h=>ZcZ (Zhv hJ (ge l k)) ZkB rfl (Zy hS _ h.keep h.x) (h.x.1) (Zb (h.get 0 rfl) Zk) (jo hJ h.x)) ?_)))
  refine sy (.lit (XG v1 (k*2))) (fun h=>YC (i:=(k:Int)) Zo rfl (Zu h.x (mo 0 rfl)) (h.get 3 rfl) (h.get 2 rfl) nnn (by rw[List.length_map];exact Int.ofNat_lt.2 sfz) h.x) ?_
  refine Q4 (i:=k) hJ hJ0 YF rfl rfl rfl (by rw[List.length_map];exact sfz) rfl (fun a w h=>⟨(h.get 0 rfl),(h.get 1 rfl)⟩) ?_
  rw[show(rs.map prC).set k (prC (Qk (ge l k)))=(rs.set k (Qk (ge l k))).map prC from List.map_set.symm]
  refine seK [7,8,9,10] U4 rfl (nx (YA tb hJ [0,1,2,1001] [.int (k+1:Nat),_] [0] U4 rfl ⟨Yf,trivial⟩ ?_))
  exact YK (k+1,rs.set k (Qk (ge l k))) [0,1,2,3] ⟨oz,by rw[List.length_set];exact f1_2,fun i hi=>by rw[ZnL oz];by_cases h9:i=k;(· simp[h9]);rw[if_neg h9];exact f1_3 i oz⟩
 ·
  try simp at hb1
  have e9:rs=l.map Qk:=map_of f1_2 fun i hi=>f1_3 i oz
  refine Zp (nx (tsq (snK 1 tb rfl (ZaZ (O:=[OB.row v1 173 2 (rs.map prC)]) (R:=(R)) (Zto hJ v1 rs sfz) Zq2 rfl rfl rfl (lb rfl) hS hJ0 ZI (fun a w h=>(Zb (h.get 0 rfl) (Zb (Qw 162) Zk))) fun z3=>?_))))
  refine seK [2] [_] rfl (nx (tsq ?_))
  refine snK 1 tb rfl (ZaZ (O:=[OB.row v1 173 2 (z3.1.map prC)]) (R:=(R)) (Zlk hJ v1 z3.1 (by have h9:=z3.2.1.length_eq;omega)) Zq1 rfl rfl rfl (lb rfl) hS hJ0 ZI (fun a w h=>(Zb (h.get 0 rfl) Zk)) fun z4=>?_)
  refine snK 1 tb rfl (seK [0] [_] rfl ?_)
  exact nx (tw (fun h=>ZF hS h (m:=0) (s:=2) rfl) (ZB (fun a w h=>Yl  (m:=0) ⟨(ZcP z3.1 z3.1.length),srt_of (e9▸z3.2.1) z3.2.2⟩ rfl h rfl rfl)))
theorem Zf2:Zf4 Tryz.prog 173 [.string ⟨#[]⟩,.string ⟨#[]⟩]:=⟨fun i=>(#[(0,1),(1,1)]:Array (Nat×Nat))[i]?,fun j hj=>by rcases j with _ | _ | j<;>first | rfl | (simp at hj;omega) | simp at hj,fun parts=>by kernel_rfl⟩
theorem ZgM {l:List Bd} {ap:List Pr} {us:List BA} {wd:List Pr} {q:Pr} (h:Zjk l ap us wd=some q):Zd2 l ap us wd=q:=by unfold Zd2;rw[h];rfl
theorem ZgO {l:List Bd} {ap:List Pr} {us:List BA} {wd:List Pr} {q:Pr} (h:Zjk l ap us wd=some q):Zfr l ap us wd=true:=by unfold Zfr;rw[h];rfl
theorem ZgN {l:List Bd} {ap:List Pr} {us:List BA} {wd:List Pr} (h:Zjk l ap us wd=none):Zd2 l ap us wd=⟨⟨#[]⟩,⟨#[]⟩⟩:=by unfold Zd2;rw[h];rfl
theorem ZgP {l:List Bd} {ap:List Pr} {us:List BA} {wd:List Pr} (h:Zjk l ap us wd=none):Zfr l ap us wd=false:=by unfold Zfr;rw[h];rfl
theorem Zlg {J:WP} (hJ:Stab J) (bl:List Bd) (us:List BA) (ap:List Pr)  :Fn Tryz.prog J 160 [.rd (ZdH bl),.rd (Xa ap),.rd (Zi us)] (.fn 202 [.ptr [ZdH bl],.ptr [Zi us],.ptr [Xa ap]]):=by
 refine fE Tryz.func160 fun S w0 hS hJ0=>?_
 clear hJ0
 refine ln 0 fun hl1=>?_
 refine ln 1 fun hl2=>?_
 refine ln 2 fun hl3=>?_
 refine hqs tb hJ [1000,1001,1002] [.ptr [ZdH bl],.ptr [Xa ap],.ptr [Zi us],_] [0,1,2] U3 rfl ⟨fun _ _ hk hx hl _=>Zdn rfl (hl.env 0 0 _ rfl rfl) (hS _ hk.size) (js hJ hx),fun _ _ hk hx hl _=>Zdn rfl (hl.env 1 1 _ rfl rfl) (hS _ hk.size) (js hJ hx),fun _ _ hk hx hl _=>Zdn rfl (hl.env 2 2 _ rfl rfl) (hS _ hk.size) (js hJ hx),trivial⟩ ?_
 refine hqs tb hJ [1001] [.fn 202 [.ptr [ZdH bl],.ptr [Zi us],.ptr [Xa ap]],_] [0] [_] rfl ⟨fun _ _ _ hx hl _=>XV (caps:=[(.tmp 3),(.tmp 5),(.tmp 4)]) rfl (Zb (hl.env 0 3 _ rfl rfl) (Zb (hl.env 2 5 _ rfl rfl) (Zb (hl.env 1 4 _ rfl rfl) Zk))) hx,trivial⟩ ?_
 exact tRn 0 (hE:=rfl)
theorem ZpZ {J:WP} (hJ:Stab J) (bl:List Bd) (ap:List Pr) (us:List BA) (wd:List Pr) (hbl:∀ b∈bl,b.text.length≤2000) (hwd:wd.length*32≤140737488351232):Fn Tryz.prog J 111 [.rd (ZdH bl),.rd (Xa ap),.rd (Zi us),.rd (Xa wd)] (.tup [.agg (prC (Zd2 bl ap us wd)),.bool (Zfr bl ap us wd)]):=by
 refine ZnW (N:=38) Tryz.func111 rfl rfl (lb rfl) fun S w0 hS hJ0=>?_
 refine atw Z6 ?_
 refine lnA 0 fun hl1=>?_
 refine lnA 1 fun hl2=>?_
 refine lnA 2 fun hl3=>?_
 refine lnA 3 fun hl4=>?_
 refine lnStrA 2 fun hus=>?_
 refine Znx (m:=5) ?_
 refine Ya (Z9 Xo hJ rfl rfl rfl (lb rfl) fun b1=>?_)
 refine Z9 Zo2 hJ rfl rfl rfl (lb rfl) fun b2=>?_
 refine seK (r6 []) U6 rfl (nxA ?_)
 refine Znx (m:=5) ?_
 refine Ya (snK 1 tb rfl (ZaZ (O:=[]) (R:=[OB.var b2 [lB false],OB.var b1 [lS (⟨#[]⟩:BA),lS (⟨#[]⟩:BA)]]) (ZpT hJ wd sfz) Zrj rfl rfl rfl (lb rfl) hS hJ0 ZI (fun a w h=>(Zb (h.get 0 rfl) Zk)) fun z3=>?_))
 refine Z9 Zmb hJ rfl rfl rfl (lb rfl) fun b4=>?_
 refine Y2 (b:=b4) (off:=0) (es:=[_]) hJ hJ0 Zmv rfl rfl rfl (lb rfl) rfl (fun a w h=>⟨(h.get 0 rfl),(h.get 1 rfl)⟩) ?_
 refine kw (fun h=>Yn hS h (m:=0) (s:=10) rfl) (seK [0,1,3,4,5,6,7] U7 rfl ?_)
 refine nxA ?_
 refine lnA 1 fun hl5=>?_
 refine a_seq ?_
 refine Znx (m:=5) ?_
 refine YA tb hJ [0,2,3,1003] (V3 [.fn 202 [.ptr [ZdH bl],.ptr [Zi us],.ptr [Xa ap]]]) [3] U4 rfl ⟨iFo hS hJ (Zlg hJ bl us ap) Zri,trivial⟩ ?_
 refine nxA ?_
 refine ZuS ?_
 refine atw (fun h=>Zhe (p:=(∀ x∈([]:List Pr),Ze6 wd x=false)) (fun x hx=>by cases hx) h) ?_
 refine Ztd (m:=5) (κ:=Unit) (μ:=Empty) (σ:= {q:Pr // Zjk bl ap us wd=some q}) (ZiC hJ bl us ap hbl) Zq0 hJ hS hJ0 ZI (fun pre _=>[OB.fct (∀ x∈pre,Ze6 wd x=false),OB.var b2 [lB false],OB.var b1 [lS (⟨#[]⟩:BA),lS (⟨#[]⟩:BA)]]) (fun q':Empty=>undef) (fun q'=>[]) (fun s'=>[OB.var b1 (prC (s'.1)),OB.var b2 [lB true]]) () (fun x9=>.agg (prC x9)) (fun x9=>[(11,.ptr (prC x9)),(10,.ptr [Xa z3.1]),(9,.at b2 0),(8,.at b1 0)]) (lb rfl) Tryz.func111 (fun _ _ x hx=>Zgh (Zsk hus hx).1 (Zsk hus hx).2) ?_ ?_ ?_ ?_ ?_ ?_ ?_
 · exact fun a w h=>Ztb (h.get 3 rfl)
 rintro m9 l9 R' pre x9 _ K9 hK9
 refine Ya (Qn (cs:=prC x9) Zca rfl rfl rfl (lb rfl) rfl rfl rfl dz (m:=0) rfl rfl (fun a w h=>Zy hS _ h.keep h.x _ nlr) (fun a w h w' hk'=>YL hJ _ _ hk' h.x) ?_)
 exact seK [0,2,3,4] U4 rfl (hK9)
 rintro m9 l9 R' pre x9 _ hpre
 refine tr_fct fun hF=>?_
 have r1_:∀ x∈pre,Ze6 wd x=false:=hF
 refine Zc (ZE tb hJ [0,1,2,3,1007] [_,_,.tup [.int (bsN z3.1 x9:Nat),.bool (decide (x9∈z3.1))],_,_,_,_,_] [2] U5 rfl ⟨iFo hS hJ (p_bsP hJ z3.1 x9 162 [] (fun x' y'=>(ZmY hJ x' y').r) (Zrg) (z3.2.1) (by have:=z3.2.2.2;omega)) Zrh,trivial⟩ ?_)
 refine qso tb hJ [0,1,2,3,1008] U9 U5 ?_
 refine cj 4 (fun hb1=>?_) fun hb1=>?_
 have e8:Ze6 wd x9=true:=(ZsH z3.2).symm.trans hb1
 refine tsq (snK 1 tb rfl (kw pm1 ?_))
 refine ZD (b:=b1) (off:=0) (es:=U2) (news:=U2) hJ hJ0 YF rfl rfl rfl (lb rfl) rfl (fun a w h=>⟨(h.get 4 rfl),(h.get 0 rfl)⟩) ?_
 refine kw pm1 (Y2 (b:=b2) (off:=0) (es:=[_]) hJ hJ0 ZjG rfl rfl rfl (lb rfl) rfl (fun a w h=>⟨(h.get 3 rfl),(Rel.of_lit (.bool true))⟩) ?_)
 refine seK [3,4] U2 rfl (nx (ZB (kw pm1 ?_)))
 exact fun a w h=>⟨⟨x9,ZuL hpre r1_ e8⟩,h.keep,h.x⟩
 have e8:Ze6 wd x9=false:=(ZsH z3.2).symm.trans hb1
 exact Za (kw (fun h=>Zhe (p:=(∀ x∈(pre++[x9]),Ze6 wd x=false)) (ZpF r1_ e8) h) (fun a w h=>⟨(),h.keep,h.x⟩))
 rintro hfl _ D
 refine kw pm1 (st_fct fun hF=>?_)
 have r1_:∀ x∈(ZbD bl ap us),Ze6 wd x=false:=hF
 have e9:Zjk bl ap us wd=none:=ZrX r1_
 refine nxAD (m:=5) ?_
 refine dk_seq ?_
 refine d_text ?_
 refine sy (.agg (prC (⟨⟨#[]⟩,⟨#[]⟩⟩:Pr))) (fun h=>XL (ps:=[]) (us:=[.string ⟨#[]⟩,.string ⟨#[]⟩]) Zf2 rfl yz ZlV rfl (Q0 (.lit _ nzl) (Q0 (.lit _ nzl) Yp)) h.x) ?_
 refine kw pm2 (ZD (b:=b1) (off:=0) (es:=U2) (news:=U2) hJ hJ0 YF rfl rfl rfl (lb rfl) rfl (fun a w h=>⟨(h.get 3 rfl),(h.get 0 rfl)⟩) ?_)
 refine kw pm2 (Y2 (b:=b2) (off:=0) (es:=[_]) hJ hJ0 ZjG rfl rfl rfl (lb rfl) rfl (fun a w h=>⟨(h.get 2 rfl),(Rel.of_lit (.bool false))⟩) ?_)
 refine seK [2,3] U2 rfl (nxD ?_)
 refine dtw pm2 ?_
 refine d_ret ?_
 refine outD hJ hJ0 ?_
 exact kw pm1 (fun a w h=>Zno (m:=1) (q:=0) rfl YI one_4 h rfl rfl rfl (show(_:List CD)=[lS ((Zd2 bl ap us wd).a),lS ((Zd2 bl ap us wd).b)]from by(first | rw[ZgN e9] | rw[ZgP e9] | rw[ZgM s'.2] | rw[ZgO s'.2])<;>rfl) (eB (by first | rw[ZgN e9] | rw[ZgP e9] | rw[ZgM s'.2] | rw[ZgO s'.2])))
 rintro s' D
 refine outD hJ hJ0 ?_
 exact fun a w h=>Zno (m:=2) (q:=1) rfl YI one_4 h rfl rfl rfl (show(_:List CD)=[lS ((Zd2 bl ap us wd).a),lS ((Zd2 bl ap us wd).b)]from by(first | rw[ZgN e9] | rw[ZgP e9] | rw[ZgM s'.2] | rw[ZgO s'.2])<;>rfl) (eB (by first | rw[ZgN e9] | rw[ZgP e9] | rw[ZgM s'.2] | rw[ZgO s'.2]))
 · exact fun v h=>by cases h
 · exact fun q=>q.elim
end Go.Proofs.YtaigaoflehfdcaaGreatDoor
