/-
  DERIVED: the shelf's contracts at this dump, in plain words.
  THE ENGINE: a row of structs that is made; two results out of variables; texts of a row.
  CONTRACT of the library: a row of pairs is sorted.
  CONTRACT of the program: pairs in order.
  CONTRACT of the program: what a use breaks.
  CONTRACTS of the program: an assertion is used; the kinds of steps.
  THE ENGINE: a drawn region in which operations turn what is owned, or end with a panic.
  CONTRACTS of the program: a step's closure.
  CONTRACTS of the program: the kinds of steps, the end of a proof.
  CONTRACT of the program: a step.
  CONTRACTS of the program: what a proof's words mean.
  CONTRACTS of the program: what a label means.
-/
import Derived.Shelf.SlSortCmp.WholeK
import Derived.Shelf.SlSortCmp.NoneTotal
import Derived.Ground.SlsfProg
import Derived.Test.YtneapgbkkkjagaaGreatDoorYZ
import Derived.Test.YtneapgbkkkjagaaGreatDoorYX
namespace Go.Proofs
open Go.Shelf
def Tryz.sortP_ren:Go.Shelf.Ren:=⟨fun | 6=>188 | 15=>203 | 14=>202 | 28=>215 | 29=>216 | 20=>207 | 21=>208 | 22=>209 | 23=>210 | 24=>211 | 25=>212 | 26=>213 | 27=>214 | 46=>222 | 47=>223 | 48=>224 | 49=>225 | 50=>226 | 57=>228 | n=>n,fun | 22=>57 | 24=>104 | 25=>173 | 3=>3 | 39=>238 | 0=>0 | 53=>258 | 55=>260 | 4=>4 | 46=>252 | 45=>251 | 50=>183 | 5=>5 | 9=>9 | 66=>264 | 70=>268 | 76=>270 | 77=>271 | n=>n,fun | n=>n⟩
theorem Tryz.sortP:Go.Proofs.SlLaysF0.n6 Tryz.prog Tryz.sortP_ren:= {
 mixed:=by kernel_rfl
 f6:=⟨Tryz.f188.name,by decide,Tryz.func188.trans (congrArg some (by kernel_rfl))⟩
 f14:=⟨Tryz.f202.name,by decide,Tryz.func202.trans (congrArg some (by kernel_rfl))⟩
 f15:=Tryz.func203.trans (congrArg some (by kernel_rfl))
 f20:=⟨Tryz.f207.name,by decide,Tryz.func207.trans (congrArg some (by kernel_rfl))⟩
 f21:=⟨Tryz.f208.name,by decide,Tryz.func208.trans (congrArg some (by kernel_rfl))⟩
 f22:=⟨Tryz.f209.name,by decide,Tryz.func209.trans (congrArg some (by kernel_rfl))⟩
 f23:=⟨Tryz.f210.name,by decide,Tryz.func210.trans (congrArg some (by kernel_rfl))⟩
 f24:=⟨Tryz.f211.name,by decide,Tryz.func211.trans (congrArg some (by kernel_rfl))⟩
 f25:=⟨Tryz.f212.name,by decide,Tryz.func212.trans (congrArg some (by kernel_rfl))⟩
 f26:=⟨Tryz.f213.name,by decide,Tryz.func213.trans (congrArg some (by kernel_rfl))⟩
 f27:=⟨Tryz.f214.name,by decide,Tryz.func214.trans (congrArg some (by kernel_rfl))⟩
 f28:=Tryz.func215.trans (congrArg some (by kernel_rfl))
 f29:=Tryz.func216.trans (congrArg some (by kernel_rfl))
 f46:=⟨Tryz.f222.name,by decide,Tryz.func222.trans (congrArg some (by kernel_rfl))⟩
 f47:=Tryz.func223.trans (congrArg some (by kernel_rfl))
 f48:=Tryz.func224.trans (congrArg some (by kernel_rfl))
 f49:=⟨Tryz.f225.name,by decide,Tryz.func225.trans (congrArg some (by kernel_rfl))⟩
 f50:=⟨Tryz.f226.name,by decide,Tryz.func226.trans (congrArg some (by kernel_rfl))⟩
 f57:=⟨Tryz.f228.name,by decide,Tryz.func228.trans (congrArg some (by kernel_rfl))⟩
 t0:=Tryz.underlying0
 a0:=Tryz.isAgg0
 z0:=Tryz.sizeOf0
 v0:=Tryz.zeroValue0
 t3:=Tryz.underlying3
 a3:=Tryz.isAgg3
 z3:=Tryz.sizeOf3
 v3:=Tryz.zeroValue3
 t4:=Tryz.underlying4
 a4:=Tryz.isAgg4
 z4:=Tryz.sizeOf4
 v4:=Tryz.zeroValue4
 t5:=Tryz.underlying5
 a5:=Tryz.isAgg5
 z5:=Tryz.sizeOf5
 v5:=Tryz.zeroValue5
 t9:=Tryz.underlying9
 a9:=Tryz.isAgg9
 z9:=Tryz.sizeOf9
 v9:=Tryz.zeroValue9
 t22:=Tryz.underlying57
 a22:=Tryz.isAgg57
 z22:=Tryz.sizeOf57
 v22:=Tryz.zeroValue57
 t25:=Tryz.underlying173
 a25:=Tryz.isAgg173
 z25:=Tryz.sizeOf173
 v25:=Tryz.zeroValue173
 t39:=Tryz.underlying238
 a39:=Tryz.isAgg238
 z39:=Tryz.sizeOf238
 v39:=Tryz.zeroValue238
 t45:=Tryz.underlying251
 a45:=Tryz.isAgg251
 z45:=Tryz.sizeOf251
 v45:=Tryz.zeroValue251
 t46:=Tryz.underlying252
 a46:=Tryz.isAgg252
 z46:=Tryz.sizeOf252
 v46:=Tryz.zeroValue252
 t50:=Tryz.underlying183
 a50:=Tryz.isAgg183
 z50:=Tryz.sizeOf183
 v50:=Tryz.zeroValue183
 t53:=Tryz.underlying258
 a53:=Tryz.isAgg258
 z53:=Tryz.sizeOf258
 v53:=Tryz.zeroValue258
 t55:=Tryz.underlying260
 a55:=Tryz.isAgg260
 z55:=Tryz.sizeOf260
 v55:=Tryz.zeroValue260
 t66:=Tryz.underlying264
 a66:=Tryz.isAgg264
 z66:=Tryz.sizeOf264
 v66:=Tryz.zeroValue264
 t70:=Tryz.underlying268
 a70:=Tryz.isAgg268
 z70:=Tryz.sizeOf268
 v70:=Tryz.zeroValue268
 t76:=Tryz.underlying270
 a76:=Tryz.isAgg270
 z76:=Tryz.sizeOf270
 v76:=Tryz.zeroValue270
 t77:=Tryz.underlying271
 a77:=Tryz.isAgg271
 z77:=Tryz.sizeOf271
 v77:=Tryz.zeroValue271 }
end Go.Proofs
namespace Go.Proofs.YtneapgbkkkjagaaGreatDoor
open Go.RowKit
def Zw8 (P:Program) (t e:TypeId) (kc bytes:Nat) (z:Value):Prop:=
 P.underlying t=some (.slice e)∧(∃ i,P.info? e=some i∧i.zero=some z∧i.size=kc∧i.bytes=bytes)
theorem makeN {P:Program} {t e:TypeId} {kc bytes:Nat} {z:Value} (h1:P.underlying t=some (.slice e)) (hinfo:(P.info? e).map (fun i=>(i.zero,i.size,i.bytes))=some (some z,kc,bytes)):Zw8 P t e kc bytes z:=by
 refine⟨h1,?_⟩
 cases hi:P.info? e with
 | none=>rw[hi]at hinfo;cases hinfo
 | some i=>
  rw[hi]at hinfo
  simp only[Option.map_some,Option.some.injEq,Prod.mk.injEq]at hinfo
  exact⟨i,rfl,hinfo.1,hinfo.2.1,hinfo.2.2⟩
theorem Zfg {α:Type} {l:List α} (h0:0<l.length):∀(k i:Nat),i<k*l.length→(List.replicate k l).flatten[i]?=l[i%l.length]?
 | 0,i,h=>by omega
 | k+1,i,h=>by
  rw[List.replicate_succ,List.flatten_cons]
  rcases Nat.lt_or_ge i l.length with h1 | h1
  · rw[List.getElem?_append_left h1,Nat.mod_eq_of_lt h1]
  · rw[List.getElem?_append_right h1,Zfg h0 k (i-l.length) (by rw[Nat.succ_mul]at h;omega),Nat.mod_eq_sub_mod h1]
theorem made_N {c:Array Value} (h0:0<c.size) (k:Nat):(madeCells c (k*c.size)).toList=(List.replicate k c.toList).flatten:=by
 apply List.ext_getElem?
 intro i
 have hl:c.toList.length=c.size:=by simp
 rcases Nat.lt_or_ge i (k*c.size)with h | h
 · rw[Zfg (by rw[hl];exact h0) k i (by rw[hl];exact h),hl]
   have hm:i%c.size<c.size:=Nat.mod_lt _ h0
   simp[madeCells,h,hm]
 · rw[List.getElem?_eq_none (by simp[madeCells];exact h),List.getElem?_eq_none]
   simp only[List.length_flatten,List.map_replicate,List.sum_replicate_nat,hl]
   exact h
theorem Zkz {cs:List CD} {vs:List Value} {S:Nat→Prop} {w:World} (h:RdL S w cs vs):∀ k,RdL S w ((List.replicate k cs).flatten) ((List.replicate k vs).flatten)
 | 0=>trivial
 | k+1=>by
  rw[List.replicate_succ,List.flatten_cons,List.replicate_succ,List.flatten_cons]
  exact h.append (Zkz h k)
section
variable {n:Rn} {N:Nat} {P:Program} {J X:WP} {S S' S'':Nat→Prop} {O:List OB} {w0:World} {env:List (Nat×AV)} {Q:Exit→Act→WP}
theorem Zi8 {ops:Array Oper} {o:Oper} {rest:List Oper} {t e:TypeId} {kc bytes d k:Nat} {z:Value} {x y:Operand} {α:Type} {f:α→List CD} (a0:α) (ht:Zw8 P t e kc bytes z) (hf:∀(S:Nat→Prop) (w:World),RdL S w (f a0) z.cells.toList) (hzc:z.cells.size=kc) (hkc:0<kc) (hJ:Stab J) (hg:o.guard=none) (hop:o.op= .makeSlice t x y) (hd:o.dst=some d) (hN:d<N)
 (h1:∀ a w,So J S w0 N O env a w→Rel (SO S O) w (.int (k:Int)) (a.eval x)∧Rel (SO S O) w (.int (k:Int)) (a.eval y)) (hb:bytes*k≤281474976710656) (h63:k≤9223372036854775807)
 (next:∀ v a w,So J S w0 N (OB.row v e kc ((List.replicate k a0).map f)::O) ((d,.lit v)::YM d env) a w→wpListIn n.F n.d P ops Q rest a w):
 ∀ a w,So J S w0 N O env a w→wpListIn n.F n.d P ops Q (o::rest) a w:=by
 refine ZdA (O2:=fun v=>OB.row v e kc ((List.replicate k a0).map f)::O) (av:=fun v=>.lit v) hg hd hN (fun a w h=>?_) next
 obtain⟨ht1,i,hi,hz,hs,hbb⟩:=ht
 obtain⟨g1,g2⟩:=h1 a w h
 have hb':(i.bytes:Int)*(k:Int)≤281474976710656:=by
  rw[hbb]
  have h:((bytes*k:Nat):Int)≤281474976710656:=by omega
  rwa [Int.natCast_mul]at h
 have hrun:=run_make (P:=P) w t e i z ht1 hi hz .i64 .i64 (k:Int) (k:Int) oz (Int.le_refl _) hb' oz
 rw[hs,Int.toNat_natCast]at hrun
 have hk:Keeps All w (w.alloc (.cells (madeCells z.cells (k*kc)) e)):=(Keeps.refl _ _).alloc _
 have hmade:(madeCells z.cells (k*kc)).toList=(List.replicate k z.cells.toList).flatten:=by rw[←hzc];exact made_N oz k
 have hrows:((List.replicate k a0).map f).flatten=(List.replicate k (f a0)).flatten:=by rw[List.map_replicate]
 have hfl:(f a0).length=kc:=by rw[←(hf S w).length];simpa using hzc
 have hml:(madeCells z.cells (k*kc)).toList.length=k*kc:=by simp[madeCells]
 refine Z8 (v:=.slice (some ⟨w.heap.size,0,none⟩) k k) (w':=w.alloc (.cells (madeCells z.cells (k*kc)) e)) ?_ ⟨.slice (some ⟨w.heap.size,0,none⟩) k k,Qn hJ h.keep h.x hk (fun b hb=>?_) ?_,Rel.of_lit _⟩
 · simp only[execOp,hop,g1.lit,g2.lit,Sem.run_bind,hrun]
   rfl
 · simp[OB.row,Value.ownBlock]at hb
   omega
 · refine⟨(madeCells z.cells (k*kc)).toList,⟨by rw[hml];simp,.inr ⟨w.heap.size,k,madeCells z.cells (k*kc),by simp,h.keep.size,heap_alloc_new w _,by simp,by unfold maxLen;omega,by simp[madeCells],?_⟩⟩,?_,fun r hr=>?_⟩
   · exact List.take_of_length_le (by rw[hml];simp)
   · rw[hrows,hmade];exact Zkz (hf _ _) k
   · rw[List.map_replicate]at hr
     rw[(List.mem_replicate.1 hr).2];exact hfl
end
section
variable {N:Nat} {P:Program} {J:WP} {S:Nat→Prop} {O:List OB} {w0 w:World} {env:List (Nat×AV)} {a:Act} {b b2:Nat} {cs:List CD} {c2:CD} {t t2:TypeId}
theorem ZoP {fn:Func} {d m q u:Nat} {k:Nat} {cs':List CD} {r2:AV} (hr:fn.results= #[.cell d t,.cell u t2]) (h1:X0 P t k) (h2:QM P t2) (h:So J S w0 N (OB.var b cs::OB.var b2 [c2]::O) env a w) (he:env[m]?=some (d,.at b 0)) (he2:env[q]?=some (u,.at b2 0)) (hl:cs.length=k) (hE:cs=cs') (hE2:AV.rd c2=r2):
 bodyPost P fn (fun e w'=>∃ v,e= .returned v∧Rel S w' (.tup [.agg cs',r2]) v∧Keeps All w0 w'∧J w') .ret a w:=by
 subst hE
 subst hE2
 obtain⟨h0,us,e,hb,hrd⟩:=h.x.2.1 (OB.var b cs) yz
 obtain⟨g0,vs,e',gb,grd⟩:=h.x.2.1 (OB.var b2 [c2]) yz
 match vs,grd with
 | [v2],grd=>
  have hd:a.tmps.getD d undef= .pointer (some ⟨b,0,none⟩):=(h.get m he).lit
  have hu:a.tmps.getD u undef= .pointer (some ⟨b2,0,none⟩):=(h.get q he2).lit
  have hrun:=Xa (P:=P) b 0 w us 0 #[] fun j u hj=>by rw[Nat.zero_add];simp[World.cell?,hb,hj]
  rw[show us.length=k by rw[hrd.length,hl]]at hrun
  have hd':a.tmps[d]?.getD undef= .pointer (some ⟨b,0,none⟩):=by rw[←Array.getD_eq_getD_getElem?];exact hd
  have hu':a.tmps[u]?.getD undef= .pointer (some ⟨b2,0,none⟩):=by rw[←Array.getD_eq_getD_getElem?];exact hu
  have hcell:w.cell? ⟨b2,0,none⟩=some v2:=by simp[World.cell?,gb]
  refine⟨h.defs,.tuple #[.agg us.toArray,v2],by simp[results,hr,hd',hu',asAddr,Sem.run_bind,loadVar,loadCells,h1.1 w,h1.2 w,h2 w,hrun,hcell],_,rfl,?_,h.keep,h.x.1⟩
  simp only[Rel,RelL]
  exact⟨_,rfl,_,_,rfl,⟨us,rfl,hrd.sub fun _ _ hk=>hk.1⟩,_,_,rfl,grd.1.sub fun _ _ hk=>hk.1,rfl⟩
theorem ZuK {T:Nat→Prop} {us:List BA} {v:Value} (h:Rd T w (Zf us) v):∀ s∈us,s.size≤maxLen:=by
 unfold Zf at h
 generalize hr:us.map Zax=rows at h
 cases h with
 | nil a cap hm=>simp at hr;subst hr;simp
 | sl b off cap n rows vs hl hm hb hS hn hc hrd=>
  subst hr
  intro s hs
  obtain⟨i,hi,rfl⟩:=List.getElem_of_mem hs
  have h1:=hrd i 0 (Zax us[i]) (.lit (.string us[i])) (by simp[hi]) rfl
  generalize vs i 0=u at h1
  cases h1 with
  | lit _ hv=>exact hv
theorem lnStrA {fid:FuncId} {K:Nat→Prop} {X:WP} {c:Code} {Q:Exit→Act→WP} {us:List BA} {s:Nat} (m:Nat) (h:(∀ x∈us,x.size≤maxLen)→TrA fid P (St K S w0 N env X) c Q) (he:env[m]?=some (s,.rd (Zf us)):=by exact rfl):TrA fid P (St K S w0 N env X) c Q:=fun a w ha=>h (ZuK (by have:=ha.get m he;simpa only[Rel]using this)) a w ha
end
end Go.Proofs.YtneapgbkkkjagaaGreatDoor
set_option maxHeartbeats 8000000
set_option maxRecDepth 100000
namespace Go.Proofs.YtneapgbkkkjagaaGreatDoor
open Go.RowKit
open Go.Sort Go.Shelf
abbrev PrB:Type:= {p:Pr // p.a.size≤maxLen∧p.b.size≤maxLen}
instance instInhPrB:Inhabited PrB:=⟨⟨⟨⟨#[]⟩,⟨#[]⟩⟩,nzl,nzl⟩⟩
def ZiH (p:PrB):List Value:=Zps p.1
def cfB (p q:PrB):Int:=Zgk p.1 q.1
theorem ltB (p q:PrB):ltOf cfB p q=ltP p.1 q.1:=by
 unfold ltOf cfB
 by_cases h:ltP p.1 q.1=true
 · rw[decide_eq_true (cmpT_lt.2 h),h]
 · rw[decide_eq_false (fun h2=>h (cmpT_lt.1 h2))]
   simpa using h
theorem swoB:Go.Sort.SWO (ltOf cfB) where
 irrefl x:=by rw[ltB];exact Zju _
 trans x y z h1 h2:=by rw[ltB]at*;exact ZaZ h1 h2
 ntrans x y z h1 h2:=by
  rw[ltB]at*
  cases h3:ltP x.1 z.1 with
  | false=>rfl
  | true=>
   cases h4:ltP y.1 x.1 with
   | true=>rw[ZaZ h4 h3]at h2;cases h2
   | false=>rw[Zjt h1 h4,h2]at h3;cases h3
theorem Zsn (blk off size:Nat) (w:World):CmpLays Tryz.prog 174 #[] ZiH 2 cfB blk off size w:=fun m os dk _ x y=>by
 have:=ZpC x.1 y.1 x.2 y.2 (sortWorldK ZiH 2 w blk off m dk os)
 rw[Array.append_empty]
 exact this
theorem Zla {α:Type} [Inhabited α] {enc:α→List Value} {k:Nat} (hk:∀ x,(enc x).length=k) (h0:0<k):∀(l:List α) (t:Nat),t<l.length*k→(l.flatMap enc)[t]?=(enc (ge l (t/k)))[t%k]?
 | [],t,h=>by simp at h
 | x::l,t,h=>by
  rw[List.flatMap_cons]
  rcases Nat.lt_or_ge t k with h1 | h1
  · rw[List.getElem?_append_left (by rw[hk];exact h1),Nat.div_eq_of_lt h1,Nat.mod_eq_of_lt h1]
    rfl
  · have e:t=(t-k)+k:=by omega
    rw[List.getElem?_append_right (by rw[hk];exact h1),hk,Zla hk h0 l (t-k) (by simp only[List.length_cons,Nat.succ_mul]at h;omega)]
    rw[show t/k=(t-k)/k+1 from by rw[Nat.div_eq_sub_div h0 h1],Nat.mod_eq_sub_mod h1]
    simp[ge]
theorem ZmE {α:Type} [Inhabited α] {enc:α→List Value} {k:Nat} (hk:∀ x,(enc x).length=k) (h0:0<k) (d:Array α):(flatK enc k d).toList=d.toList.flatMap enc:=by
 apply List.ext_getElem?
 intro t
 have hl:d.toList.length=d.size:=by simp
 rcases Nat.lt_or_ge t (d.size*k)with h | h
 · rw[Zla hk h0 d.toList t (by rw[hl];exact h)]
   have h1:=get_flatK enc k d t h
   have hdk:t/k<d.size:=Nat.div_lt_of_lt_mul (by rw[Nat.mul_comm];exact h)
   have hm:t%k<k:=Nat.mod_lt _ h0
   have h2:(flatK enc k d).toList[t]?=some ((flatK enc k d)[t]!):=by
    rw[Array.getElem?_toList,Array.getElem?_eq_getElem (by simpa using h),getElem!_pos _ t (by simpa using h)]
   rw[h2,h1]
   have e1:ge d.toList (t/k)=d[t/k]!:=by
    rw[Xj (by rw[hl];exact hdk),getElem!_pos d (t/k) hdk];simp
   rw[e1,List.getElem?_eq_getElem (show t%k< (enc d[t/k]!).length by rw[hk];exact hm),getElem!_pos (enc d[t/k]!) (t%k) (by rw[hk];exact hm)]
 · rw[List.getElem?_eq_none (by simpa using h),List.getElem?_eq_none]
   rw[List.length_flatMap]
   simp only[hk,List.map_const',List.sum_replicate_nat]
   simpa using h
theorem ZqS (cur F:Array Value) (h:F.size≤cur.size):(putCells id 0 F cur).toList.take F.size=F.toList:=by
 apply List.ext_getElem?
 intro t
 rw[List.getElem?_take]
 split
 · rename_i h1
   have h2:t<cur.size:=by omega
   simp[putCells,h1,h2]
 · rename_i h1
   rw[List.getElem?_eq_none (by simpa using h1)]
theorem Zod {S:Nat→Prop} {w:World}:∀ {ps:List Pr} {us:List Value},RdL S w (ps.map prC).flatten us→us=ps.flatMap Zps∧∀ p∈ps,p.a.size≤maxLen∧p.b.size≤maxLen
 | [],us,h=>by
  have:=h.length
  simp at this
  exact⟨by simpa using this,by simp⟩
 | p::ps,us,h=>by
  match us,h with
  | u1::u2::us,⟨h1,h2,h3⟩=>
   obtain⟨e,hb⟩:=Zod (ps:=ps) h3
   have ok1:p.a.size≤maxLen:=by cases h1 with | lit _ hv=>exact hv
   have ok2:p.b.size≤maxLen:=by cases h2 with | lit _ hv=>exact hv
   refine⟨by rw[h1.of_lit,h2.of_lit,e];rfl,fun q hq=>?_⟩
   rcases List.mem_cons.1 hq with rfl | hq
   · exact⟨ok1,ok2⟩
   · exact hb q hq
theorem pr_rd {S:Nat→Prop} {w:World}:∀ {ps:List Pr},(∀ p∈ps,p.a.size≤maxLen∧p.b.size≤maxLen)→RdL S w (ps.map prC).flatten (ps.flatMap Zps)
 | [],_=>trivial
 | p::ps,h=>⟨.lit _ (h p yz).1,.lit _ (h p yz).2,pr_rd fun q hq=>h q (by simp[hq])⟩
theorem Zvp {J:WP} (hJ:Stab J) (v:Value) (ps:List Pr) (hn:ps.length≤140737488355328):FnM (ι:= {qs:List Pr // qs.Perm ps∧WkP qs}) Tryz.prog J 188 [] [.lit v,.fn 174 []] [OB.row v 104 2 (ps.map prC)] (fun _=>.tup []) (fun i=>[OB.row v 104 2 (i.1.map prC)]):=by
 intro S w0 R w vs hS hJ0 hH hk hx ha
 simp only[RelL]at ha
 obtain⟨u,_,rfl,h1,u2,_,rfl,h2,rfl⟩:=ha
 obtain rfl:=h1.lit
 obtain rfl:u2= .func (.func 174) #[] #[]:=by
  simp only[Rel,RelL]at h2
  obtain⟨_,rfl,rfl⟩:=h2
  rfl
 have hi:=hx.2.1 (OB.row u 104 2 (ps.map prC)) yz
 obtain⟨us,⟨hul,hrow⟩,hrd,h3⟩:=hi
 rcases hrow with⟨rfl,hz⟩ | ⟨g,cap,cur,rfl,hb,hg,hnc,hcm,hcs,ht⟩
 · have hps:ps=[]:=by simpa using hz
   subst hps
   refine(AnyF.slices_SortFunc_none Tryz.sortP none 0 _ w).mono ?_
   rintro e w' ⟨rfl,rfl⟩
   exact⟨⟨[],.refl _,.nil⟩,_,rfl,by simp only[Rel,RelL];exact⟨[],rfl,rfl⟩,hk,hx⟩
 · obtain⟨hus,hok⟩:=Zod hrd
   have hlen:(ps.map prC).length=ps.length:=List.length_map _
   rw[hlen]at hnc ht hul
   obtain⟨d,hd⟩:∃ d:Array PrB,d.toList.map (·.1)=ps:=⟨(ps.pmap (fun p h=>(⟨p,h⟩:PrB)) hok).toArray,by simp[List.map_pmap]⟩
   have hds:d.size=ps.length:=by rw[←hd];simp
   have hkB:∀ x:PrB,(ZiH x).length=2:=fun _=>rfl
   have hfl:∀ e:Array PrB,(flatK ZiH 2 e).toList=(e.toList.map (·.1)).flatMap Zps:=fun e=>by
    rw[ZmE hkB oz,List.flatMap_map]
    rfl
   have hgl:g<w.heap.size:=(Array.getElem?_eq_some_iff.1 hg).1
   have hfz:∀ j,w.frozen? ⟨g,j,none⟩=false:=fun j=>by simp[World.frozen?,hg]
   have hH:HoldsK ZiH 2 w g 0 d:=fun j hj=>by
    refine⟨?_,hfz _⟩
    have hj2:j<ps.length*2:=by rw[size_flatK,hds]at hj;exact hj
    have e1:cur.toList[j]?=some ((flatK ZiH 2 d)[j]!):=by
     have e2:(cur.toList.take (ps.length*2))[j]?=cur.toList[j]?:=by rw[List.getElem?_take,if_pos hj2]
     rw[←e2,ht,hus,←hd,←hfl d,Array.getElem?_toList,Array.getElem?_eq_getElem hj,getElem!_pos _ j hj]
    rw[Nat.zero_add]
    simp only[World.cell?,hg]
    simpa using e1
   have hcall:=AnyQ.slices_SortFunc Tryz.sortP 2 Tryz.isAgg104 Tryz.sizeOf104 ZiH hkB (fun x v hv=>by simp[ZiH,Zps]at hv;rcases hv with rfl | rfl<;>rfl) cfB swoB 174 #[] g 0 cap d w (enters_of Tryz.func174 (by kernel_rfl) rfl) (Zsn g 0 d.size w) hH hgl oz
   rw[hds]at hcall
   rw[hlen]
   refine hcall.mono ?_
   rintro e w' ⟨rfl,d',n,os,hperm,hsrt,rfl⟩
   have hd's:d'.size=ps.length:=by rw[hperm.1,hds]
   have hpm:(d'.toList.map (·.1)).Perm ps:=by
    have h9:=hperm.2.2
    rw[show d'.extract 0 ps.length=d' by rw[←hd's];exact Array.extract_size,show d.extract 0 ps.length=d by rw[←hds];exact Array.extract_size]at h9
    rw[←hd]
    exact h9.map _
   have hwk:WkP (d'.toList.map (·.1)):=by
    unfold WkP
    rw[List.pairwise_map,List.pairwise_iff_getElem]
    intro i j hi hj hij
    have h9:=hsrt i j nzl hij (by rw[←hd's];simpa using hj)
    rw[ltB,getElem!_pos _ j (by simpa using hj),getElem!_pos _ i (by simpa using hi)]at h9
    simpa using h9
   have hheap:(sortWorldK ZiH 2 w g 0 n d' os).heap[g]?=some (.cells (putCells id 0 (flatK ZiH 2 d') cur) 104):=by
    show(grow (putRow id (Sort.ahead w n) g 0 (flatK ZiH 2 d')) os).heap[g]?=_
    rw[heap_grow_old _ _ (by simpa [Sort.ahead]using hgl)]
    show((Sort.ahead w n).heap.modify g _)[g]?=_
    rw[Array.getElem?_modify,if_pos rfl]
    show(w.heap[g]?).map _=_
    rw[hg]
    rfl
   have hkk:Keeps (fun k=>k≠g) w (sortWorldK ZiH 2 w g 0 n d' os):=by
    refine⟨?_,?_,?_,?_,?_⟩
    · simp[sortWorldK,putRowK,grow,putRow,mapBlock,Sort.ahead]
    · simp[sortWorldK,putRowK,grow,putRow,mapBlock,Sort.ahead]
    · simp[sortWorldK,putRowK,grow,putRow,mapBlock,Sort.ahead]
    · simp[sortWorldK,putRowK,grow,putRow,mapBlock,Sort.ahead]
    · intro k hk hne
      show(grow (putRow id (Sort.ahead w n) g 0 (flatK ZiH 2 d')) os).heap[k]?=_
      rw[heap_grow_old _ _ (by simpa [Sort.ahead]using hk)]
      show((Sort.ahead w n).heap.modify g _)[k]?=_
      rw[Array.getElem?_modify,if_neg (fun e=>hne e.symm)]
      rfl
   have hFs:(flatK ZiH 2 d').size=ps.length*2:=by rw[size_flatK,hd's]
   have hk0:Keeps All w0 (sortWorldK ZiH 2 w g 0 n d' os):=hk.upto' hkk fun k hk0 e=>by subst e;omega
   have hok':∀ p∈d'.toList.map (·.1),p.a.size≤maxLen∧p.b.size≤maxLen:=fun p hp=>hok p (hpm.mem_iff.1 hp)
   have hinv:(OB.row (.slice (some ⟨g,0,none⟩) ps.length cap) 104 2 ((d'.toList.map (·.1)).map prC)).inv w0.heap.size (SO S ([OB.row (.slice (some ⟨g,0,none⟩) ps.length cap) 104 2 ((d'.toList.map (·.1)).map prC)]++R)) (sortWorldK ZiH 2 w g 0 n d' os):=by
    have hl2:((d'.toList.map (·.1)).map prC).length=ps.length:=by simp[hd's]
    refine⟨(d'.toList.map (·.1)).flatMap Zps,⟨?_,.inr ⟨g,cap,putCells id 0 (flatK ZiH 2 d') cur,by rw[hl2],hb,hheap,by rw[hl2];exact hnc,hcm,by simpa [putCells]using hcs,?_⟩⟩,pr_rd hok',fun r hr=>by obtain⟨p,_,rfl⟩:=List.mem_map.1 hr;rfl⟩
    · rw[hl2,←hfl d',Array.length_toList,hFs]
    · rw[hl2,←hfl d',←hFs]
      exact ZqS cur _ (by rw[hFs,hcs];exact Nat.mul_le_mul_right _ hnc)
   refine⟨⟨d'.toList.map (·.1),hpm,hwk⟩,_,rfl,by simp only[Rel,RelL];exact⟨[],rfl,rfl⟩,hk0,?_⟩
   have hx1:=hx
   rw[hlen]at hx1
   have:=Zkd (o':=OB.row (.slice (some ⟨g,0,none⟩) ps.length cap) 104 2 ((d'.toList.map (·.1)).map prC)) hx1 (hJ _ _ hk0 hJ0) (hkk.sub fun k _ hk=>fun e=>hk (by show(OB.row (.slice (some ⟨g,0,none⟩) ps.length cap) 104 2 (ps.map prC)).blk k;rw[e];rfl)) (fun k hk=>.inl hk) hinv
   exact this.1
end Go.Proofs.YtneapgbkkkjagaaGreatDoor
set_option maxHeartbeats 8000000
set_option maxRecDepth 100000
namespace Go.Proofs.YtneapgbkkkjagaaGreatDoor
open Go.RowKit
theorem Zii:Zw8 Tryz.prog 57 104 2 32 (.agg #[.string ⟨#[]⟩,.string ⟨#[]⟩]):=makeN (by kernel_rfl) (by kernel_rfl)
theorem ZrC {J:WP} (hJ:Stab J) (l:List Pr) (hwd:l.length*32≤140737488351232):FnM (ι:= {qs:List Pr // Zw9 l qs}) Tryz.prog J 171 [] [.rd (YV l)] [] (fun i'=>.rd (YV (i'.1))) (fun _=>[]):=by
 refine fEM Tryz.func171 fun S w0 R hS hJ0 hH=>?_
 refine Yq (B:=So J S w0 26 (R) [(0,.rd (YV l))]) ?_ fun a w h=>h
 refine ln 0 fun hl1=>?_
 refine qso tb hJ [0] [_] [_] ?_
 refine tsq (snK 1 tb rfl (sy (.int (l.length:Nat)) (fun h=>Zai ZL rfl (h.get 0 rfl) h.x) ?_))
 refine Zi8 (f:=prC) (k:=l.length) (⟨⟨#[]⟩,⟨#[]⟩⟩:Pr) Zii (fun _ _=>⟨.lit _ nzl,.lit _ nzl,trivial⟩) rfl dz hJ rfl rfl rfl (lb rfl) (fun a w h=>⟨(h.get 0 rfl),(h.get 0 rfl)⟩) sfz sfz fun v1=>?_
 refine snK 1 tb rfl (seK [0,4] U2 rfl ?_)
 refine nx (Ze (ZG tb hJ [0,1000,1001,1002] [_,.int (l.length:Nat),_] [1] U4 rfl ⟨Z3 ZL,trivial⟩ ?_))
 refine Zc (lpo (ι:=Nat×(List Pr)) (fun(k,rs)=>(k≤l.length)∧(rs.length=l.length)∧(∀ i,i<k→ge rs i=QN (ge l i))) (fun(_,rs)=>(OB.row v1 104 2 (rs.map prC)::R)) (fun(k,_)=>[(11,.int (k:Nat))]) (fun(k,_)=>l.length-k) [0,1,2,3] U3 (0,List.replicate l.length (⟨⟨#[]⟩,⟨#[]⟩⟩:Pr)) ⟨nzl,List.length_replicate,fun i hi=>by omega⟩ ?_)
 rintro⟨k,rs⟩ ⟨f1_1,f1_2,f1_3⟩
 refine qso tb hJ [0,1,2,3,1000] [_] U5 ?_
 refine cjS 4 (fun hb1=>?_) fun hb1=>?_
 ·
  try simp at hb1
  refine Zb (nx (Ze (Zc (tsq (snK 1 tb rfl (sy (.ptr (prC (ge l k))) (fun h=>ZQ (i:=(k:Int)) Zt rfl (h.get 2 rfl) (h.get 4 rfl) nnn (Z0 (xs:=l) (k:=k) sfz) rfl h.x) ?_))))))
  refine snK 1 tb rfl (ZT XL hJ rfl rfl rfl (lb rfl) fun b2=>?_)
  refine snK 1 tb rfl (ZB (b:=b2) (off:=0) (es:=U2) (news:=U2) hJ hJ0 YK rfl rfl rfl (lb rfl) rfl (fun a w h=>⟨(h.get 1 rfl),(h.get 2 rfl)⟩) ?_)
  refine kw (fun h=>YJ hS h (m:=1) (s:=5) rfl) (seK [0,1,5,6,7,8] U6 rfl ?_)
  refine nx (ZE (snK 3 tb rfl (sy (.agg (prC (QN (ge l k)))) (fun h=>ZaY (ZhX hJ (ge l k)) Zlq rfl (Zq hS _ h.keep h.x) (h.x.1) (Za (h.get 0 rfl) Zg) (jo hJ h.x)) ?_)))
  refine sy (.lit (Y8 v1 (k*2))) (fun h=>YP (i:=(k:Int)) Zt rfl (Zh h.x (mo 0 rfl)) (h.get 3 rfl) (h.get 2 rfl) nnn (by rw[List.length_map];exact Int.ofNat_lt.2 sfz) h.x) ?_
  refine ZaB (i:=k) hJ hJ0 YK rfl rfl rfl (by rw[List.length_map];exact sfz) rfl (fun a w h=>⟨(h.get 0 rfl),(h.get 1 rfl)⟩) ?_
  rw[show(rs.map prC).set k (prC (QN (ge l k)))=(rs.set k (QN (ge l k))).map prC from List.map_set.symm]
  refine seK [7,8,9,10] U4 rfl (nx (Yo tb hJ [0,1,2,1001] [.int (k+1:Nat),_] [0] U4 rfl ⟨Z7,trivial⟩ ?_))
  exact YE (k+1,rs.set k (QN (ge l k))) [0,1,2,3] ⟨oz,by rw[List.length_set];exact f1_2,fun i hi=>by rw[Zpe oz];by_cases h9:i=k;(· simp[h9]);rw[if_neg h9];exact f1_3 i oz⟩
 ·
  try simp at hb1
  have e9:rs=l.map QN:=map_of f1_2 fun i hi=>f1_3 i oz
  refine Zs (nx (tsq (snK 1 tb rfl (Xv (O:=[OB.row v1 104 2 (rs.map prC)]) (R:=(R)) (Zvp hJ v1 rs sfz) Zsr rfl rfl rfl (lb rfl) hS hJ0 Zv (fun a w h=>(Za (h.get 0 rfl) (Za (Qr 174) Zg))) fun z3=>?_))))
  refine seK [2] [_] rfl (nx (tsq ?_))
  refine snK 1 tb rfl (Xv (O:=[OB.row v1 104 2 (z3.1.map prC)]) (R:=(R)) (Zmh hJ v1 z3.1 (by have h9:=z3.2.1.length_eq;omega)) Zsq rfl rfl rfl (lb rfl) hS hJ0 Zv (fun a w h=>(Za (h.get 0 rfl) Zg)) fun z4=>?_)
  refine snK 1 tb rfl (seK [0] [_] rfl ?_)
  exact nx (tw (fun h=>ZO hS h (m:=0) (s:=2) rfl) (ZA (fun a w h=>Yg  (m:=0) ⟨(Zdw z3.1 z3.1.length),srt_of (e9▸z3.2.1) z3.2.2⟩ rfl h rfl rfl)))
theorem Zgq:Zcy Tryz.prog 104 [.string ⟨#[]⟩,.string ⟨#[]⟩]:=⟨fun i=>(#[(0,1),(1,1)]:Array (Nat×Nat))[i]?,fun j hj=>by rcases j with _ | _ | j<;>first | rfl | (simp at hj;omega),fun parts=>by kernel_rfl⟩
theorem Zhr {l:List Bd} {ap:List Pr} {us:List BA} {wd:List Pr} {q:Pr} (h:Zj4 l ap us wd=some q):Zes l ap us wd=q:=by unfold Zes;rw[h];rfl
theorem Zht {l:List Bd} {ap:List Pr} {us:List BA} {wd:List Pr} {q:Pr} (h:Zj4 l ap us wd=some q):Zd9 l ap us wd=true:=by unfold Zd9;rw[h];rfl
theorem Zhs {l:List Bd} {ap:List Pr} {us:List BA} {wd:List Pr} (h:Zj4 l ap us wd=none):Zes l ap us wd=⟨⟨#[]⟩,⟨#[]⟩⟩:=by unfold Zes;rw[h];rfl
theorem Zhu {l:List Bd} {ap:List Pr} {us:List BA} {wd:List Pr} (h:Zj4 l ap us wd=none):Zd9 l ap us wd=false:=by unfold Zd9;rw[h];rfl
theorem Zmb {J:WP} (hJ:Stab J) (bl:List Bd) (us:List BA) (ap:List Pr)  :Fn Tryz.prog J 172 [.rd (Zea bl),.rd (YV ap),.rd (Zf us)] (.fn 190 [.ptr [Zea bl],.ptr [Zf us],.ptr [YV ap]]):=by
 refine fE Tryz.func172 fun S w0 hS hJ0=>?_
 clear hJ0
 refine ln 0 fun hl1=>?_
 refine ln 1 fun hl2=>?_
 refine ln 2 fun hl3=>?_
 refine hqs tb hJ [1000,1001,1002] [.ptr [Zea bl],.ptr [YV ap],.ptr [Zf us],_] [0,1,2] U3 rfl ⟨fun _ _ hk hx hl _=>Zct rfl (hl.env 0 0 _ rfl rfl) (hS _ hk.size) (js hJ hx),fun _ _ hk hx hl _=>Zct rfl (hl.env 1 1 _ rfl rfl) (hS _ hk.size) (js hJ hx),fun _ _ hk hx hl _=>Zct rfl (hl.env 2 2 _ rfl rfl) (hS _ hk.size) (js hJ hx),trivial⟩ ?_
 refine hqs tb hJ [1001] [.fn 190 [.ptr [Zea bl],.ptr [Zf us],.ptr [YV ap]],_] [0] [_] rfl ⟨fun _ _ _ hx hl _=>XB (caps:=[(.tmp 3),(.tmp 5),(.tmp 4)]) rfl (Za (hl.env 0 3 _ rfl rfl) (Za (hl.env 2 5 _ rfl rfl) (Za (hl.env 1 4 _ rfl rfl) Zg))) hx,trivial⟩ ?_
 exact tRn 0 (hE:=rfl)
theorem ZrH {J:WP} (hJ:Stab J) (bl:List Bd) (ap:List Pr) (us:List BA) (wd:List Pr) (hbl:∀ b∈bl,b.text.length≤2000) (hwd:wd.length*32≤140737488351232):Fn Tryz.prog J 147 [.rd (Zea bl),.rd (YV ap),.rd (Zf us),.rd (YV wd)] (.tup [.agg (prC (Zes bl ap us wd)),.bool (Zd9 bl ap us wd)]):=by
 refine Zpn (N:=38) Tryz.func147 rfl rfl (lb rfl) fun S w0 hS hJ0=>?_
 refine atw ZR ?_
 refine lnA 0 fun hl1=>?_
 refine lnA 1 fun hl2=>?_
 refine lnA 2 fun hl3=>?_
 refine lnA 3 fun hl4=>?_
 refine lnStrA 2 fun hus=>?_
 refine Zcv (m:=5) ?_
 refine ZE (ZT XL hJ rfl rfl rfl (lb rfl) fun b1=>?_)
 refine ZT ZqO hJ rfl rfl rfl (lb rfl) fun b2=>?_
 refine seK (r6 []) U6 rfl (nxA ?_)
 refine Zcv (m:=5) ?_
 refine ZE (snK 1 tb rfl (Xv (O:=[]) (R:=[OB.var b2 [lB false],OB.var b1 [lS (⟨#[]⟩:BA),lS (⟨#[]⟩:BA)]]) (ZrC hJ wd sfz) ZsA rfl rfl rfl (lb rfl) hS hJ0 Zv (fun a w h=>(Za (h.get 0 rfl) Zg)) fun z3=>?_))
 refine ZT Znd hJ rfl rfl rfl (lb rfl) fun b4=>?_
 refine Z5 (b:=b4) (off:=0) (es:=[_]) hJ hJ0 ZeJ rfl rfl rfl (lb rfl) rfl (fun a w h=>⟨(h.get 0 rfl),(h.get 1 rfl)⟩) ?_
 refine kw (fun h=>YJ hS h (m:=0) (s:=10) rfl) (seK [0,1,3,4,5,6,7] U7 rfl ?_)
 refine nxA ?_
 refine lnA 1 fun hl5=>?_
 refine a_seq ?_
 refine Zcv (m:=5) ?_
 refine Yo tb hJ [0,2,3,1003] (V3 [.fn 190 [.ptr [Zea bl],.ptr [Zf us],.ptr [YV ap]]]) [3] U4 rfl ⟨iFo hS hJ (Zmb hJ bl us ap) Zsz,trivial⟩ ?_
 refine nxA ?_
 refine Zqu ?_
 refine atw (fun h=>ZcX (p:=(∀ x∈([]:List Pr),Zfy wd x=false)) (fun x hx=>by cases hx) h) ?_
 refine ZnW (m:=5) (κ:=Unit) (μ:=Empty) (σ:= {q:Pr // Zj4 bl ap us wd=some q}) (Zjm hJ bl us ap hbl) Zsp hJ hS hJ0 Zv (fun pre _=>[OB.fct (∀ x∈pre,Zfy wd x=false),OB.var b2 [lB false],OB.var b1 [lS (⟨#[]⟩:BA),lS (⟨#[]⟩:BA)]]) (fun q':Empty=>undef) (fun q'=>[]) (fun s'=>[OB.var b1 (prC (s'.1)),OB.var b2 [lB true]]) () (fun x9=>.agg (prC x9)) (fun x9=>[(11,.ptr (prC x9)),(10,.ptr [YV z3.1]),(9,.at b2 0),(8,.at b1 0)]) (lb rfl) Tryz.func147 (fun _ _ x hx=>ZgP (ZtU hus hx).1 (ZtU hus hx).2) ?_ ?_ ?_ ?_ ?_ ?_ ?_
 · exact fun a w h=>ZnR (h.get 3 rfl)
 rintro m9 l9 R' pre x9 _ K9 hK9
 refine ZE (XZ (cs:=prC x9) ZcO rfl rfl rfl (lb rfl) rfl rfl rfl dz (m:=0) rfl rfl (fun a w h=>Zq hS _ h.keep h.x _ nlr) (fun a w h w' hk'=>YA hJ _ _ hk' h.x) ?_)
 exact seK [0,2,3,4] U4 rfl (hK9)
 rintro m9 l9 R' pre x9 _ hpre
 refine ZtL fun hF=>?_
 have r1_:∀ x∈pre,Zfy wd x=false:=hF
 refine Zc (ZG tb hJ [0,1,2,3,1007] [_,_,.tup [.int (bsN z3.1 x9:Nat),.bool (decide (x9∈z3.1))],_,_,_,_,_] [2] U5 rfl ⟨iFo hS hJ (p_bsP hJ z3.1 x9 174 [] (fun x' y'=>(Zop hJ x' y').r) (Zsx) (z3.2.1) (by have:=z3.2.2.2;omega)) Zsy,trivial⟩ ?_)
 refine qso tb hJ [0,1,2,3,1008] U9 U5 ?_
 refine cj 4 (fun hb1=>?_) fun hb1=>?_
 have e8:Zfy wd x9=true:=(Zup z3.2).symm.trans hb1
 refine tsq (snK 1 tb rfl (kw pm1 ?_))
 refine ZB (b:=b1) (off:=0) (es:=U2) (news:=U2) hJ hJ0 YK rfl rfl rfl (lb rfl) rfl (fun a w h=>⟨(h.get 4 rfl),(h.get 0 rfl)⟩) ?_
 refine kw pm1 (Z5 (b:=b2) (off:=0) (es:=[_]) hJ hJ0 ZaC rfl rfl rfl (lb rfl) rfl (fun a w h=>⟨(h.get 3 rfl),(Rel.of_lit (.bool true))⟩) ?_)
 refine seK [3,4] U2 rfl (nx (ZA (kw pm1 ?_)))
 exact fun a w h=>⟨⟨x9,Zw4 hpre r1_ e8⟩,h.keep,h.x⟩
 have e8:Zfy wd x9=false:=(Zup z3.2).symm.trans hb1
 exact Zb (kw (fun h=>ZcX (p:=(∀ x∈(pre++[x9]),Zfy wd x=false)) (Zrp r1_ e8) h) (fun a w h=>⟨(),h.keep,h.x⟩))
 rintro hfl _ D
 refine kw pm1 (Znv fun hF=>?_)
 have r1_:∀ x∈(Zcm bl ap us),Zfy wd x=false:=hF
 have e9:Zj4 bl ap us wd=none:=Ztx r1_
 refine nxAD (m:=5) ?_
 refine Zug ?_
 refine Zpw ?_
 refine sy (.agg (prC (⟨⟨#[]⟩,⟨#[]⟩⟩:Pr))) (fun h=>Yh (ps:=[]) (us:=[.string ⟨#[]⟩,.string ⟨#[]⟩]) Zgq rfl yz ZcJ rfl (Ys (.lit _ nzl) (Ys (.lit _ nzl) ZJ)) h.x) ?_
 refine kw pm2 (ZB (b:=b1) (off:=0) (es:=U2) (news:=U2) hJ hJ0 YK rfl rfl rfl (lb rfl) rfl (fun a w h=>⟨(h.get 3 rfl),(h.get 0 rfl)⟩) ?_)
 refine kw pm2 (Z5 (b:=b2) (off:=0) (es:=[_]) hJ hJ0 ZaC rfl rfl rfl (lb rfl) rfl (fun a w h=>⟨(h.get 2 rfl),(Rel.of_lit (.bool false))⟩) ?_)
 refine seK [2,3] U2 rfl (nxD ?_)
 refine dtw pm2 ?_
 refine d_ret ?_
 refine outD hJ hJ0 ?_
 exact kw pm1 (fun a w h=>ZoP (m:=1) (q:=0) rfl YR Zmi h rfl rfl rfl (show(_:List CD)=[lS ((Zes bl ap us wd).a),lS ((Zes bl ap us wd).b)]from by(first | rw[Zhs e9] | rw[Zhu e9] | rw[Zhr s'.2] | rw[Zht s'.2])<;>rfl) (eB (by first | rw[Zhs e9] | rw[Zhu e9] | rw[Zhr s'.2] | rw[Zht s'.2])))
 rintro s' D
 refine outD hJ hJ0 ?_
 exact fun a w h=>ZoP (m:=2) (q:=1) rfl YR Zmi h rfl rfl rfl (show(_:List CD)=[lS ((Zes bl ap us wd).a),lS ((Zes bl ap us wd).b)]from by(first | rw[Zhs e9] | rw[Zhu e9] | rw[Zhr s'.2] | rw[Zht s'.2])<;>rfl) (eB (by first | rw[Zhs e9] | rw[Zhu e9] | rw[Zhr s'.2] | rw[Zht s'.2]))
 · exact fun v h=>by cases h
 · exact fun q=>q.elim
section
variable {J:WP} (hJ:Stab J)
include hJ
theorem Zvr (v:Value) (sk:List (List BA)):FnM (ι:=Unit) Tryz.prog J 148 [] [.lit v] [OB.row v 22 1 (sk.map Zn)] (fun _=>.lit (Zfp v)) (fun _=>[OB.clp (Zfp v) (sk.map Zn)]):=p_Clip hJ v _ _
theorem Zvc (b:Nat) (d:Db) (f:Fr) (nm:Value) (xs:List Itm) (vs vt:Value) (n:Nat) (kn:Bool) (y1 y2:Int) (sk:List (List BA)) (t:List BA) (hb:sk.length≤4000):FnM (ι:=Value) Tryz.prog J 113 [] [.at b 0,.rd (Zf t)] [OB.var b (mkM d f nm xs vs vt n kn y1 y2),OB.clp vs (sk.map Zn)] (fun _=>.tup []) (fun i'=>[OB.var b (mkC d f [.lit nm,Qv xs,.lit (i'),.lit vt,lI (n:Int),lB kn,lI y1,lI y2]),OB.row i' 22 1 ((sk++[t]).map Zn)]):=by
 refine fEM Tryz.func113 fun S w0 R hS hJ0 hH=>?_
 refine Yq (B:=So J S w0 14 (OB.var b (mkM d f nm xs vs vt n kn y1 y2)::OB.clp vs (sk.map Zn)::R) [(0,.at b 0),(1,.rd (Zf t))]) ?_ fun a w h=>h
 refine ln 1 fun hl1=>?_
 refine ZE (snK 2 tb rfl (sy (.at b 0) (fun h=>Zy rfl (h.get 0 rfl) h.x) ?_))
 refine sy (.at b 13) (fun h=>Zr YL rfl (h.get 0 rfl) h.x) ?_
 refine sy (.lit vs) (fun h=>Zw Zaj rfl (Zh h.x (mo 0 rfl)) (h.get 0 rfl) rfl h.x) ?_
 refine snK 1 tb rfl (sy (.rd (Ye ([t]))) (fun h=>YC ZF ZaL rfl (h.get 0 rfl) (Zq hS _ h.keep h.x _ nlr) (jo hJ h.x)) ?_)
 refine kw pm1 (ZlU (f:=Zn) (m:=2) (s:=8) sk ([t]) (fun _=>rfl) Qy hJ rfl rfl rfl (lb rfl) rfl rfl (fun a w h=>(h.get 0 rfl)) yz sfz sfz fun v1=>?_)
 refine sy (.at b 0) (fun h=>Zy rfl (h.get 7 rfl) h.x) ?_
 refine sy (.at b 13) (fun h=>Zr YL rfl (h.get 0 rfl) h.x) ?_
 refine kw pm1 (Z5 (b:=b) (off:=13) (cs:=(mkM d f nm xs vs vt n kn y1 y2)) (es:=(mkM d f nm xs v1 vt n kn y1 y2)) hJ hJ0 ZbD rfl rfl rfl (lb rfl) rfl (fun a w h=>⟨(h.get 0 rfl),(h.get 2 rfl)⟩) ?_)
 refine seK [3] [_] rfl (kw (ob1 (congrArg (fun z'=>OB.row v1 22 1 ((z').map Zn)) (show(sk++([t]))=(sk++[t])from by first | rfl | grind))) ?_)
 exact fun a w h=>Qu  v1 rfl h rfl
theorem p_use (b:Nat) (d:Db) (f:Fr) (nm:Value) (xs:List Itm) (vs vt:Value) (n:Nat) (kn:Bool) (y1 y2:Int) (sk:List (List BA)) (x:Itm) (gf:Fr) (hg:ge d.frames x.number.toNat=gf) (hn:0≤x.number) (hn2:x.number<d.frames.length) (hsk:∀ t∈sk,1≤t.length∧t.length≤2000) (hskl:sk.length≤2000) (hh:gf.hyps.length≤2000) (hf:∀ h∈gf.hyps,h.floating=true→h.text.length=2) (hwd:f.wide.length*32≤140737488351232):FnP (ι:= {q':Value×List (List BA) // Zdu d.vars f.wide gf sk= .ok q'.2}) (κ:= {c:Int // Zdu d.vars f.wide gf sk= .error c}) Tryz.prog J 114 [] [.at b 0,.agg (itC x)] [OB.var b (mkM d f nm xs vs vt n kn y1 y2),OB.row vs 22 1 (sk.map Zn)] (fun _=>.tup []) (fun i'=>[OB.var b (mkC d f [.lit nm,Qv xs,.lit (i'.1.1),.lit vt,lI (n:Int),lB kn,lI y1,lI y2]),OB.row i'.1.1 22 1 ((i'.1.2).map Zn)]) (fun k'=>flV k'.1) (fun _=>[OB.var b (mkM d f nm xs vs vt n kn y1 y2),OB.row vs 22 1 (sk.map Zn)]):=by
 refine fEP Tryz.func114 fun S w0 R hS hJ0 hH=>?_
 refine Yq (B:=So J S w0 155 (OB.var b (mkM d f nm xs vs vt n kn y1 y2)::OB.row vs 22 1 (sk.map Zn)::R) [(0,.at b 0),(1,.agg (itC x))]) ?_ fun a w h=>h
 refine ZG tb hJ [0,1000] [.ptr (itC x)] [0] U2 rfl ⟨iBo hS hJ,trivial⟩ ?_
 refine Ze (Yo tb hJ [0,1004,1008] [_,.at b 0,.at b 0,.at b 2,.rd (Zb9 d.frames),_,_,.ptr (frC (ge d.frames x.number.toNat)),_] [1,2,3,4,7] U3 rfl ⟨fun _ _ _ hx hl _=>Zy rfl (hl.D 0 16 rfl rfl) hx,fun _ _ _ hx hl _=>Zr Zgf rfl (hl.D 1 17 rfl rfl) hx,fun _ _ _ hx hl _=>Zr Qi rfl (hl.D 2 18 rfl rfl) hx,fun _ _ _ hx hl _=>Zw ZeX rfl (Zh hx (mo 0 rfl)) (hl.D 3 19 rfl rfl) rfl hx,iIz ZV,trivial⟩ ?_)
 refine kw (sa 2 rfl (show(.ptr (frC (ge d.frames x.number.toNat)):AV)= .ptr (frC gf)from by rw[hg])) (nx (ln 1 fun hl1=>?_))
 refine ZmW tb hJ [0,2,1011] [_,.at b 0,.at b 13,.lit vs,.int (sk.length:Nat),_,_,_,_,.int (gf.hyps.length:Nat),.int ((sk.length:Int)-(gf.hyps.length:Int)),_] [1,2,3,4,9,10] U3 rfl ⟨fun _ _ _ hx hl _=>Zy rfl (hl.D 0 24 rfl rfl) hx,fun _ _ _ hx hl _=>Zr YL rfl (hl.D 1 25 rfl rfl) hx,fun _ _ _ hx hl _=>Zw Zaj rfl (Zem hx (mo 0 rfl)) (hl.D 2 26 rfl rfl) rfl hx,fun _ _ _ hx hl _=>Zai Y9 rfl (Qa hS hx (mo 1 rfl) (hl.D 3 27 rfl rfl)) hx,Z3 Zz,ZvR,trivial⟩ ?_
 refine Ze (qso tb hJ [0,1,2,1001] U2 U4 ?_)
 refine cj 3 (fun hb1=>?_) fun hb1=>?_
 ·
  try simp at hb1
  refine ZE (Qo (O:=[]) (R:=(OB.var b (mkM d f nm xs vs vt n kn y1 y2)::OB.row vs 22 1 (sk.map Zn)::R)) (QT hJ (c:=(23:Int)) ) Xc rfl rfl rfl (lb rfl) hS hJ0 Zv (fun a w h=>(Za (Rel.of_lit (.int .i64 23)) Zg)) (fun _=>?_) (fun i=>i.elim))
  exact fun a w h=>pnP (⟨23,ZuC oz⟩: {c:Int // Zdu d.vars f.wide gf sk= .error c}) rfl a w h
 ·
  try simp at hb1
  refine tw (sa 2 rfl (show(.int ((sk.length:Int)-(gf.hyps.length:Int)):AV)= .int ((sk.length-gf.hyps.length):Nat)from congrArg AV.int oz)) (Zb (nx (ZG tb hJ [0,1,2,1006] [_,.at b 0,.at b 13,.lit vs,_,.lit (ZfY vs (sk.length-gf.hyps.length) 1),_] [1,2,3,5] U4 rfl ⟨fun _ _ _ hx hl _=>Zy rfl (hl.D 0 38 rfl rfl) hx,fun _ _ _ hx hl _=>Zr YL rfl (hl.D 1 39 rfl rfl) hx,fun _ _ _ hx hl _=>Zw Zaj rfl (Zh hx (mo 0 rfl)) (hl.D 2 40 rfl rfl) rfl hx,fun _ _ _ hx hl _=>ZhP (lo:=(sk.length-gf.hyps.length)) ZF rfl (Zh hx (mo 1 rfl)) (hl.D 3 41 rfl rfl) (hl.D 4 42 rfl rfl) (by rw[List.length_map];exact sfz) hx,trivial⟩ ?_)))
  refine qso tb hJ [0,1,2,3,1000] [_] U5 ?_
  refine Ze (ZG tb hJ (r5 [1003,1004,1005]) (V4 [.int (gf.hyps.length:Nat),_]) [4] U8 rfl ⟨Z3 Zz,trivial⟩ ?_)
  refine ln 5 fun hl2=>?_
  refine Zc (tw (YS 161 2 hJ) (lpo (ι:=Nat×Value×(List Bd)) (fun(k,_,bs)=>(k≤gf.hyps.length)∧(bs=YW gf.hyps sk (sk.length-gf.hyps.length) k)∧(∀ j,j<k→Ze5 gf.hyps sk (sk.length-gf.hyps.length) j=true)) (fun(_,wv,bs)=>(OB.row wv 161 2 (bs.map bdC)::OB.var b (mkM d f nm xs vs vt n kn y1 y2)::OB.row vs 22 1 (sk.map Zn)::R)) (fun(k,wv,_)=>[(49,.int (k:Nat)),(7,.lit wv)]) (fun(k,_,_)=>gf.hyps.length-k) [0,1,2,3,5,6,7,4] U6 (0,(.slice none 0 0),([]:List Bd)) ⟨nzl,rfl,fun j hj=>by omega⟩ ?_))
  rintro⟨k,wv,bs⟩ ⟨f1_1,f1_2,f1_3⟩
  refine qso tb hJ (r8 [1000]) [_] U9 ?_
  refine cjS 8 (fun hb2=>?_) fun hb2=>?_
  ·
   try simp at hb2
   refine Zb (nx (Ze (Zc (tsq (snK 1 tb rfl (sy (.ptr (hyC (ge gf.hyps k))) (fun h=>ZQ (i:=(k:Int)) Zo rfl (h.get 5 rfl) (h.get 7 rfl) nnn (Z0 (xs:=gf.hyps) (k:=k) sfz) rfl h.x) ?_))))))
   refine snK 1 tb rfl (ZT YI hJ rfl rfl rfl (lb rfl) fun b3=>?_)
   refine snK 1 tb rfl (ZB (b:=b3) (off:=0) (es:=U3) (news:=U3) hJ hJ0 YN rfl rfl rfl (lb rfl) rfl (fun a w h=>⟨(h.get 1 rfl),(h.get 2 rfl)⟩) ?_)
   refine kw (fun h=>YJ hS h (m:=1) (s:=9) rfl) (seK [0,1,5,6,7,8,9,10,11,12] U10 rfl ?_)
   refine nx (Ze (qso tb hJ [0,1,2,3,4,5,6,7,8,9,1002] U3 [_,_,_,_,_,_,_,_,_,_,_] ?_))
   refine cj 10 (fun hb3=>?_) fun hb3=>?_
   ·
    try simp at hb3
    refine Zs (nx (Yo tb hJ [2,3,4,5,6,7,9,1001] [.int (k+1:Nat),_] [0] U8 rfl ⟨Z7,trivial⟩ ?_))
    exact YE (k+1,wv,bs) (r6 [7,6]) ⟨oz,by rw[Zdp,←f1_2];simp[Zqn,hb3],ZK f1_3 (by simp[Ze5,hb3])⟩
   ·
    try simp at hb3
    have e3:(ge gf.hyps k).text.length=2:=hf _ (Zu oz) (by simpa using hb3)
    have e4:=hsk _ (Zu (xs:=sk) (k:=sk.length-gf.hyps.length+k) oz)
    refine Zb (nx (Ze (ZG tb hJ [0,1,2,3,4,5,6,7,8,9,1003,1007,1010] [_,_,.lit (Y8 vs (((sk.length-gf.hyps.length)+k)*1)),.rd (Zf (ge sk ((sk.length-gf.hyps.length)+k))),.ptr [lS (ge (ge sk ((sk.length-gf.hyps.length)+k)) 0)],_,_,_,.ptr [lS (ge ((ge gf.hyps k).text) 0)],_,_] [2,3,4,8] [_,_,_,_,_,_,_,_,_,_,_,_,_] rfl ⟨fun _ _ _ hx hl _=>ZaW (lo:=(sk.length-gf.hyps.length)) (i:=(k:Int)) ZF rfl (Zh hx (mo 2 rfl)) (hl.D 0 57 rfl rfl) (hl.D 1 58 rfl rfl) nnn (by rw[List.length_map];exact sfz) hx,fun _ _ _ hx hl _=>XV (i:=((sk.length-gf.hyps.length)+k)) Xg rfl (Zh hx (mo 2 rfl)) (hl.D 2 59 rfl rfl) (Qq (xs:=sk) (k:=((sk.length-gf.hyps.length)+k)) sfz) hx,iIx (k:=0) Zd,iIx (k:=0) Zd,trivial⟩ ?_)))
    refine ln 10 fun hl3=>?_
    refine ln 11 fun hl4=>?_
    refine cj 12 (fun hb4=>?_) fun hb4=>?_
    ·
     try simp at hb4
     have e5:Ze5 gf.hyps sk (sk.length-gf.hyps.length) k=false:=by simp[Ze5,hb3,hb4]
     refine ZE (Qo (O:=[]) (R:=(OB.row wv 161 2 (bs.map bdC)::OB.var b (mkM d f nm xs vs vt n kn y1 y2)::OB.row vs 22 1 (sk.map Zn)::R)) (QT hJ (c:=(24:Int)) ) Xc rfl rfl rfl (lb rfl) hS hJ0 Zv (fun a w h=>(Za (Rel.of_lit (.int .i64 24)) Zg)) (fun _=>?_) (fun i=>i.elim))
     exact kw ZM (fun a w h=>pnP (⟨24,ZuB oz (j:=k) oz e5⟩: {c:Int // Zdu d.vars f.wide gf sk= .error c}) rfl a w h)
    ·
     try simp at hb4
     refine Zb (nx (fun a w h=>X5 (OB.var b (mkM d f nm xs vs vt n kn y1 y2)::OB.row vs 22 1 (sk.map Zn)::R) (γ:=Value) (fun ix'=>([.lit wv,.ptr [Zf ((ge gf.hyps k).text)],.rd (Zf ((ge gf.hyps k).text)),.ptr [lS (ge ((ge gf.hyps k).text) 1)],.str (ge ((ge gf.hyps k).text) 1),.lit (ZfY vs (sk.length-gf.hyps.length) 1),.int (k:Nat),.lit (Y8 vs (((sk.length-gf.hyps.length)+k)*1)),.rd (Zf (ge sk ((sk.length-gf.hyps.length)+k))),.rd (Zf ((ge sk ((sk.length-gf.hyps.length)+k)).drop 1)),.agg (bdC (⟨(ge ((ge gf.hyps k).text) 1),(ge sk ((sk.length-gf.hyps.length)+k)).drop 1⟩:Bd)),.rd (Zea ([(⟨(ge ((ge gf.hyps k).text) 1),(ge sk ((sk.length-gf.hyps.length)+k)).drop 1⟩:Bd)])),.any,.any]:List AV).getD ix' .any) (fun _=>true) [(0,fun _=>.at b 0),(4,fun _=>.ptr (frC gf)),(5,fun _=>.int ((sk.length-gf.hyps.length):Nat)),(6,fun _=>.lit (ZfY vs (sk.length-gf.hyps.length) 1)),(47,fun _=>.rd (Y1 gf.hyps)),(48,fun _=>.int (gf.hyps.length:Nat)),(49,fun _=>.int (k:Nat)),(7,fun g=>.lit g)] (fun j' g=>match j' with | 0=>(OB.row wv 161 2 (bs.map bdC)::OB.var b (mkM d f nm xs vs vt n kn y1 y2)::OB.row vs 22 1 (sk.map Zn)::R) | _=>(OB.row g 161 2 ((bs++([(⟨(ge ((ge gf.hyps k).text) 1),(ge sk ((sk.length-gf.hyps.length)+k)).drop 1⟩:Bd)])).map bdC)::OB.var b (mkM d f nm xs vs vt n kn y1 y2)::OB.row vs 22 1 (sk.map Zn)::R)) (fun k' g=>match k' with | 0=>g | 1=>g | _=>undef) [12,13] 2 (.slice none 0 0) (fun _=>rfl) h hJ Yr rfl rfl rfl rfl rfl rfl hsb ⟨?_,?_,?_,?_,?_,?_,?_,?_,?_,?_,?_,?_,?_,?_,trivial⟩ ⟨?e13_1_0,?e13_1_1,trivial⟩ ⟨.old 2 0 _,.old 3 4 _,.old 4 5 _,.old 5 6 _,.old 6 47 _,.old 7 48 _,.old 8 49 _,.eff 1 13 7 (fun(g:Value)=>g) rfl rfl (fun _=>rfl) (fun _ _ hx=>Zah (hx.2.1 _ (mo 0 rfl))),trivial⟩ ?n13_1))
     exact oX rfl fun hx hl=>Z2 rfl (hl.env 9 7 _ rfl rfl) hx
     exact oX rfl fun hx hl=>ZN Qg rfl (hl.env 0 9 _ rfl rfl) hx
     exact oX rfl fun hx hl=>ZH Xg rfl (hl.D 1 70 rfl rfl) hx
     exact oX rfl fun hx hl=>ZQ (i:=((1:Nat):Int)) Zd rfl (hl.D 2 71 rfl rfl) (Rel.of_lit (.int .i64 1)) nnn (Z0 (xs:=(ge gf.hyps k).text) (k:=1) sfz) rfl hx
     exact oX rfl fun hx hl=>ZH QU rfl (hl.D 3 72 rfl rfl) hx
     exact oX rfl fun hx hl=>Z2 rfl (hl.env 5 6 _ rfl rfl) hx
     exact oX rfl fun hx hl=>Z2 rfl (hl.env 1 8 _ rfl rfl) hx
     exact fun _ O' hO'=>⟨rfl,fun _ _ _ hx hl _=>ZaW (lo:=(sk.length-gf.hyps.length)) (i:=(k:Int)) ZF rfl (Zh hx (hO' _ (mo 1 rfl))) (hl.D 5 74 rfl rfl) (hl.D 6 75 rfl rfl) nnn (by rw[List.length_map];exact sfz) hx⟩
     exact fun _ O' hO'=>⟨rfl,fun _ _ _ hx hl _=>XV (i:=((sk.length-gf.hyps.length)+k)) Xg rfl (Zh hx (hO' _ (mo 1 rfl))) (hl.D 7 76 rfl rfl) (Qq (xs:=sk) (k:=((sk.length-gf.hyps.length)+k)) sfz) hx⟩
     exact oX rfl fun hx hl=>Yy (ys:=(ge sk ((sk.length-gf.hyps.length)+k)).drop 1) (lo:=1) (hi:=(ge sk ((sk.length-gf.hyps.length)+k)).length) (by rw[List.take_length]) Zd (fun _=>rfl) rfl (hl.D 8 77 rfl rfl) (Rel.of_lit (.int .i64 1)) rfl sfz sfz hx
     exact fun _ O' _=>⟨rfl,fun a _ _ hx hl _=>Xe (us:=[a.eval (.tmp 73),a.eval (.tmp 78)]) Zfw rfl yz (Zi (hl.D 4 73 rfl rfl) (Zi (hl.D 9 78 rfl rfl) ZJ)) rfl hx⟩
     exact oY rfl fun hk hx hl=>Xw XD Zj9 dz rfl rfl (hl.D 10 79 rfl rfl) (Zq hS _ hk hx _ nlr) (jo hJ hx)
     exact Zl rfl
     exact Zl rfl
     case e13_1_0=>exact⟨_,rfl,rfl,rfl,rfl,fun _ _ w hk hx hl _=>Zx (Qw (f:=bdC) bs ([(⟨(ge ((ge gf.hyps k).text) 1),(ge sk ((sk.length-gf.hyps.length)+k)).drop 1⟩:Bd)]) (fun _=>rfl) Zfz hJ hJ0 rfl hk hx (hl.D 0 69 rfl rfl).lit (hl.D 11 80 rfl rfl) (by have:=Zet gf.hyps sk (sk.length-gf.hyps.length) k;rw[f1_2];simp;omega) (by have:=Zet gf.hyps sk (sk.length-gf.hyps.length) k;rw[f1_2];simp;omega)) fun v w' hp=>⟨v,rfl,fun k' hk'=>absurd hk' (Nat.not_lt_zero _),fun _=>rfl,hp⟩⟩
     case e13_1_1=>exact⟨_,rfl,rfl,rfl,rfl,fun g _ w hk hx _ hs=>Zx (Zbn (.inl rfl) (hs 0 12 _ 81 oz rfl rfl rfl) hk hx) fun v w' hp=>⟨g,rfl,fun _ _=>rfl,fun _=>hp.1,hp.2⟩⟩
     clear a w h
     intro v6
     dsimp only[List.map]
     refine nx (Yo tb hJ (r6 [7,1001]) [.int (k+1:Nat),_] [0] U8 rfl ⟨Z7,trivial⟩ ?_)
     exact YE (k+1,v6,bs++([(⟨(ge ((ge gf.hyps k).text) 1),(ge sk ((sk.length-gf.hyps.length)+k)).drop 1⟩:Bd)])) (r6 [7,6]) ⟨oz,by rw[Zdp,←f1_2];simp[Zqn,hb3],ZK f1_3 (by simp[Ze5,hb4])⟩
  ·
   try simp at hb2
   have e6:∀ j,j<gf.hyps.length→Ze5 gf.hyps sk (sk.length-gf.hyps.length) j=true:=fun j hj=>f1_3 j oz
   refine Zs (nx (Ze (tw (fun h=>ZO hS h (m:=7) (s:=7) rfl) (tw (sa 0 rfl (congrArg (fun z'=>AV.rd (Zea z')) (show bs=(YW gf.hyps sk (sk.length-gf.hyps.length) gf.hyps.length)from by rw[f1_2,show k=gf.hyps.length by omega]))) ?_))))
   refine ZG tb hJ (r5 [1003,1004,1005]) (V4 [.int (gf.hyps.length:Nat),_]) [4] U8 rfl ⟨Z3 Zz,trivial⟩ ?_
   refine ln 0 fun hl5=>?_
   refine Zc (lpo (ι:=Nat) (fun j=>(j≤gf.hyps.length)∧(∀ i,i<j→ZhB gf.hyps sk (sk.length-gf.hyps.length) (YW gf.hyps sk (sk.length-gf.hyps.length) gf.hyps.length) i=true)) (fun _=>(OB.var b (mkM d f nm xs vs vt n kn y1 y2)::OB.row vs 22 1 (sk.map Zn)::R)) (fun j=>[(88,.int (j:Nat))]) (fun j=>gf.hyps.length-j) (r8 []) U7 0 ⟨nzl,fun j hj=>by omega⟩ ?_)
   rintro j ⟨f2_1,f2_2⟩
   refine qso tb hJ (r8 [1000]) [_] U9 ?_
   refine cjS 8 (fun hb5=>?_) fun hb5=>?_
   ·
    try simp at hb5
    refine Zb (nx (Ze (Zc (tsq (snK 1 tb rfl (sy (.ptr (hyC (ge gf.hyps j))) (fun h=>ZQ (i:=(j:Int)) Zo rfl (h.get 6 rfl) (h.get 8 rfl) nnn (Z0 (xs:=gf.hyps) (k:=j) sfz) rfl h.x) ?_))))))
    refine snK 1 tb rfl (ZT YI hJ rfl rfl rfl (lb rfl) fun b7=>?_)
    refine snK 1 tb rfl (ZB (b:=b7) (off:=0) (es:=U3) (news:=U3) hJ hJ0 YN rfl rfl rfl (lb rfl) rfl (fun a w h=>⟨(h.get 1 rfl),(h.get 2 rfl)⟩) ?_)
    refine kw (fun h=>YJ hS h (m:=1) (s:=11) rfl) (seK [0,1,5,6,7,8,9,10,11,12] U10 rfl ?_)
    refine nx (ZG tb hJ [2,3,4,5,6,7,8,9,1013] (V9 [.lit (Y8 vs (((sk.length-gf.hyps.length)+j)*1)),.rd (Zf (ge sk ((sk.length-gf.hyps.length)+j))),.bool (Zqz ((ge gf.hyps j).text) (YW gf.hyps sk (sk.length-gf.hyps.length) gf.hyps.length) (ge sk ((sk.length-gf.hyps.length)+j))),_,_]) [9,10,11] U9 rfl ⟨fun _ _ _ hx hl hc=>ZaW (lo:=(sk.length-gf.hyps.length)) (i:=(j:Int)) ZF rfl (Zh hx (mo 1 rfl)) (hl.D 7 100 rfl hc) (hl.D 8 101 rfl hc) nnn (by rw[List.length_map];exact(by have hc':((!((ge gf.hyps j).floating))==true)=true:=hc;(try simp at hc');(first | omega | (simp;omega) | grind[Zu]))) hx,fun _ _ _ hx hl hc=>XV (i:=((sk.length-gf.hyps.length)+j)) Xg rfl (Zh hx (mo 1 rfl)) (hl.D 9 102 rfl hc) (Qq (xs:=sk) (k:=((sk.length-gf.hyps.length)+j)) (by have hc':((!((ge gf.hyps j).floating))==true)=true:=hc;(try simp at hc');(first | omega | (simp;omega) | grind[Zu]))) hx,iFo hS hJ (p_Fits hJ ((ge gf.hyps j).text) (YW gf.hyps sk (sk.length-gf.hyps.length) gf.hyps.length) (ge sk ((sk.length-gf.hyps.length)+j))) ZsS,trivial⟩ ?_)
    refine cj 8 (fun hb6=>?_) fun hb6=>?_
    ·
     try simp at hb6
     have e7:ZhB gf.hyps sk (sk.length-gf.hyps.length) (YW gf.hyps sk (sk.length-gf.hyps.length) gf.hyps.length) j=false:=by simp[ZhB];simpa using hb6
     refine ZE (Qo (O:=[]) (R:=(OB.var b (mkM d f nm xs vs vt n kn y1 y2)::OB.row vs 22 1 (sk.map Zn)::R)) (QT hJ (c:=(25:Int)) ) Xc rfl rfl rfl (lb rfl) hS hJ0 Zv (fun a w h=>(Za (Rel.of_lit (.int .i64 25)) Zg)) (fun _=>?_) (fun i=>i.elim))
     exact fun a w h=>pnP (⟨25,ZuA oz e6 (j:=j) oz e7⟩: {c:Int // Zdu d.vars f.wide gf sk= .error c}) rfl a w h
    ·
     try simp at hb6
     refine Zb (nx (Yo tb hJ (r7 [1001]) [.int (j+1:Nat),_] [0] U8 rfl ⟨Z7,trivial⟩ ?_))
     exact YE (j+1) (r8 []) ⟨oz,ZK f2_2 (by simp[ZhB];grind)⟩
   ·
    try simp at hb5
    have e8:∀ j,j<gf.hyps.length→ZhB gf.hyps sk (sk.length-gf.hyps.length) (YW gf.hyps sk (sk.length-gf.hyps.length) gf.hyps.length) j=true:=fun i hi=>f2_2 i oz
    refine Zs (nx (ZG tb hJ [0,1,2,3,1003,1007,1009,1010] (V5 [.tup [.rd (Zf (if ZaS (Z1 (YW gf.hyps sk (sk.length-gf.hyps.length) gf.hyps.length)) gf.text 2000 then XQ (Z1 (YW gf.hyps sk (sk.length-gf.hyps.length) gf.hyps.length)) gf.text else [])),.int (if ZaS (Z1 (YW gf.hyps sk (sk.length-gf.hyps.length) gf.hyps.length)) gf.text 2000 then 0 else 15)],_,_,_,_,_]) [5] U8 rfl ⟨iFo hS hJ (Zou hJ gf.text (YW gf.hyps sk (sk.length-gf.hyps.length) gf.hyps.length) 2000 sfz (Zdo (fun t ht=>(hsk t ht).2) oz)) ZsR,trivial⟩ ?_))
    refine ln 4 fun hl6=>?_
    refine ln 5 fun hl7=>?_
    refine Ze (qso tb hJ [0,1,2,3,6,1001] U2 U6 ?_)
    refine cj 5 (fun hb7=>?_) fun hb7=>?_
    ·
     try simp at hb7
     have e9:ZaS (Z1 (YW gf.hyps sk (sk.length-gf.hyps.length) gf.hyps.length)) gf.text 2000=false:=by cases h9:ZaS (Z1 (YW gf.hyps sk (sk.length-gf.hyps.length) gf.hyps.length)) gf.text 2000<;>simp_all
     refine ZE (Qo (O:=[]) (R:=(OB.var b (mkM d f nm xs vs vt n kn y1 y2)::OB.row vs 22 1 (sk.map Zn)::R)) (QT hJ (c:=(15:Int)) ) Xc rfl rfl rfl (lb rfl) hS hJ0 Zv (fun a w h=>(Za (Rel.of_lit (.int .i64 15)) Zg)) (fun _=>?_) (fun i=>i.elim))
     exact fun a w h=>pnP (⟨15,ZuD oz e6 e8 e9⟩: {c:Int // Zdu d.vars f.wide gf sk= .error c}) rfl a w h
    ·
     try simp at hb7
     have e9:ZaS (Z1 (YW gf.hyps sk (sk.length-gf.hyps.length) gf.hyps.length)) gf.text 2000=true:=by cases h9:ZaS (Z1 (YW gf.hyps sk (sk.length-gf.hyps.length) gf.hyps.length)) gf.text 2000<;>simp_all
     refine Zb (nx (Ze (Ze (fun a w h=>YF (γ:=Nat) (fun ix'=>([.rd (Zea (YW gf.hyps sk (sk.length-gf.hyps.length) gf.hyps.length)),.ptr (frC gf),.ptr (frC gf),.ptr [YV gf.apart,Zf gf.text,Y1 gf.dummies,YV gf.wide,Zf gf.proof],.rd (YV gf.apart),.at b 0,.at b 0,.at b 0,.at b 1,.rd (Zf d.vars),.at b 0,.at b 0,.at b 3,.at b 9,.rd (YV f.wide),.tup [.agg (prC (Zes (YW gf.hyps sk (sk.length-gf.hyps.length) gf.hyps.length) gf.apart d.vars f.wide)),.bool (Zd9 (YW gf.hyps sk (sk.length-gf.hyps.length) gf.hyps.length) gf.apart d.vars f.wide)],.tup [.agg (prC (Zes (YW gf.hyps sk (sk.length-gf.hyps.length) gf.hyps.length) gf.apart d.vars f.wide)),.bool (Zd9 (YW gf.hyps sk (sk.length-gf.hyps.length) gf.hyps.length) gf.apart d.vars f.wide)],.agg (prC (Zes (YW gf.hyps sk (sk.length-gf.hyps.length) gf.hyps.length) gf.apart d.vars f.wide)),.bool (Zd9 (YW gf.hyps sk (sk.length-gf.hyps.length) gf.hyps.length) gf.apart d.vars f.wide),.any,.any,.bool (Zd9 (YW gf.hyps sk (sk.length-gf.hyps.length) gf.hyps.length) gf.apart d.vars f.wide)]:List AV).getD ix' .any) (fun _=>true) [(0,fun _=>.at b 0),(5,fun _=>.int ((sk.length-gf.hyps.length):Nat)),(12,fun _=>.rd (Zf (if ZaS (Z1 (YW gf.hyps sk (sk.length-gf.hyps.length) gf.hyps.length)) gf.text 2000 then XQ (Z1 (YW gf.hyps sk (sk.length-gf.hyps.length) gf.hyps.length)) gf.text else []))),(15,fun _=>.bool (Zd9 (YW gf.hyps sk (sk.length-gf.hyps.length) gf.hyps.length) gf.apart d.vars f.wide))] (fun j' g=>match j' with | 0=>(OB.var b (mkM d f nm xs vs vt n kn y1 y2)::OB.row vs 22 1 (sk.map Zn)::R) | 1=>(OB.var g [lS (⟨#[]⟩:BA),lS (⟨#[]⟩:BA)]::OB.var b (mkM d f nm xs vs vt n kn y1 y2)::OB.row vs 22 1 (sk.map Zn)::R) | _=>(OB.var g (prC (Zes (YW gf.hyps sk (sk.length-gf.hyps.length) gf.hyps.length) gf.apart d.vars f.wide))::OB.var b (mkM d f nm xs vs vt n kn y1 y2)::OB.row vs 22 1 (sk.map Zn)::R)) (fun k' g=>match k' with | 0=>(.pointer (some ⟨g,0,none⟩)) | _=>undef) [19,20] 2 0 (fun _=>rfl) h hJ Yr rfl rfl rfl rfl rfl rfl hsb ⟨?_,?_,?_,?_,?_,?_,?_,?_,?_,?_,?_,?_,?_,?_,?_,?_,?_,?_,?_,?_,?_,?_,trivial⟩ ⟨?e24_2_0,?e24_2_1,trivial⟩ ⟨.old 1 0 _,.old 3 5 _,.old 4 12 _,.new 21 15 _,trivial⟩ ?n24_2))))
     exact oX rfl fun hx hl=>Z2 rfl (hl.env 0 7 _ rfl rfl) hx
     exact oX rfl fun hx hl=>Z2 rfl (hl.env 2 4 _ rfl rfl) hx
     exact oX rfl fun hx hl=>XA rfl (hl.D 1 123 rfl rfl) hx
     exact oX rfl fun hx hl=>ZN Zcd rfl (hl.D 2 124 rfl rfl) hx
     exact oX rfl fun hx hl=>ZH Zga rfl (hl.D 3 125 rfl rfl) hx
     exact oX rfl fun hx hl=>Z2 rfl (hl.env 1 0 _ rfl rfl) hx
     exact oX rfl fun hx hl=>Zy rfl (hl.D 5 127 rfl rfl) hx
     exact oX rfl fun hx hl=>Zr Zgf rfl (hl.D 6 128 rfl rfl) hx
     exact oX rfl fun hx hl=>Zr ZdN rfl (hl.D 7 129 rfl rfl) hx
     exact fun _ O' hO'=>⟨rfl,fun _ _ _ hx hl _=>Zw Xg rfl (Zh hx (hO' _ (mo 0 rfl))) (hl.D 8 130 rfl rfl) rfl hx⟩
     exact oX rfl fun hx hl=>Z2 rfl (hl.env 1 0 _ rfl rfl) hx
     exact oX rfl fun hx hl=>Zy rfl (hl.D 10 132 rfl rfl) hx
     exact oX rfl fun hx hl=>Zr Zaf rfl (hl.D 11 133 rfl rfl) hx
     exact oX rfl fun hx hl=>Zr Zcb rfl (hl.D 12 134 rfl rfl) hx
     exact fun _ O' hO'=>⟨rfl,fun _ _ _ hx hl _=>Zw Zga rfl (Zh hx (hO' _ (mo 0 rfl))) (hl.D 13 135 rfl rfl) rfl hx⟩
     exact oY rfl fun hk hx hl=>ZaY (ZrH hJ (YW gf.hyps sk (sk.length-gf.hyps.length) gf.hyps.length) gf.apart d.vars f.wide (Zdo (fun t ht=>(hsk t ht).2) oz) (hwd)) ZsQ rfl (Zq hS _ hk hx) (hx.1) (Za (hl.D 0 122 rfl rfl) (Za (hl.D 4 126 rfl rfl) (Za (hl.D 9 131 rfl rfl) (Za (hl.D 14 136 rfl rfl) Zg)))) (jo hJ hx)
     exact oX rfl fun hx hl=>Z2 rfl (hl.D 15 137 rfl rfl) hx
     exact oX rfl fun hx hl=>YT rfl (hl.D 16 121 rfl rfl) rfl hx
     exact oX rfl fun hx hl=>YT rfl (hl.D 16 121 rfl rfl) rfl hx
     exact Zl rfl
     exact Zl rfl
     exact oX rfl fun hx hl=>XW rfl (hl.D 18 139 rfl rfl) hx
     case e24_2_0=>exact⟨_,rfl,rfl,rfl,rfl,fun g _ w hk hx _ _=>Zx (ZaQ XL hJ rfl hk hx) fun v w' ⟨g',hv,hp⟩=>⟨g',rfl,fun k' hk'=>absurd hk' (Nat.not_lt_zero _),fun _=>hv,hp⟩⟩
     case e24_2_1=>exact⟨_,rfl,rfl,rfl,rfl,fun g a w hk hx hl hs=>(by obtain⟨us2,hv2,hr3⟩:=Q3 (hl.D 17 138 rfl rfl);exact Zx (Xl (S':=S) (off:=0) (news:=U2) (es:=U2) (us:=us2) hJ hJ0 YK rfl hk hx (Zcs (hs 0 19 _ 14 oz rfl rfl rfl)) (by rw[hv2];rfl) hr3 (lb rfl) rfl) fun v w' hp=>⟨g,rfl,fun _ _=>rfl,fun e=>(by cases e),hp⟩)⟩
     clear a w h
     intro b12
     dsimp only[List.map]
     refine kw ZM (nx (ln 2 fun hl8=>?_))
     refine qso tb hJ [0,1,2,1000] [_] U4 ?_
     refine cj 3 (fun hb8=>?_) fun hb8=>?_
     ·
      try simp at hb8
      have e10:Zd9 (YW gf.hyps sk (sk.length-gf.hyps.length) gf.hyps.length) gf.apart d.vars f.wide=true:=by simpa using hb8
      refine ZE (Qo (O:=[]) (R:=(OB.var b (mkM d f nm xs vs vt n kn y1 y2)::OB.row vs 22 1 (sk.map Zn)::R)) (QT hJ (c:=(26:Int)) ) Xc rfl rfl rfl (lb rfl) hS hJ0 Zv (fun a w h=>(Za (Rel.of_lit (.int .i64 26)) Zg)) (fun _=>?_) (fun i=>i.elim))
      exact fun a w h=>pnP (⟨26,Zuz oz e6 e8 e9 e10⟩: {c:Int // Zdu d.vars f.wide gf sk= .error c}) rfl a w h
     ·
      try simp at hb8
      have e10:Zd9 (YW gf.hyps sk (sk.length-gf.hyps.length) gf.hyps.length) gf.apart d.vars f.wide=false:=by simpa using hb8
      refine Zb (nx (tw pm1 (tw (fun h=>List.map_take▸st_cut (m:=(sk.length-gf.hyps.length)) (by rw[List.length_map];exact sfz) h) ?_)))
      refine tsq (snK 2 tb rfl (sy (.at b 0) (fun h=>Zy rfl (h.get 0 rfl) h.x) ?_))
      refine sy (.at b 13) (fun h=>Zr YL rfl (h.get 0 rfl) h.x) ?_
      refine sy (.lit vs) (fun h=>Zw Zaj rfl (Zh h.x (mo 1 rfl)) (h.get 0 rfl) rfl h.x) ?_
      refine snK 1 tb rfl (sy (.lit (Zcw vs (sk.length-gf.hyps.length))) (fun h=>ZhS (m:=(sk.length-gf.hyps.length)) ZF rfl (Zh h.x (mo 0 rfl)) (by first | rfl | (rw[List.length_map];exact sfz)) (h.get 1 rfl) (h.get 0 rfl) h.x) ?_)
      refine Xv (O:=[OB.row (Zcw vs (sk.length-gf.hyps.length)) 22 1 ((sk.take (sk.length-gf.hyps.length)).map Zn)]) (R:=(OB.var b (mkM d f nm xs vs vt n kn y1 y2)::R)) (Zvr hJ (Zcw vs (sk.length-gf.hyps.length)) (sk.take (sk.length-gf.hyps.length))) ZsP rfl rfl rfl (lb rfl) hS hJ0 Zv (fun a w h=>(Za (h.get 0 rfl) Zg)) fun _=>?_
      refine sy (.at b 0) (fun h=>Zy rfl (h.get 7 rfl) h.x) ?_
      refine sy (.at b 13) (fun h=>Zr YL rfl (h.get 0 rfl) h.x) ?_
      refine kw pm1 (Z5 (b:=b) (off:=13) (cs:=(mkM d f nm xs vs vt n kn y1 y2)) (es:=(mkC d f [.lit nm,Qv xs,.lit (Zfp (Zcw vs (sk.length-gf.hyps.length))),.lit vt,lI (n:Int),lB kn,lI y1,lI y2])) hJ hJ0 ZbD rfl rfl rfl (lb rfl) rfl (fun a w h=>⟨(h.get 0 rfl),(h.get 2 rfl)⟩) ?_)
      refine seK [10,12] U2 rfl (nx (ZE (snK 2 tb rfl ?_)))
      refine Xv (O:=[OB.var b (mkC d f [.lit nm,Qv xs,.lit (Zfp (Zcw vs (sk.length-gf.hyps.length))),.lit vt,lI (n:Int),lB kn,lI y1,lI y2]),OB.clp (Zfp (Zcw vs (sk.length-gf.hyps.length))) ((sk.take (sk.length-gf.hyps.length)).map Zn)]) (R:=(R)) (Zvc hJ b d f nm xs (Zfp (Zcw vs (sk.length-gf.hyps.length))) vt n kn y1 y2 (sk.take (sk.length-gf.hyps.length)) (if ZaS (Z1 (YW gf.hyps sk (sk.length-gf.hyps.length) gf.hyps.length)) gf.text 2000 then XQ (Z1 (YW gf.hyps sk (sk.length-gf.hyps.length) gf.hyps.length)) gf.text else []) (by rw[List.length_take];omega)) Zho rfl rfl rfl (lb rfl) hS hJ0 Zv (fun a w h=>(Za (h.get 1 rfl) (Za (h.get 0 rfl) Zg))) fun z15=>?_
      exact seK [] [] rfl (fun a w h=>lvP (Qu  ⟨(z15,((sk.take (sk.length-gf.hyps.length))++[(if ZaS (Z1 (YW gf.hyps sk (sk.length-gf.hyps.length) gf.hyps.length)) gf.text 2000 then XQ (Z1 (YW gf.hyps sk (sk.length-gf.hyps.length) gf.hyps.length)) gf.text else [])])),by rw[Zuy oz e6 e8 e9 e10,e9];rfl⟩ rfl h rfl))
end
section
variable {n:Rn} {P:Program} {l:List Oper} {Q:Exit→Act→WP}
theorem ZnS {Pn:List PanicEntry→Act→WP} {I:(Nat→Bool)→Act→WP} {id:Nat} {draw:Bool} {a:Act} {w:World} (hP:∀ ch a w,Pn ch a w→Q (.panic ch) a w) (hm:P.follows .mixedOrders=true) (hback:Zcq l=true)
 (hstep:∀(Q:Exit→Act→WP),(∀ ch a w,Pn ch a w→Q (.panic ch) a w)→∀(b:Nat→Bool) (a:Act) (w:World) (i:Nat) (o:Oper) (rest:List Oper),l[i]?=some o→b i=false→(∀ j∈ZY o,b j=true)→I b a w→(∀ a' w',I (Ym b i) a' w'→wpListIn n.F n.d P l.toArray Q rest a' w')→wpListIn n.F n.d P l.toArray Q (o::rest) a w)
 (hend:∀ a w,I (fun i=>decide (i<l.length)) a w→Q .normal a w) (h0:I (fun _=>false) a w) (hd:I (fun _=>false) a w.drew):(Code.region id l.toArray draw).wpIn n.F n.d P Q a w:=by
 have text:∀(r:List Oper) (k:Nat) (a:Act) (w:World),k+r.length=l.length→l.drop k=r→I (fun i=>decide (i<k)) a w→wpListIn n.F n.d P l.toArray Q r a w:=by
  intro r
  induction r with
  | nil=>
   intro k a w hl _ h
   simp only[List.length_nil,Nat.add_zero]at hl
   subst hl
   exact wpListIn_nil (hend _ _ h)
  | cons o r ih=>
   intro k a w hl hr h
   simp only[List.length_cons]at hl
   have hi:l[k]?=some o:=by
    have:(l.drop k)[0]?=some o:=by rw[hr];rfl
    simpa [List.getElem?_drop]using this
   refine hstep Q hP _ a w k o r hi yz (fun j hj=>by have:=Zbb hback hi hj;simpa using this) h fun a' w' h'=>?_
   refine ih (k+1) a' w' oz ?_ ?_
   · have:l.drop (k+1)=(l.drop k).drop 1:=by rw[List.drop_drop]
     rw[this,hr];rfl
   · have he:(fun i=>decide (i<k+1))=Ym (fun i=>decide (i<k)) k:=by
      funext i
      unfold Ym
      by_cases e:i=k
      · simp[e]
      · rw[if_neg e]
        congr 1
        apply propext
        omega
     rw[he];exact h'
 have fin:∀(d:Array Bool) (a:Act) (w:World),d.size=l.length→I (fun i=>d.getD i false) a w→Region.ready .any l.toArray d=[]→Q .normal a w:=fun d a w hl h hnil=>by
  have hall:=Zb0 hl hback hnil
  have he:(fun i=>d.getD i false)=fun i=>decide (i<l.length):=by
   funext i
   by_cases hi:i<l.length
   · simp[hall i hi,hi]
   · simp only[hi,decide_false]
     rw[Array.getD_eq_getD_getElem?,Array.getElem?_eq_none oz]
     rfl
  rw[he]at h
  exact hend _ _ h
 have any:∀(fuel:Nat) (d:Array Bool) (a:Act) (w:World),d.size=l.length→Ze3 d≤fuel→I (fun i=>d.getD i false) a w→wpAnyIn n.F n.d P .any l.toArray Q fuel d a w:=by
  intro fuel
  induction fuel with
  | zero=>
   intro d a w hl hf h
   have hnil:Region.ready .any l.toArray d=[]:=by
    cases hr:Region.ready .any l.toArray d with
    | nil=>rfl
    | cons x xs=>
     have hx:x∈Region.ready .any l.toArray d:=by rw[hr];simp
     have:=QY (mem_ready.1 hx).1
     omega
   exact⟨hnil,fin d a w hl h hnil⟩
  | succ fuel ih=>
   intro d a w hl hf h
   refine⟨fun hnil=>fin d a w hl h hnil,fun i hr=>?_⟩
   obtain⟨h1,o,ho,h2⟩:=mem_ready.1 hr
   have ho':l[i]?=some o:=by simpa using ho
   have hil:i<d.size:=by rw[hl];exact(List.getElem?_eq_some_iff.1 ho').1
   refine Q6 ho (hstep (Exit.then _ Q) (fun ch a w h=>hP ch a w h) _ a w i o [] ho' (by simpa [Array.getD,hil]using h1) (fun j hj=>?_) h fun a' w' h'=>?_)
   · obtain⟨e,he,hb,rfl⟩:=mem_depsOf.1 hj
     exact h2 e he hb
   · refine wpListIn_nil ?_
     refine ih _ a' w' (by simpa using hl) (by have:=QY h1;omega) ?_
     have he:(fun j=>(d.setIfInBounds i true).getD j false)=Ym (fun j=>d.getD j false) i:=by
      funext j
      by_cases hj:j=i
      · subst hj
        simp[Ym,Array.getD,hil]
      · simp only[Ym,if_neg hj,Array.getD_eq_getD_getElem?]
        rw[Array.getElem?_setIfInBounds_ne (fun e=>hj e.symm)]
     rw[he];exact h'
 cases draw with
 | false=>
  refine wpIn_region_lit (text l 0 a w yz rfl ?_)
  have he:(fun i=>decide (i<0))=fun _:Nat=>false:=by funext i;simp
  rw[he];exact h0
 | true=>
  refine wpIn_region_any hm (any _ _ a _ yz ?_ ?_)
  · simp only[Ze3]
    exact Nat.le_trans List.countP_le_length yz
  · have he:(fun i=>(Array.replicate l.toArray.size false).getD i false)=fun _=>false:=by
     funext i
     simp[Array.getD]
    rw[he]
    exact hd
end
section
variable {n:Rn} {P:Program} {l:List Oper} {Q:Exit→Act→WP}
variable {N:Nat} {J:WP} {S:Nat→Prop} {O:List OB} {w0:World} {env:List (Nat×AV)} {avs:Nat→AV} {conds:Nat→Bool} {T:Array Value} {γ:Type}
end
section
variable {n:Rn} {N:Nat} {P:Program} {S:Nat→Prop} {w0:World} {env:List (Nat×AV)} {X:WP} {l:List Oper} {Q:Exit→Act→WP}
theorem ZhN {id:Nat} {draw:Bool} {a:Act} {w:World} (avs:Nat→AV) (conds:Nat→Bool) (k:Nat) {o:Oper} (ho:l[k]?=some o) (hk:l.length=k+1) (hg:o.guard=none) (hdep:(List.range k).all (fun i=>Zck l l.length k i)=true) {G:WP} {B:List PanicEntry→WP}
 (h:St All S w0 N env X a w) (hm:P.follows .mixedOrders=true) (hu:Xs l=true) (hN:Zbm l N=true) (hback:Zcq l=true) (hx:Stab X)
 (ob:∀ i o,i<k→l[i]?=some o→Ob n P All S w0 env X l avs conds i o)
 (last:∀ a w,Keeps All w0 w→X w→Look S w env l avs conds k a→Zqx n P o a w (fun _ w'=>G w') B)
 (hG:∀ a w,a.defers=[]→G w→Q .normal a w) (hB:∀ ch a w,a.defers=[]→B ch w→Q (.panic ch) a w):(Code.region id l.toArray draw).wpIn n.F n.d P Q a w:=by
 have start:∀ w',Keeps All w w'→RInv All S S w0 N env X l avs conds a.tmps (fun _=>false) a w':=fun w' hkw=>
  ⟨h.defs,h.size,h.keep.trans hkw,hx _ _ hkw h.x,fun _ _=>rfl,fun _ _ _ _ _ e _=>(by cases e),fun _ _ _ _ _ e _=>(by cases e),fun _ _ _ e=>(by cases e),fun _ h=>h,fun p hp=>⟨(h.env p hp).1,(h.env p hp).2.on hkw⟩⟩
 refine ZnS (Pn:=fun ch a' w'=>a'.defers=[]∧B ch w') (I:=fun b a' w'=>(b k=false∧RInv All S S w0 N env X l avs conds a.tmps b a' w')∨((∀ i,i≤k→b i=true)∧a'.defers=[]∧G w')) (fun ch a' w' hp=>hB ch a' w' hp.1 hp.2) hm hback ?_ ?_ (.inl ⟨rfl,start w (Keeps.refl _ _)⟩) (.inl ⟨rfl,start _ (Keeps.refl _ _).drew⟩)
 · rintro Q hP b a1 w1 i o' rest hi hb hd (⟨hbk,hr⟩ | ⟨hall,_⟩) hK
   · by_cases e:i=k
     · subst e
       rw[ho]at hi;cases hi
       refine wpListIn_plain hg fun K' hKr=>?_
       refine last a1 w1 hr.keep hr.x (hr.look ho hb hd) K' Q (fun v w2 hgw=>?_) fun ch w2 hbw=>hP _ _ _ ⟨hr.defs,hbw⟩
       refine hKr _ _ (hK _ _ (.inr ⟨fun j hj=>?_,by rw[Zaa];exact hr.defs,hgw⟩))
       by_cases ej:j=i
       · simp[Ym,ej]
       · simp only[Ym,if_neg ej]
         have hu':=List.all_eq_true.1 hdep j (by simp;omega)
         exact Q9 hr.closed _ i j _ ho hd hu'
     · have hlt:i<k:=by
        have:=(List.getElem?_eq_some_iff.1 hi).1
        omega
       refine hr.does hu hN hi hb hd (ob i o' hlt hi) fun a' w' h'=>hK _ _ (.inl ⟨?_,h'⟩)
       simp only[Ym,if_neg (fun e':k=i=>e e'.symm)]
       exact hbk
   · have:=(List.getElem?_eq_some_iff.1 hi).1
     rw[hall i oz]at hb
     cases hb
 · rintro a1 w1 (⟨hbk,_⟩ | ⟨_,hd,hgw⟩)
   · simp[hk]at hbk
   · exact hG a1 w1 hd hgw
end
theorem Zva {J:WP} (hJ:Stab J) (bx bm b:Nat) (x:Itm) (fk:FuncId) {ι κ:Type} {O:List OB} {O':ι→List OB} {pv:κ→Value} {O'':κ→List OB} (h0:0≤x.kind) (hk:([.lit (fnV 111),.lit (fnV 112),.lit (fnV 114),.lit (fnV 115),.lit (fnV 116)]:List CD)[x.kind.toNat]?=some (.lit (fnV fk))) (hok:Zk Tryz.prog fk)
 (hF:FnP Tryz.prog J fk [] [.at b 0,.agg (itC x)] O (fun _=>.tup []) O' pv O''):
 FnP Tryz.prog J 63 [] [.at bx 0,.at bm 0] (OB.var bx (itC x)::OB.var bm [.lit (.pointer (some ⟨b,0,none⟩))]::O) (fun _=>.tup []) (fun i=>OB.var bx (itC x)::OB.var bm [.lit (.pointer (some ⟨b,0,none⟩))]::O' i) pv (fun k=>OB.var bx (itC x)::OB.var bm [.lit (.pointer (some ⟨b,0,none⟩))]::O'' k):=by
 refine fEP Tryz.func63 fun S w0 R hS hJ0 hH=>?_
 intro a w h
 have hpm:∀(A:List OB),((OB.var bx (itC x)::OB.var bm [.lit (.pointer (some ⟨b,0,none⟩))]::A)++R).Perm (A++OB.var bx (itC x)::OB.var bm [.lit (.pointer (some ⟨b,0,none⟩))]::R):=fun A=>by
  have e1:=List.perm_middle (l₁:=A) (l₂:=OB.var bm [.lit (.pointer (some ⟨b,0,none⟩))]::R) (a:=OB.var bx (itC x))
  have e2:=List.perm_middle (l₁:=A) (l₂:=R) (a:=OB.var bm [.lit (.pointer (some ⟨b,0,none⟩))])
  exact(List.Perm.cons _ e2.symm).trans e1.symm
 refine ZhN (fun i=>([.agg [.lit (fnV 111),.lit (fnV 112),.lit (fnV 114),.lit (fnV 115),.lit (fnV 116)],.at bx 0,.int x.kind,.lit (fnV fk),.at b 0,.agg (itC x),.any]:List AV).getD i .any) (fun _=>true) 6 rfl rfl rfl rfl
  (G:=fun w'=>∃ i,Keeps All w0 w'∧XO J S w0.heap.size ((OB.var bx (itC x)::OB.var bm [.lit (.pointer (some ⟨b,0,none⟩))]::O' i)++R) w')
  (B:=fun ch w'=>∃ k,ch=pch (pv k)∧Keeps All w0 w'∧XO J S w0.heap.size ((OB.var bx (itC x)::OB.var bm [.lit (.pointer (some ⟨b,0,none⟩))]::O'' k)++R) w') h Yr rfl rfl rfl (YA hJ) ?_ ?_ ?_ ?_
 · intro i o hi ho
   match i,hi with
   | 0,_=>cases ho;exact⟨rfl,fun a w hk hx hl _=>ZaY (Zu9 hJ) Zwx rfl (Zq hS _ hk hx) hx.1 Zg (jo hJ hx)⟩
   | 1,_=>cases ho;exact⟨rfl,fun a w _ hx hl _=>Zr ZjL rfl (hl.env 0 0 _ rfl rfl) hx⟩
   | 2,_=>cases ho;exact⟨rfl,fun a w _ hx hl _=>Zw Zay rfl (Zh hx (mo 0 rfl)) (hl.D 1 3 rfl rfl) rfl hx⟩
   | 3,_=>cases ho;exact⟨rfl,fun a w _ hx hl _=>ZkC ZfG Zvz ZlX rfl (hl.D 0 2 rfl rfl) (hl.D 2 4 rfl rfl) h0 rfl hk hx⟩
   | 4,_=>cases ho;exact⟨rfl,fun a w _ hx hl _=>Zw Xo rfl (Zh hx (mo 1 rfl)) (hl.env 1 1 _ rfl rfl) rfl hx⟩
   | 5,_=>cases ho;exact⟨rfl,fun a w _ hx hl _=>Yz (ds:=itC x) Zaw rfl (Zh hx (mo 0 rfl)) (hl.env 0 0 _ rfl rfl) rfl rfl hx⟩
 · intro a w hkk hx hl
   have hc:a.eval (.tmp 5)=fnV fk:=(hl.D 3 5 rfl rfl).lit
   have hx':=YH (hpm O) hx
   have hsub:∀ k,SO S ((OB.var bx (itC x)::OB.var bm [.lit (.pointer (some ⟨b,0,none⟩))]::O)++R) k→SO S (O++OB.var bx (itC x)::OB.var bm [.lit (.pointer (some ⟨b,0,none⟩))]::R) k:=fun k hs=>hs.perm (hpm O)
   intro K' Q' hK hQ
   refine Zuh (res:=fun _:ι=>.tup []) (O:=O) (R:=OB.var bx (itC x)::OB.var bm [.lit (.pointer (some ⟨b,0,none⟩))]::R) (avs:=[.at b 0,.agg (itC x)]) (avc:=[]) (cap:=[]) (args:=[.tmp 6,.tmp 7]) (by rw[List.append_nil];exact hF) hok rfl hS hJ0 Zv hkk hx' hc (Za ((hl.D 4 6 rfl rfl).sub fun k _=>hsub k) (Za ((hl.D 5 7 rfl rfl).sub fun k _=>hsub k) Zg)) Zg K' Q' (fun v w' ⟨i,hs,_⟩=>hK v w' ⟨i,hs.1,YH (hpm _).symm hs.2.1⟩) fun ch w' ⟨k,hch,hs⟩=>hQ ch w' ⟨k,hch,hs.1,YH (hpm _).symm hs.2.1⟩
 · rintro a w hd ⟨i,hk1,hx1⟩
   exact⟨hd,.tuple #[],by simp[results,Tryz.results63,Sem.run_pure],.inl ⟨i,_,rfl,(by simp only[Rel,RelL];exact⟨[],rfl,rfl⟩),hk1,hx1⟩⟩
 · rintro ch a w hd ⟨k,rfl,hk1,hx1⟩
   exact⟨hd,.inr ⟨k,rfl,hk1,hx1⟩⟩
end Go.Proofs.YtneapgbkkkjagaaGreatDoor
set_option maxHeartbeats 8000000
set_option maxRecDepth 100000
namespace Go.Proofs.YtneapgbkkkjagaaGreatDoor
open Go.Proofs.Tryz (prog)
open Go.RowKit
section
variable {J:WP} (hJ:Stab J)
include hJ
theorem Zvh (b:Nat) (d:Db) (f:Fr) (nm:Value) (xs:List Itm) (vs vt:Value) (n:Nat) (kn:Bool) (y1 y2:Int) (sk:List (List BA)) (tg:List (List BA)) (x:Itm) (hk:x.kind=0):FnP (ι:= {q':Value×List (List BA) // Xi d.frames d.vars f sk tg x= .ok q'.2}) (κ:= {c:Int // Xi d.frames d.vars f sk tg x= .error c}) prog J 111 [] [.at b 0,.agg (itC x)] [OB.var b (mkM d f nm xs vs vt n kn y1 y2),OB.row vs 22 1 (sk.map Zn),OB.row vt 22 1 (tg.map Zn)] (fun _=>.tup []) (fun i'=>[OB.var b (mkC d f [.lit nm,Qv xs,.lit (i'.1.1),.lit vt,lI (n:Int),lB kn,lI y1,lI y2]),OB.row i'.1.1 22 1 ((i'.1.2).map Zn),OB.row vt 22 1 (tg.map Zn)]) (fun k'=>flV k'.1) (fun _=>[OB.var b (mkM d f nm xs vs vt n kn y1 y2),OB.row vs 22 1 (sk.map Zn),OB.row vt 22 1 (tg.map Zn)]):=by
 refine fEP Tryz.func111 fun S w0 R hS hJ0 hH=>?_
 refine Yq (B:=So J S w0 5 (OB.var b (mkM d f nm xs vs vt n kn y1 y2)::OB.row vs 22 1 (sk.map Zn)::OB.row vt 22 1 (tg.map Zn)::R) [(0,.at b 0),(1,.agg (itC x))]) ?_ fun a w h=>h
 refine ZG tb hJ [] [.ptr (itC x)] [0] [] rfl ⟨iBo hS hJ,trivial⟩ ?_
 refine ZE (Qo (O:=[]) (R:=(OB.var b (mkM d f nm xs vs vt n kn y1 y2)::OB.row vs 22 1 (sk.map Zn)::OB.row vt 22 1 (tg.map Zn)::R)) (QT hJ (c:=(27:Int)) ) Xc rfl rfl rfl (lb rfl) hS hJ0 Zv (fun a w h=>(Za (Rel.of_lit (.int .i64 27)) Zg)) (fun _=>?_) (fun i=>i.elim))
 exact fun a w h=>pnP (⟨27,by simp[Xi,hk]⟩: {c:Int // Xi d.frames d.vars f sk tg x= .error c}) rfl a w h
theorem Zve (b:Nat) (d:Db) (f:Fr) (nm:Value) (xs:List Itm) (vs vt:Value) (n:Nat) (kn:Bool) (y1 y2:Int) (sk:List (List BA)) (tg:List (List BA)) (x:Itm) (hk:x.kind=3):FnP (ι:= {q':Value×List (List BA) // Xi d.frames d.vars f sk tg x= .ok q'.2}) (κ:= {c:Int // Xi d.frames d.vars f sk tg x= .error c}) prog J 115 [] [.at b 0,.agg (itC x)] [OB.var b (mkM d f nm xs vs vt n kn y1 y2),OB.row vs 22 1 (sk.map Zn),OB.row vt 22 1 (tg.map Zn)] (fun _=>.tup []) (fun i'=>[OB.var b (mkC d f [.lit nm,Qv xs,.lit (i'.1.1),.lit vt,lI (n:Int),lB kn,lI y1,lI y2]),OB.row i'.1.1 22 1 ((i'.1.2).map Zn),OB.row vt 22 1 (tg.map Zn)]) (fun k'=>flV k'.1) (fun _=>[OB.var b (mkM d f nm xs vs vt n kn y1 y2),OB.row vs 22 1 (sk.map Zn),OB.row vt 22 1 (tg.map Zn)]):=by
 refine fEP Tryz.func115 fun S w0 R hS hJ0 hH=>?_
 refine Yq (B:=So J S w0 5 (OB.var b (mkM d f nm xs vs vt n kn y1 y2)::OB.row vs 22 1 (sk.map Zn)::OB.row vt 22 1 (tg.map Zn)::R) [(0,.at b 0),(1,.agg (itC x))]) ?_ fun a w h=>h
 refine ZG tb hJ [] [.ptr (itC x)] [0] [] rfl ⟨iBo hS hJ,trivial⟩ ?_
 refine ZE (Qo (O:=[]) (R:=(OB.var b (mkM d f nm xs vs vt n kn y1 y2)::OB.row vs 22 1 (sk.map Zn)::OB.row vt 22 1 (tg.map Zn)::R)) (QT hJ (c:=(22:Int)) ) Xc rfl rfl rfl (lb rfl) hS hJ0 Zv (fun a w h=>(Za (Rel.of_lit (.int .i64 22)) Zg)) (fun _=>?_) (fun i=>i.elim))
 exact fun a w h=>pnP (⟨22,by simp[Xi,hk]⟩: {c:Int // Xi d.frames d.vars f sk tg x= .error c}) rfl a w h
theorem Zvg (b:Nat) (d:Db) (f:Fr) (nm:Value) (xs:List Itm) (vs vt:Value) (n:Nat) (kn:Bool) (y1 y2:Int) (sk:List (List BA)) (tg:List (List BA)) (x:Itm) (hk:x.kind=1) (hl:sk.length≤2000):FnP (ι:= {q':Value×List (List BA) // Xi d.frames d.vars f sk tg x= .ok q'.2}) (κ:= {c:Int // Xi d.frames d.vars f sk tg x= .error c}) prog J 112 [] [.at b 0,.agg (itC x)] [OB.var b (mkM d f nm xs vs vt n kn y1 y2),OB.row vs 22 1 (sk.map Zn),OB.row vt 22 1 (tg.map Zn)] (fun _=>.tup []) (fun i'=>[OB.var b (mkC d f [.lit nm,Qv xs,.lit (i'.1.1),.lit vt,lI (n:Int),lB kn,lI y1,lI y2]),OB.row i'.1.1 22 1 ((i'.1.2).map Zn),OB.row vt 22 1 (tg.map Zn)]) (fun k'=>flV k'.1) (fun _=>[OB.var b (mkM d f nm xs vs vt n kn y1 y2),OB.row vs 22 1 (sk.map Zn),OB.row vt 22 1 (tg.map Zn)]):=by
 refine fEP Tryz.func112 fun S w0 R hS hJ0 hH=>?_
 refine Yq (B:=So J S w0 8 (OB.var b (mkM d f nm xs vs vt n kn y1 y2)::OB.row vs 22 1 (sk.map Zn)::OB.row vt 22 1 (tg.map Zn)::R) [(0,.at b 0),(1,.agg (itC x))]) ?_ fun a w h=>h
 refine ZG tb hJ [0,1000] [.ptr (itC x)] [0] U2 rfl ⟨iBo hS hJ,trivial⟩ ?_
 refine ZE (snK 3 tb rfl (Xv (O:=[OB.var b (mkM d f nm xs vs vt n kn y1 y2),OB.row vs 22 1 (sk.map Zn)]) (R:=(OB.row vt 22 1 (tg.map Zn)::R)) (Zt1 hJ b d f nm xs vs vt n kn y1 y2 sk x.text sfz) Zho rfl rfl rfl (lb rfl) hS hJ0 Zv (fun a w h=>(Za (h.get 2 rfl) (Za (h.get 0 rfl) Zg))) fun z1=>?_))
 exact seK [1] [_] rfl (fun a w h=>lvP (Qu  ⟨(z1,(sk++[x.text])),by simp[Xi,hk]⟩ rfl h rfl))
theorem Zrv (b:Nat) (d:Db) (f:Fr) (nm:Value) (xs:List Itm) (vs vt:Value) (n:Nat) (kn:Bool) (y1 y2:Int) (sk:List (List BA)) (tg:List (List BA)) (xt:List BA) (q:Nat) (xg:Bool) (hl:sk.length≤2000) (hn2:q<tg.length):FnP (ι:= {q':Value×List (List BA) // Xi d.frames d.vars f sk tg ⟨4,xt,(q:Int),xg⟩= .ok q'.2}) (κ:= {c:Int // Xi d.frames d.vars f sk tg ⟨4,xt,(q:Int),xg⟩= .error c}) prog J 116 [] [.at b 0,.agg [lI (4:Int),Zf xt,lI (q:Int),lB xg]] [OB.var b (mkM d f nm xs vs vt n kn y1 y2),OB.row vs 22 1 (sk.map Zn),OB.row vt 22 1 (tg.map Zn)] (fun _=>.tup []) (fun i'=>[OB.var b (mkC d f [.lit nm,Qv xs,.lit (i'.1.1),.lit vt,lI (n:Int),lB kn,lI y1,lI y2]),OB.row i'.1.1 22 1 ((i'.1.2).map Zn),OB.row vt 22 1 (tg.map Zn)]) (fun k'=>flV k'.1) (fun _=>[OB.var b (mkM d f nm xs vs vt n kn y1 y2),OB.row vs 22 1 (sk.map Zn),OB.row vt 22 1 (tg.map Zn)]):=by
 refine fEP Tryz.func116 fun S w0 R hS hJ0 hH=>?_
 refine Yq (B:=So J S w0 14 (OB.var b (mkM d f nm xs vs vt n kn y1 y2)::OB.row vs 22 1 (sk.map Zn)::OB.row vt 22 1 (tg.map Zn)::R) [(0,.at b 0),(1,.agg [lI (4:Int),Zf xt,lI (q:Int),lB xg])]) ?_ fun a w h=>h
 refine ZG tb hJ [0,1000] [.ptr [lI (4:Int),Zf xt,lI (q:Int),lB xg]] [0] U2 rfl ⟨iBo hS hJ,trivial⟩ ?_
 refine fun a w h=>YF (γ:=Value) (fun ix'=>([.at b 0,.at b 0,.at b 0,.at b 14,.lit vt,.ptr [lI (q:Int),lB xg],.int (q:Nat),.lit (Y8 vt (q*1)),.rd (Zf (ge tg q)),.any]:List AV).getD ix' .any) (fun _=>true) [] (fun j' g=>match j' with | 0=>(OB.var b (mkM d f nm xs vs vt n kn y1 y2)::OB.row vs 22 1 (sk.map Zn)::OB.row vt 22 1 (tg.map Zn)::R) | _=>(OB.var b (mkM d f nm xs g vt n kn y1 y2)::OB.row g 22 1 ((sk++[(ge tg q)]).map Zn)::OB.row vt 22 1 (tg.map Zn)::R)) (fun k' _=>match k' with | 0=>(.tuple #[]) | _=>undef) [9] 0 (.slice none 0 0) (fun _=>rfl) h hJ Yr rfl rfl rfl rfl rfl rfl hsb ⟨?_,?_,?_,?_,?_,?_,?_,?_,?_,?_,trivial⟩ ⟨?e1_1_0,trivial⟩ trivial ?n1_1
 exact oX rfl fun hx hl=>Z2 rfl (hl.env 0 0 _ rfl rfl) hx
 exact oX rfl fun hx hl=>Z2 rfl (hl.env 0 0 _ rfl rfl) hx
 exact oX rfl fun hx hl=>Zy rfl (hl.D 1 5 rfl rfl) hx
 exact oX rfl fun hx hl=>Zr ZcG rfl (hl.D 2 6 rfl rfl) hx
 exact fun _ O' hO'=>⟨rfl,fun _ _ _ hx hl _=>Zw Zaj rfl (Zh hx (hO' _ (mo 0 rfl))) (hl.D 3 7 rfl rfl) rfl hx⟩
 exact oX rfl fun hx hl=>ZN ZjK rfl (hl.env 1 3 _ rfl rfl) hx
 exact oX rfl fun hx hl=>ZH Zay rfl (hl.D 5 9 rfl rfl) hx
 exact fun _ O' hO'=>⟨rfl,fun _ _ _ hx hl _=>YP (i:=(q:Int)) ZF rfl (Zh hx (hO' _ (mo 2 rfl))) (hl.D 4 8 rfl rfl) (hl.D 6 10 rfl rfl) nnn (by rw[List.length_map];exact Int.ofNat_lt.2 sfz) hx⟩
 exact fun _ O' hO'=>⟨rfl,fun _ _ _ hx hl _=>XV (i:=q) Xg rfl (Zh hx (hO' _ (mo 2 rfl))) (hl.D 7 11 rfl rfl) (Qq (xs:=tg) (k:=q) sfz) hx⟩
 exact Zl rfl
 case e1_1_0=>exact⟨_,rfl,rfl,rfl,rfl,fun _ _ w hk hx hl _=>Zx (d_fn (O:=[OB.var b (mkM d f nm xs vs vt n kn y1 y2),OB.row vs 22 1 (sk.map Zn)]) (R:=(OB.row vt 22 1 (tg.map Zn)::R)) (Zt1 hJ b d f nm xs vs vt n kn y1 y2 sk (ge tg q) sfz) Zho rfl hS hJ0 Zv hk hx (Za (hl.D 0 4 rfl rfl) (Za (hl.D 8 12 rfl rfl) Zg))) fun v w' ⟨i,hp,hv⟩=>⟨i,(by simp only[]),fun k' hk'=>absurd hk' (Nat.not_lt_zero _),fun _=>ZgO hv,hp⟩⟩
 clear a w h
 intro z1
 dsimp only[List.map]
 exact fun a w h=>lvP (Qu  ⟨(z1,(sk++[(ge tg q)])),by simp[Xi]⟩ rfl h rfl)
theorem Zvf (b:Nat) (d:Db) (f:Fr) (nm:Value) (xs:List Itm) (vs vt:Value) (n:Nat) (kn:Bool) (y1 y2:Int) (sk:List (List BA)) (tg:List (List BA)) (x:Itm) (hk:x.kind=2) (hn:0≤x.number) (hn2:x.number<d.frames.length) (hsk:∀ t∈sk,1≤t.length∧t.length≤2000) (hskl:sk.length≤2000) (hh:(ge d.frames x.number.toNat).hyps.length≤2000) (hf:∀ h∈(ge d.frames x.number.toNat).hyps,h.floating=true→h.text.length=2) (hwd:f.wide.length*32≤140737488351232):
 FnP (ι:= {q':Value×List (List BA) // Xi d.frames d.vars f sk tg x= .ok q'.2}) (κ:= {c:Int // Xi d.frames d.vars f sk tg x= .error c}) prog J 114 [] [.at b 0,.agg (itC x)] [OB.var b (mkM d f nm xs vs vt n kn y1 y2),OB.row vs 22 1 (sk.map Zn),OB.row vt 22 1 (tg.map Zn)] (fun _=>.tup []) (fun i'=>[OB.var b (mkC d f [.lit nm,Qv xs,.lit (i'.1.1),.lit vt,lI (n:Int),lB kn,lI y1,lI y2]),OB.row i'.1.1 22 1 ((i'.1.2).map Zn),OB.row vt 22 1 (tg.map Zn)]) (fun k'=>flV k'.1) (fun _=>[OB.var b (mkM d f nm xs vs vt n kn y1 y2),OB.row vs 22 1 (sk.map Zn),OB.row vt 22 1 (tg.map Zn)]):=by
 have e:Xi d.frames d.vars f sk tg x=Zdu d.vars f.wide (ge d.frames x.number.toNat) sk:=by simp[Xi,hk]
 rw[e]
 exact FnP.frame [OB.row vt 22 1 (tg.map Zn)] (p_use hJ b d f nm xs vs vt n kn y1 y2 sk x (ge d.frames x.number.toNat) rfl hn hn2 hsk hskl hh hf hwd)
theorem Zvl (b:Nat) (d:Db) (f:Fr) (nm:Value) (xs:List Itm) (vs vt:Value) (n:Nat) (kn:Bool) (y1 y2:Int) (sk:List (List BA))  :FnM (ι:=Unit) prog J 58 [] [.at b 0] [OB.var b (mkM d f nm xs vs vt n kn y1 y2),OB.row vs 22 1 (sk.map Zn)] (fun _=>.tup []) (fun _=>[OB.var b (mkC d f [.lit nm,Qv xs,.lit vs,.lit vt,lI (n:Int),lB (kn|| !decide (n<xs.length)),lI (if n<xs.length then y1 else(Zde f sk n).1),lI (if n<xs.length then y2 else(Zde f sk n).2)]),OB.row vs 22 1 (sk.map Zn)]):=by
 refine fEM Tryz.func58 fun S w0 R hS hJ0 hH=>?_
 refine Yq (B:=So J S w0 47 (OB.var b (mkM d f nm xs vs vt n kn y1 y2)::OB.row vs 22 1 (sk.map Zn)::R) [(0,.at b 0)]) ?_ fun a w h=>h
 refine Ze (ZG tb hJ [0,1007,1009] [_,.at b 0,.at b 15,.int (n:Nat),_,.at b 0,.at b 12,.rd (Qv xs),.int (xs.length:Nat),_] [1,2,3,5,6,7,8] U3 rfl ⟨fun _ _ _ hx hl _=>Zy rfl (hl.D 0 2 rfl rfl) hx,fun _ _ _ hx hl _=>Zr Y2 rfl (hl.D 1 3 rfl rfl) hx,fun _ _ _ hx hl _=>Zw Zay rfl (Zh hx (mo 0 rfl)) (hl.D 2 4 rfl rfl) rfl hx,fun _ _ _ hx hl _=>Zy rfl (hl.D 4 6 rfl rfl) hx,fun _ _ _ hx hl _=>Zr XN rfl (hl.D 5 7 rfl rfl) hx,fun _ _ _ hx hl _=>Zw Zif rfl (Zh hx (mo 0 rfl)) (hl.D 6 8 rfl rfl) rfl hx,Z3 ZeC,trivial⟩ ?_)
 refine ln 1 fun hl1=>?_
 refine cj 2 (fun hb1=>?_) fun hb1=>?_
 ·
  try simp at hb1
  have e1:n<xs.length:=by omega
  exact tw (ob0 (show OB.var b (mkM d f nm xs vs vt n kn y1 y2)=OB.var b (mkC d f [.lit nm,Qv xs,.lit vs,.lit vt,lI (n:Int),lB (kn|| !decide (n<xs.length)),lI (if n<xs.length then y1 else(Zde f sk n).1),lI (if n<xs.length then y2 else(Zde f sk n).2)])from by simp[e1])) (ZA (fun a w h=>Qu  () rfl h rfl))
 ·
  try simp at hb1
  have e1:¬ n<xs.length:=by omega
  refine Zb (nx (Zc (ZmW tb hJ [0,1006] [_,.at b 0,.at b 13,.lit vs,.int (sk.length:Nat),_,_] [1,2,3,4] U2 rfl ⟨fun _ _ _ hx hl _=>Zy rfl (hl.D 0 15 rfl rfl) hx,fun _ _ _ hx hl _=>Zr YL rfl (hl.D 1 16 rfl rfl) hx,fun _ _ _ hx hl _=>Zw Zaj rfl (Zem hx (mo 0 rfl)) (hl.D 2 17 rfl rfl) rfl hx,fun _ _ _ hx hl _=>Zai Y9 rfl (Qa hS hx (mo 1 rfl) (hl.D 3 18 rfl rfl)) hx,trivial⟩ ?_)))
  refine cj 1 (fun hb2=>?_) fun hb2=>?_
  ·
   try simp at hb2
   have e2:¬ sk.length=1:=by omega
   refine ZE (snK 2 tb rfl (sy (.at b 0) (fun h=>Zy rfl (h.get 0 rfl) h.x) ?_))
   refine sy (.at b 15) (fun h=>Zr Y2 rfl (h.get 0 rfl) h.x) ?_
   refine sy (.int (n:Nat)) (fun h=>Zw Zay rfl (Zh h.x (mo 0 rfl)) (h.get 0 rfl) rfl h.x) ?_
   refine Xv (O:=[OB.var b (mkM d f nm xs vs vt n kn y1 y2)]) (R:=(OB.row vs 22 1 (sk.map Zn)::R)) (ZhZ hJ b d f nm xs n vs vt kn y1 y2 (23:Int) (n:Int)) Zfs rfl rfl rfl (lb rfl) hS hJ0 Zv (fun a w h=>(Za (h.get 4 rfl) (Za (Rel.of_lit (.int .i64 23)) (Za (h.get 0 rfl) Zg)))) fun _=>?_
   refine seK [] [] rfl (kw (ob0 (show OB.var b (mkC d f [.lit nm,Qv xs,.lit vs,.lit vt,lI (n:Int),lB true,lI (23:Int),lI (n:Int)])=OB.var b (mkC d f [.lit nm,Qv xs,.lit vs,.lit vt,lI (n:Int),lB (kn|| !decide (n<xs.length)),lI (if n<xs.length then y1 else(Zde f sk n).1),lI (if n<xs.length then y2 else(Zde f sk n).2)])from by simp[Zde,e1,e2])) ?_)
   exact fun a w h=>Qu  () rfl h rfl
  ·
   try simp at hb2
   have e2:sk.length=1:=by omega
   refine ZG tb hJ [0,1005,1010,1013] [_,.at b 0,.at b 13,.lit vs,.lit (Y8 vs (0*1)),.rd (Zf (ge sk 0)),_,.at b 0,.at b 3,.at b 7,.rd (Zf f.text),.bool (decide ((ge sk 0)=f.text)),_,_] [1,2,3,4,5,7,8,9,10,11] U4 rfl ⟨fun _ _ _ hx hl _=>Zy rfl (hl.D 0 28 rfl rfl) hx,fun _ _ _ hx hl _=>Zr YL rfl (hl.D 1 29 rfl rfl) hx,fun _ _ _ hx hl _=>Zw Zaj rfl (Zh hx (mo 0 rfl)) (hl.D 2 30 rfl rfl) rfl hx,fun _ _ _ hx hl _=>YP (i:=(0:Int)) ZF rfl (Zh hx (mo 1 rfl)) (hl.D 3 31 rfl rfl) (Rel.of_lit (S:=fun _=>True) (.int .i64 0)) nnn (by rw[List.length_map];exact Int.ofNat_lt.2 sfz) hx,fun _ _ _ hx hl _=>XV (i:=0) Xg rfl (Zh hx (mo 1 rfl)) (hl.D 4 32 rfl rfl) (Qq (xs:=sk) (k:=0) sfz) hx,fun _ _ _ hx hl _=>Zy rfl (hl.D 6 34 rfl rfl) hx,fun _ _ _ hx hl _=>Zr Zaf rfl (hl.D 7 35 rfl rfl) hx,fun _ _ _ hx hl _=>Zr Zcc rfl (hl.D 8 36 rfl rfl) hx,fun _ _ _ hx hl _=>Zw Xg rfl (Zh hx (mo 0 rfl)) (hl.D 9 37 rfl rfl) rfl hx,iFo hS hJ (ZgU hJ (ge sk 0) f.text) ZjW,trivial⟩ ?_
   refine ln 1 fun hl2=>?_
   refine ln 2 fun hl3=>?_
   refine cj 3 (fun hb3=>?_) fun hb3=>?_
   ·
    try simp at hb3
    refine ZE (snK 2 tb rfl (sy (.at b 0) (fun h=>Zy rfl (h.get 0 rfl) h.x) ?_))
    refine sy (.at b 15) (fun h=>Zr Y2 rfl (h.get 0 rfl) h.x) ?_
    refine sy (.int (n:Nat)) (fun h=>Zw Zay rfl (Zh h.x (mo 0 rfl)) (h.get 0 rfl) rfl h.x) ?_
    refine Xv (O:=[OB.var b (mkM d f nm xs vs vt n kn y1 y2)]) (R:=(OB.row vs 22 1 (sk.map Zn)::R)) (ZhZ hJ b d f nm xs n vs vt kn y1 y2 (28:Int) (n:Int)) Zfs rfl rfl rfl (lb rfl) hS hJ0 Zv (fun a w h=>(Za (h.get 4 rfl) (Za (Rel.of_lit (.int .i64 28)) (Za (h.get 0 rfl) Zg)))) fun _=>?_
    refine seK [] [] rfl (kw (ob0 (show OB.var b (mkC d f [.lit nm,Qv xs,.lit vs,.lit vt,lI (n:Int),lB true,lI (28:Int),lI (n:Int)])=OB.var b (mkC d f [.lit nm,Qv xs,.lit vs,.lit vt,lI (n:Int),lB (kn|| !decide (n<xs.length)),lI (if n<xs.length then y1 else(Zde f sk n).1),lI (if n<xs.length then y2 else(Zde f sk n).2)])from by simp[Zde,e1,e2,hb3])) ?_)
    exact fun a w h=>Qu  () rfl h rfl
   ·
    try simp at hb3
    refine ZE (snK 1 tb rfl (Xv (O:=[OB.var b (mkM d f nm xs vs vt n kn y1 y2)]) (R:=(OB.row vs 22 1 (sk.map Zn)::R)) (ZhZ hJ b d f nm xs n vs vt kn y1 y2 (0:Int) (0:Int)) Zfs rfl rfl rfl (lb rfl) hS hJ0 Zv (fun a w h=>(Za (h.get 0 rfl) (Za (Rel.of_lit (.int .i64 0)) (Za (Rel.of_lit (.int .i64 0)) Zg)))) fun _=>?_))
    refine seK [] [] rfl (kw (ob0 (show OB.var b (mkC d f [.lit nm,Qv xs,.lit vs,.lit vt,lI (n:Int),lB true,lI (0:Int),lI (0:Int)])=OB.var b (mkC d f [.lit nm,Qv xs,.lit vs,.lit vt,lI (n:Int),lB (kn|| !decide (n<xs.length)),lI (if n<xs.length then y1 else(Zde f sk n).1),lI (if n<xs.length then y2 else(Zde f sk n).2)])from by simp[Zde,e1,e2,hb3])) ?_)
    exact fun a w h=>Qu  () rfl h rfl
end
end Go.Proofs.YtneapgbkkkjagaaGreatDoor
set_option maxHeartbeats 8000000
set_option maxRecDepth 100000
namespace Go.Proofs.YtneapgbkkkjagaaGreatDoor
open Go.RowKit
theorem Zvi {J:WP} (hJ:Stab J) (bx bm b:Nat) (d:Db) (f:Fr) (nm:Value) (xs:List Itm) (vs vt:Value) (n:Nat) (kn:Bool) (y1 y2:Int) (sk:List (List BA)) (tg:List (List BA)) (x:Itm) (hsk:∀ t∈sk,1≤t.length∧t.length≤2000) (hskl:sk.length≤2000) (hfr:∀ g∈d.frames,okF g) (hwd:f.wide.length*32≤140737488351232) (hx:okI d.frames.length tg.length x):
 FnM (ι:=(GI d.frames d.vars f sk tg x vs)) Tryz.prog J 54 [] [.lit (.func (.func 63) #[] #[.pointer (some ⟨bx,0,none⟩),.pointer (some ⟨bm,0,none⟩)])] [OB.var bx [lI x.kind,Zf x.text,lI x.number,lB x.tagged],OB.var bm [.lit (.pointer (some ⟨b,0,none⟩))],OB.var b (mkM d f nm xs vs vt n kn y1 y2),OB.row vs 22 1 (sk.map Zn),OB.row vt 22 1 (tg.map Zn)] (fun i'=>.int i'.1.1) (fun i'=>[OB.var bx [lI x.kind,Zf x.text,lI x.number,lB x.tagged],OB.var bm [.lit (.pointer (some ⟨b,0,none⟩))],OB.var b (mkC d f [.lit nm,Qv xs,.lit (i'.1.2.1),.lit vt,lI (n:Int),lB kn,lI y1,lI y2]),OB.row i'.1.2.1 22 1 ((i'.1.2.2).map Zn),OB.row vt 22 1 (tg.map Zn)]):=by
 have hall:∃ fk:FuncId,([.lit (fnV 111),.lit (fnV 112),.lit (fnV 114),.lit (fnV 115),.lit (fnV 116)]:List CD)[x.kind.toNat]?=some (.lit (fnV fk))∧Zk Tryz.prog fk∧FnP (ι:= {q':Value×List (List BA) // Xi d.frames d.vars f sk tg x= .ok q'.2}) (κ:= {c:Int // Xi d.frames d.vars f sk tg x= .error c}) Tryz.prog J fk [] [.at b 0,.agg (itC x)] [OB.var b (mkM d f nm xs vs vt n kn y1 y2),OB.row vs 22 1 (sk.map Zn),OB.row vt 22 1 (tg.map Zn)] (fun _=>.tup []) (fun i'=>[OB.var b (mkC d f [.lit nm,Qv xs,.lit (i'.1.1),.lit vt,lI (n:Int),lB kn,lI y1,lI y2]),OB.row i'.1.1 22 1 ((i'.1.2).map Zn),OB.row vt 22 1 (tg.map Zn)]) (fun k'=>flV k'.1) (fun _=>[OB.var b (mkM d f nm xs vs vt n kn y1 y2),OB.row vs 22 1 (sk.map Zn),OB.row vt 22 1 (tg.map Zn)]):=by
  have hk:x.kind=0∨x.kind=1∨x.kind=2∨x.kind=3∨x.kind=4:=by have:=hx.1;have:=hx.2.1;omega
  rcases hk with hk | hk | hk | hk | hk
  · exact⟨_,by rw[hk];rfl,Zp Tryz.func111 rfl rfl,Zvh hJ b d f nm xs vs vt n kn y1 y2 sk tg x hk⟩
  · exact⟨_,by rw[hk];rfl,Zp Tryz.func112 rfl rfl,Zvg hJ b d f nm xs vs vt n kn y1 y2 sk tg x hk hskl⟩
  · have h2:=hx.2.2.1 hk
    have hg:=hfr (ge d.frames x.number.toNat) (Zu oz)
    exact⟨_,by rw[hk];rfl,Zp Tryz.func114 rfl rfl,Zvf hJ b d f nm xs vs vt n kn y1 y2 sk tg x hk h2.1 h2.2 hsk hskl hg.1 hg.2 hwd⟩
  · exact⟨_,by rw[hk];rfl,Zp Tryz.func115 rfl rfl,Zve hJ b d f nm xs vs vt n kn y1 y2 sk tg x hk⟩
  · have h2:=hx.2.2.2 hk
    obtain⟨kd,xt,num,xg⟩:=x
    obtain rfl:kd=4:=hk
    obtain⟨q,rfl⟩:∃ q:Nat,num=(q:Int):=⟨num.toNat,by simp only at h2;omega⟩
    exact⟨_,by rfl,Zp Tryz.func116 rfl rfl,Zrv hJ b d f nm xs vs vt n kn y1 y2 sk tg xt q xg hskl (by simp only at h2;omega)⟩
 obtain⟨fk,h1,h2,h3⟩:=hall
 have h4:=Zh0 (F:=63) (caps:=[.pointer (some ⟨bx,0,none⟩),.pointer (some ⟨bm,0,none⟩)]) hJ (Zva hJ bx bm b x fk hx.1 h1 h2 h3) (Zp Tryz.func63 rfl rfl) (by intro v hv;simp at hv;rcases hv with rfl | rfl<;>exact True.intro)
 refine(h4.map (ι':=(GI d.frames d.vars f sk tg x vs)) (fun r=>match r with | .inl i=>⟨(0,i.1),.inl ⟨rfl,i.2⟩⟩ | .inr k=>⟨(k.1,vs,sk),.inr ⟨Zr2 k.2,k.2,rfl,rfl⟩⟩) ?_ ?_)
 · rintro(i | k)<;>rfl
 · rintro(i | k)<;>rfl
theorem Zt0 {J:WP} (hJ:Stab J) (b:Nat) (d:Db) (f:Fr) (nm:Value) (xs:List Itm) (vs vt:Value) (n:Nat) (kn:Bool) (y1 y2:Int) (sk:List (List BA)) (tg:List (List BA)) (hi:kn=false→n<xs.length∧okI d.frames.length tg.length (ge xs n)) (hsk:∀ t∈sk,1≤t.length∧t.length≤2000) (hskl:sk.length≤2000) (htg:tg.length≤2000) (hn:n≤2000) (hfr:∀ g∈d.frames,okF g) (hwd:f.wide.length*32≤140737488351232):FnM (ι:=Value×Value) Tryz.prog J 43 [] [.at b 0] [OB.var b (mkM d f nm xs vs vt n kn y1 y2),OB.row vs 22 1 (sk.map Zn),OB.row vt 22 1 (tg.map Zn)] (fun _=>.bool ((ZI d.frames d.vars f xs ⟨sk,tg,n,kn,(y1,y2),false⟩).did)) (fun i'=>[OB.var b (mkC d f [.lit nm,Qv xs,.lit (i'.1),.lit (i'.2),lI (((ZI d.frames d.vars f xs ⟨sk,tg,n,kn,(y1,y2),false⟩).n:Nat):Int),lB ((ZI d.frames d.vars f xs ⟨sk,tg,n,kn,(y1,y2),false⟩).kn),lI ((ZI d.frames d.vars f xs ⟨sk,tg,n,kn,(y1,y2),false⟩).v.1),lI ((ZI d.frames d.vars f xs ⟨sk,tg,n,kn,(y1,y2),false⟩).v.2)]),OB.row i'.1 22 1 (((ZI d.frames d.vars f xs ⟨sk,tg,n,kn,(y1,y2),false⟩).sk).map Zn),OB.row i'.2 22 1 (((ZI d.frames d.vars f xs ⟨sk,tg,n,kn,(y1,y2),false⟩).tg).map Zn)]):=by
 refine fEM Tryz.func43 fun S w0 R hS hJ0 hH=>?_
 refine Yq (B:=So J S w0 62 (OB.var b (mkM d f nm xs vs vt n kn y1 y2)::OB.row vs 22 1 (sk.map Zn)::OB.row vt 22 1 (tg.map Zn)::R) [(0,.at b 0)]) ?_ fun a w h=>h
 refine tsq (ZnA (c:=.lit (.pointer (some ⟨b,0,none⟩))) hJ rfl rfl rfl (lb rfl) (fun a w h=>(h.get 0 rfl)) fun b1=>?_)
 refine snK 1 tb rfl (seK [1] [_] rfl ?_)
 refine nx (Ze (ZG tb hJ [0,1003] [.at b 0,.at b 0,.at b 16,.bool kn] [0,1,2,3] U2 rfl ⟨fun _ _ _ hx hl _=>Zw Xo rfl (Zh hx (mo 0 rfl)) (hl.env 0 1 _ rfl rfl) rfl hx,fun _ _ _ hx hl _=>Zy rfl (hl.D 0 5 rfl rfl) hx,fun _ _ _ hx hl _=>Zr ZcF rfl (hl.D 1 6 rfl rfl) hx,fun _ _ _ hx hl _=>Zw Zmi rfl (Zh hx (mo 1 rfl)) (hl.D 2 7 rfl rfl) rfl hx,trivial⟩ ?_))
 refine cj 1 (fun hb1=>?_) fun hb1=>?_
 ·
  try simp at hb1
  have e9:(ZI d.frames d.vars f xs ⟨sk,tg,n,kn,(y1,y2),false⟩)=⟨sk,tg,n,kn,(y1,y2),false⟩:=ZcV hb1
  refine qso tb hJ [1000] [_] [_] ?_
  refine tw ZM (tw (ob0 (show OB.var b (mkM d f nm xs vs vt n kn y1 y2)=OB.var b (mkC d f [.lit nm,Qv xs,.lit vs,.lit vt,lI (((ZI d.frames d.vars f xs ⟨sk,tg,n,kn,(y1,y2),false⟩).n:Nat):Int),lB ((ZI d.frames d.vars f xs ⟨sk,tg,n,kn,(y1,y2),false⟩).kn),lI ((ZI d.frames d.vars f xs ⟨sk,tg,n,kn,(y1,y2),false⟩).v.1),lI ((ZI d.frames d.vars f xs ⟨sk,tg,n,kn,(y1,y2),false⟩).v.2)])from by first | (rw[e9];done) | (rw[e9];by_cases hq:n+1<xs.length<;>simp[ZbO,hq,e0]))) ?_)
  refine tw (ob1 (congrArg (fun z'=>OB.row vs 22 1 ((z').map Zn)) (show sk=((ZI d.frames d.vars f xs ⟨sk,tg,n,kn,(y1,y2),false⟩).sk)from by first | (rw[e9];done) | (rw[e9];exact e2.2) | (rw[e9];unfold ZbO;split<;>rfl)))) (tw (ob2 (congrArg (fun z'=>OB.row vt 22 1 ((z').map Zn)) (show tg=((ZI d.frames d.vars f xs ⟨sk,tg,n,kn,(y1,y2),false⟩).tg)from by first | (rw[e9];done) | (rw[e9];exact e2.2) | (rw[e9];unfold ZbO;split<;>rfl)))) ?_)
  exact ZA (fun a w h=>Yg  (m:=0) (vs,vt) rfl h rfl (eB (by first | (rw[e9];done) | (rw[e9];exact e2.2) | (rw[e9];unfold ZbO;split<;>rfl))))
 ·
  try simp at hb1
  have e0:kn=false:=by simpa using hb1
  have e1:=(hi e0).1
  have e3:=(hi e0).2
  refine Zb (nx (Ze (fun a w h=>YF (γ:=Nat) (fun ix'=>([.at b 0,.at b 0,.at b 12,.rd (Qv xs),.at b 0,.at b 0,.at b 15,.int (n:Nat),.ptr (itC (ge xs n)),.agg (itC (ge xs n)),.any,.any]:List AV).getD ix' .any) (fun _=>true) [(1,fun _=>.at b1 0),(3,fun g=>.at g 0)] (fun j' g=>match j' with | 0=>(OB.var b1 [.lit (.pointer (some ⟨b,0,none⟩))]::OB.var b (mkM d f nm xs vs vt n kn y1 y2)::OB.row vs 22 1 (sk.map Zn)::OB.row vt 22 1 (tg.map Zn)::R) | 1=>(OB.var g [lI 0,Zf ([]:List BA),lI 0,lB false]::OB.var b1 [.lit (.pointer (some ⟨b,0,none⟩))]::OB.var b (mkM d f nm xs vs vt n kn y1 y2)::OB.row vs 22 1 (sk.map Zn)::OB.row vt 22 1 (tg.map Zn)::R) | _=>(OB.var g [lI ((ge xs n).kind),Zf ((ge xs n).text),lI ((ge xs n).number),lB ((ge xs n).tagged)]::OB.var b1 [.lit (.pointer (some ⟨b,0,none⟩))]::OB.var b (mkM d f nm xs vs vt n kn y1 y2)::OB.row vs 22 1 (sk.map Zn)::OB.row vt 22 1 (tg.map Zn)::R)) (fun k' g=>match k' with | 0=>(.pointer (some ⟨g,0,none⟩)) | _=>undef) [10,11] 2 0 (fun _=>rfl) h hJ Yr rfl rfl rfl rfl rfl rfl hsb ⟨?_,?_,?_,?_,?_,?_,?_,?_,?_,?_,?_,?_,trivial⟩ ⟨?e3_1_0,?e3_1_1,trivial⟩ ⟨.old 0 1 _,.eff 0 10 3 (fun g=>(.pointer (some ⟨g,0,none⟩))) rfl rfl (fun _=>rfl) (fun _=>True.intro),trivial⟩ ?n3_1)))
  exact fun _ O' hO'=>⟨rfl,fun _ _ _ hx hl _=>Zw Xo rfl (Zh hx (hO' _ (mo 0 rfl))) (hl.env 0 1 _ rfl rfl) rfl hx⟩
  exact oX rfl fun hx hl=>Zy rfl (hl.D 0 9 rfl rfl) hx
  exact oX rfl fun hx hl=>Zr XN rfl (hl.D 1 10 rfl rfl) hx
  exact fun _ O' hO'=>⟨rfl,fun _ _ _ hx hl _=>Zw Zif rfl (Zh hx (hO' _ (mo 1 rfl))) (hl.D 2 11 rfl rfl) rfl hx⟩
  exact fun _ O' hO'=>⟨rfl,fun _ _ _ hx hl _=>Zw Xo rfl (Zh hx (hO' _ (mo 0 rfl))) (hl.env 0 1 _ rfl rfl) rfl hx⟩
  exact oX rfl fun hx hl=>Zy rfl (hl.D 4 13 rfl rfl) hx
  exact oX rfl fun hx hl=>Zr Y2 rfl (hl.D 5 14 rfl rfl) hx
  exact fun _ O' hO'=>⟨rfl,fun _ _ _ hx hl _=>Zw Zay rfl (Zh hx (hO' _ (mo 1 rfl))) (hl.D 6 15 rfl rfl) rfl hx⟩
  exact oX rfl fun hx hl=>ZQ (i:=(n:Int)) Zbl rfl (hl.D 3 12 rfl rfl) (hl.D 7 16 rfl rfl) nnn (Z0 (xs:=xs) (k:=n) sfz) rfl hx
  exact oX rfl fun hx hl=>ZaN Zaw rfl (hl.D 8 17 rfl rfl) nlr hx
  exact Zl rfl
  exact Zl rfl
  case e3_1_0=>exact⟨_,rfl,rfl,rfl,rfl,fun g _ w hk hx _ _=>Zx (ZaQ Zbe hJ rfl hk hx) fun v w' ⟨g',hv,hp⟩=>⟨g',rfl,fun k' hk'=>absurd hk' (Nat.not_lt_zero _),fun _=>hv,hp⟩⟩
  case e3_1_1=>exact⟨_,rfl,rfl,rfl,rfl,fun g _ w hk hx hl hs=>(by obtain⟨us2,hv2,hr3⟩:=Q3 (hl.D 9 18 rfl rfl);exact Zx (Xl (S':=S) (off:=0) (news:=U4) (es:=U4) (us:=us2) hJ hJ0 XU rfl hk hx (Zcs (hs 0 10 _ 3 oz rfl rfl rfl)) (by rw[hv2];rfl) hr3 (lb rfl) rfl) fun v w' hp=>⟨g,rfl,fun _ _=>rfl,fun e=>(by cases e),hp⟩)⟩
  clear a w h
  intro b2
  dsimp only[List.map]
  refine nx (Ze (tsq (sy (.lit (.func (.func 63) #[] #[.pointer (some ⟨b2,0,none⟩),.pointer (some ⟨b1,0,none⟩)])) (fun h=>ZhR (caps:=[(.tmp 3),(.tmp 1)]) rfl (map_cons (h.get 1 rfl).lit (map_cons (h.get 0 rfl).lit map_nil)) h.x) ?_)))
  refine Xv (O:=[OB.var b2 [lI ((ge xs n).kind),Zf ((ge xs n).text),lI ((ge xs n).number),lB ((ge xs n).tagged)],OB.var b1 [.lit (.pointer (some ⟨b,0,none⟩))],OB.var b (mkM d f nm xs vs vt n kn y1 y2),OB.row vs 22 1 (sk.map Zn),OB.row vt 22 1 (tg.map Zn)]) (R:=(R)) (Zvi hJ b2 b1 b d f nm xs vs vt n kn y1 y2 sk tg (ge xs n) (by exact hsk) sfz (by exact hfr) (by exact hwd) (by exact e3)) ZpX rfl rfl rfl (lb rfl) hS hJ0 Zv (fun a w h=>(Za (h.get 0 rfl) Zg)) fun z3=>?_
  refine snK 1 tb rfl (seK [0,3,4] U3 rfl ?_)
  refine nx (qso tb hJ [0,1,2,1001] U2 U4 ?_)
  refine cj 3 (fun hb2=>?_) fun hb2=>?_
  ·
   try simp at hb2
   have e2:=gi_err z3 hb2
   have e9:(ZI d.frames d.vars f xs ⟨sk,tg,n,kn,(y1,y2),false⟩)=⟨sk,tg,n,true,(z3.1.1,(n:Int)),false⟩:=ZbB e0 e2.1
   refine Ze (tw pm2 (fun a w h=>YF (γ:=Unit) (fun ix'=>([.at b 0,.int z3.1.1,.at b 0,.at b 0,.at b 15,.int (n:Nat),.any]:List AV).getD ix' .any) (fun _=>true) [] (fun j' _=>match j' with | 0=>(OB.var b (mkM d f nm xs z3.1.2.1 vt n kn y1 y2)::OB.var b2 [lI ((ge xs n).kind),Zf ((ge xs n).text),lI ((ge xs n).number),lB ((ge xs n).tagged)]::OB.var b1 [.lit (.pointer (some ⟨b,0,none⟩))]::OB.row z3.1.2.1 22 1 (z3.1.2.2.map Zn)::OB.row vt 22 1 (tg.map Zn)::R) | _=>(OB.var b (mkC d f [.lit nm,Qv xs,.lit z3.1.2.1,.lit vt,lI (n:Int),lB true,lI z3.1.1,lI (n:Int)])::OB.var b2 [lI ((ge xs n).kind),Zf ((ge xs n).text),lI ((ge xs n).number),lB ((ge xs n).tagged)]::OB.var b1 [.lit (.pointer (some ⟨b,0,none⟩))]::OB.row z3.1.2.1 22 1 (z3.1.2.2.map Zn)::OB.row vt 22 1 (tg.map Zn)::R)) (fun k' _=>match k' with | 0=>(.tuple #[]) | _=>undef) [6] 0 () (fun _=>rfl) h hJ Yr rfl rfl rfl rfl rfl rfl hsb ⟨?_,?_,?_,?_,?_,?_,?_,trivial⟩ ⟨?e6_2_0,trivial⟩ trivial ?n6_2))
   exact fun _ O' hO'=>⟨rfl,fun _ _ _ hx hl _=>Zw Xo rfl (Zh hx (hO' _ (mo 2 rfl))) (hl.env 1 1 _ rfl rfl) rfl hx⟩
   exact oX rfl fun hx hl=>Z2 rfl (hl.env 0 4 _ rfl rfl) hx
   exact fun _ O' hO'=>⟨rfl,fun _ _ _ hx hl _=>Zw Xo rfl (Zh hx (hO' _ (mo 2 rfl))) (hl.env 1 1 _ rfl rfl) rfl hx⟩
   exact oX rfl fun hx hl=>Zy rfl (hl.D 2 25 rfl rfl) hx
   exact oX rfl fun hx hl=>Zr Y2 rfl (hl.D 3 26 rfl rfl) hx
   exact fun _ O' hO'=>⟨rfl,fun _ _ _ hx hl _=>Zw Zay rfl (Zh hx (hO' _ (mo 0 rfl))) (hl.D 4 27 rfl rfl) rfl hx⟩
   exact Zl rfl
   case e6_2_0=>exact⟨_,rfl,rfl,rfl,rfl,fun g _ w hk hx hl _=>Zx (d_fn (O:=[OB.var b (mkM d f nm xs z3.1.2.1 vt n kn y1 y2)]) (R:=(OB.var b2 [lI ((ge xs n).kind),Zf ((ge xs n).text),lI ((ge xs n).number),lB ((ge xs n).tagged)]::OB.var b1 [.lit (.pointer (some ⟨b,0,none⟩))]::OB.row z3.1.2.1 22 1 (z3.1.2.2.map Zn)::OB.row vt 22 1 (tg.map Zn)::R)) (ZhZ hJ b d f nm xs n z3.1.2.1 vt kn y1 y2 z3.1.1 (n:Int)) Zfs rfl hS hJ0 Zv hk hx (Za (hl.D 0 23 rfl rfl) (Za (hl.D 1 24 rfl rfl) (Za (hl.D 5 28 rfl rfl) Zg)))) fun v w' ⟨i,hp,hv⟩=>⟨g,rfl,fun _ _=>rfl,fun _=>ZgO hv,hp⟩⟩
   clear a w h
   intro _
   dsimp only[List.map]
   refine nx (qso tb hJ [1000] [_] [_] ?_)
   refine tw pm1 (tw ZM ?_)
   refine tw pm1 (tw ZM ?_)
   refine tw (ob0 (show OB.var b (mkC d f [.lit nm,Qv xs,.lit z3.1.2.1,.lit vt,lI (n:Int),lB true,lI z3.1.1,lI (n:Int)])=OB.var b (mkC d f [.lit nm,Qv xs,.lit z3.1.2.1,.lit vt,lI (((ZI d.frames d.vars f xs ⟨sk,tg,n,kn,(y1,y2),false⟩).n:Nat):Int),lB ((ZI d.frames d.vars f xs ⟨sk,tg,n,kn,(y1,y2),false⟩).kn),lI ((ZI d.frames d.vars f xs ⟨sk,tg,n,kn,(y1,y2),false⟩).v.1),lI ((ZI d.frames d.vars f xs ⟨sk,tg,n,kn,(y1,y2),false⟩).v.2)])from by first | (rw[e9];done) | (rw[e9];by_cases hq:n+1<xs.length<;>simp[ZbO,hq,e0]))) (tw (ob1 (congrArg (fun z'=>OB.row z3.1.2.1 22 1 ((z').map Zn)) (show z3.1.2.2=((ZI d.frames d.vars f xs ⟨sk,tg,n,kn,(y1,y2),false⟩).sk)from by first | (rw[e9];done) | (rw[e9];exact e2.2) | (rw[e9];unfold ZbO;split<;>rfl)))) ?_)
   exact tw (ob2 (congrArg (fun z'=>OB.row vt 22 1 ((z').map Zn)) (show tg=((ZI d.frames d.vars f xs ⟨sk,tg,n,kn,(y1,y2),false⟩).tg)from by first | (rw[e9];done) | (rw[e9];exact e2.2) | (rw[e9];unfold ZbO;split<;>rfl)))) (ZA (fun a w h=>Yg  (m:=0) (z3.1.2.1,vt) rfl h rfl (eB (by first | (rw[e9];done) | (rw[e9];exact e2.2) | (rw[e9];unfold ZbO;split<;>rfl)))))
  ·
   try simp at hb2
   have e2:=gi_ok z3 hb2
   have e4:=Zio e2
   refine Zb (nx (Ze (ZG tb hJ [1,1001] [.at b2 3,.bool ((ge xs n).tagged)] [0,1] U2 rfl ⟨fun _ _ _ hx hl _=>Zr ZcH rfl (hl.env 2 3 _ rfl rfl) hx,fun _ _ _ hx hl _=>Zw Zmi rfl (Zh hx (mo 0 rfl)) (hl.D 0 30 rfl rfl) rfl hx,trivial⟩ ?_)))
   refine cj 1 (fun hb3=>?_) fun hb3=>?_
   ·
    try simp at hb3
    have e9:(ZI d.frames d.vars f xs ⟨sk,tg,n,kn,(y1,y2),false⟩)=ZbO f xs.length ⟨z3.1.2.2,tg++[ge z3.1.2.2 ((z3.1.2.2.length:Int)-1).toNat],n+1,kn,(y1,y2),true⟩:=by rw[ZbX e0 e2,if_pos hb3]
    refine tw pm2 (tw pm4 ?_)
    refine fun a w h=>X5 (OB.var b (mkM d f nm xs z3.1.2.1 vt n kn y1 y2)::OB.var b2 [lI ((ge xs n).kind),Zf ((ge xs n).text),lI ((ge xs n).number),lB ((ge xs n).tagged)]::OB.var b1 [.lit (.pointer (some ⟨b,0,none⟩))]::OB.row z3.1.2.1 22 1 (z3.1.2.2.map Zn)::R) (γ:=Value) (fun ix'=>([.at b 0,.at b 0,.at b 0,.at b 14,.lit vt,.at b 0,.at b 0,.at b 13,.lit z3.1.2.1,.at b 0,.at b 0,.at b 13,.lit z3.1.2.1,.int (z3.1.2.2.length:Nat),.int ((z3.1.2.2.length:Int)-(1:Int)),.lit (Y8 z3.1.2.1 ((((z3.1.2.2.length:Int)-(1:Int)).toNat)*1)),.rd (Zf (ge z3.1.2.2 (((z3.1.2.2.length:Int)-(1:Int)).toNat))),.rd (Ye ([(ge z3.1.2.2 (((z3.1.2.2.length:Int)-(1:Int)).toNat))])),.any,.at b 0,.at b 14,.any]:List AV).getD ix' .any) (fun _=>true) [(1,fun _=>.at b1 0)] (fun j' g=>match j' with | 0=>(OB.row vt 22 1 (tg.map Zn)::OB.var b (mkM d f nm xs z3.1.2.1 vt n kn y1 y2)::OB.var b2 [lI ((ge xs n).kind),Zf ((ge xs n).text),lI ((ge xs n).number),lB ((ge xs n).tagged)]::OB.var b1 [.lit (.pointer (some ⟨b,0,none⟩))]::OB.row z3.1.2.1 22 1 (z3.1.2.2.map Zn)::R) | 1=>(OB.row g 22 1 ((tg++([(ge z3.1.2.2 (((z3.1.2.2.length:Int)-(1:Int)).toNat))])).map Zn)::OB.var b (mkM d f nm xs z3.1.2.1 vt n kn y1 y2)::OB.var b2 [lI ((ge xs n).kind),Zf ((ge xs n).text),lI ((ge xs n).number),lB ((ge xs n).tagged)]::OB.var b1 [.lit (.pointer (some ⟨b,0,none⟩))]::OB.row z3.1.2.1 22 1 (z3.1.2.2.map Zn)::R) | _=>(OB.row g 22 1 ((tg++([(ge z3.1.2.2 (((z3.1.2.2.length:Int)-(1:Int)).toNat))])).map Zn)::OB.var b (mkM d f nm xs z3.1.2.1 g n kn y1 y2)::OB.var b2 [lI ((ge xs n).kind),Zf ((ge xs n).text),lI ((ge xs n).number),lB ((ge xs n).tagged)]::OB.var b1 [.lit (.pointer (some ⟨b,0,none⟩))]::OB.row z3.1.2.1 22 1 (z3.1.2.2.map Zn)::R)) (fun k' g=>match k' with | 0=>g | _=>undef) [18,21] 1 (.slice none 0 0) (fun _=>rfl) h hJ Yr rfl rfl rfl rfl rfl rfl hsb ⟨?_,?_,?_,?_,?_,?_,?_,?_,?_,?_,?_,?_,?_,?_,?_,?_,?_,?_,?_,?_,?_,?_,trivial⟩ ⟨?e9_3_0,?e9_3_1,trivial⟩ ⟨.old 0 1 _,trivial⟩ ?n9_3
    exact fun _ O' hO'=>⟨rfl,fun _ _ _ hx hl _=>Zw Xo rfl (Zh hx (hO' _ (mo 2 rfl))) (hl.env 0 1 _ rfl rfl) rfl hx⟩
    exact fun _ O' hO'=>⟨rfl,fun _ _ _ hx hl _=>Zw Xo rfl (Zh hx (hO' _ (mo 2 rfl))) (hl.env 0 1 _ rfl rfl) rfl hx⟩
    exact oX rfl fun hx hl=>Zy rfl (hl.D 1 33 rfl rfl) hx
    exact oX rfl fun hx hl=>Zr ZcG rfl (hl.D 2 34 rfl rfl) hx
    exact fun _ O' hO'=>⟨rfl,fun _ _ _ hx hl _=>Zw Zaj rfl (Zh hx (hO' _ (mo 0 rfl))) (hl.D 3 35 rfl rfl) rfl hx⟩
    exact fun _ O' hO'=>⟨rfl,fun _ _ _ hx hl _=>Zw Xo rfl (Zh hx (hO' _ (mo 2 rfl))) (hl.env 0 1 _ rfl rfl) rfl hx⟩
    exact oX rfl fun hx hl=>Zy rfl (hl.D 5 37 rfl rfl) hx
    exact oX rfl fun hx hl=>Zr YL rfl (hl.D 6 38 rfl rfl) hx
    exact fun _ O' hO'=>⟨rfl,fun _ _ _ hx hl _=>Zw Zaj rfl (Zh hx (hO' _ (mo 0 rfl))) (hl.D 7 39 rfl rfl) rfl hx⟩
    exact fun _ O' hO'=>⟨rfl,fun _ _ _ hx hl _=>Zw Xo rfl (Zh hx (hO' _ (mo 2 rfl))) (hl.env 0 1 _ rfl rfl) rfl hx⟩
    exact oX rfl fun hx hl=>Zy rfl (hl.D 9 41 rfl rfl) hx
    exact oX rfl fun hx hl=>Zr YL rfl (hl.D 10 42 rfl rfl) hx
    exact fun _ O' hO'=>⟨rfl,fun _ _ _ hx hl _=>Zw Zaj rfl (Zh hx (hO' _ (mo 0 rfl))) (hl.D 11 43 rfl rfl) rfl hx⟩
    exact fun _ O' hO'=>⟨rfl,fun _ _ _ hx hl _=>Zb2 (by rw[List.length_map]) Y9 rfl (Zh hx (hO' _ (mo 3 rfl))) (hl.D 12 44 rfl rfl) hx⟩
    exact oX rfl fun hx hl=>Zcn (i:=(z3.1.2.2.length:Int)) (j:=(1:Int)) rfl (hl.D 13 45 rfl rfl) (Rel.of_lit (.int .i64 1)) sfz sfz hx
    exact fun _ O' hO'=>⟨rfl,fun _ _ _ hx hl _=>YP (i:=(z3.1.2.2.length:Int)-(1:Int)) ZF rfl (Zh hx (hO' _ (mo 3 rfl))) (hl.D 8 40 rfl rfl) (hl.D 14 46 rfl rfl) sfz (by rw[List.length_map];exact sfz) hx⟩
    exact fun _ O' hO'=>⟨rfl,fun _ _ _ hx hl _=>XV (i:=((z3.1.2.2.length:Int)-(1:Int)).toNat) Xg rfl (Zh hx (hO' _ (mo 3 rfl))) (hl.D 15 47 rfl rfl) (Qq (xs:=z3.1.2.2) (k:=((z3.1.2.2.length:Int)-(1:Int)).toNat) sfz) hx⟩
    exact oY rfl fun hk hx hl=>YC ZF ZaL rfl (hl.D 16 48 rfl rfl) (Zq hS _ hk hx _ nlr) (jo hJ hx)
    exact Zl rfl
    exact oX rfl fun hx hl=>Zy rfl (hl.D 0 32 rfl rfl) hx
    exact oX rfl fun hx hl=>Zr ZcG rfl (hl.D 19 51 rfl rfl) hx
    exact Zl rfl
    case e9_3_0=>exact⟨_,rfl,rfl,rfl,rfl,fun _ _ w hk hx hl _=>Zx (Qw (f:=Zn) tg ([(ge z3.1.2.2 (((z3.1.2.2.length:Int)-(1:Int)).toNat))]) (fun _=>rfl) Qy hJ hJ0 rfl hk hx (hl.D 4 36 rfl rfl).lit (hl.D 17 49 rfl rfl) sfz sfz) fun v w' hp=>⟨v,rfl,fun k' hk'=>absurd hk' (Nat.not_lt_zero _),fun _=>rfl,hp⟩⟩
    case e9_3_1=>exact⟨_,rfl,rfl,rfl,rfl,fun g _ w hk hx hl hs=>Zx (Zhd (off:=14) (cs:=(mkM d f nm xs z3.1.2.1 vt n kn y1 y2)) (es:=(mkM d f nm xs z3.1.2.1 g n kn y1 y2)) (c:=.lit g) hJ hJ0 ZbD rfl hk hx (hl.D 20 52 rfl rfl) (by rw[(hs 0 18 _ 50 oz rfl rfl rfl)];exact Rel.of_lit _ (Zah (hx.2.1 _ (mo 0 rfl)))) (lb rfl) rfl) fun v w' hp=>⟨g,rfl,fun _ _=>rfl,fun e=>(by cases e),hp⟩⟩
    clear a w h
    intro v4
    dsimp only[List.map]
    refine nx (tsq (sy (.at b 0) (fun h=>Zw Xo rfl (Zh h.x (mo 3 rfl)) (h.get 0 rfl) rfl h.x) ?_))
    refine sy (.at b 0) (fun h=>Zy rfl (h.get 0 rfl) h.x) ?_
    refine sy (.at b 15) (fun h=>Zr Y2 rfl (h.get 0 rfl) h.x) ?_
    refine sy (.int (n:Nat)) (fun h=>Zw Zay rfl (Zh h.x (mo 1 rfl)) (h.get 0 rfl) rfl h.x) ?_
    refine sy (.int (n+1:Nat)) (fun h=>ZeR (i:=(n:Int)) (j:=(1:Int)) rfl (h.get 0 rfl) (Rel.of_lit (.int .i64 1)) sfz sfz h.x) ?_
    refine sy (.at b 0) (fun h=>Zy rfl (h.get 4 rfl) h.x) ?_
    refine sy (.at b 15) (fun h=>Zr Y2 rfl (h.get 0 rfl) h.x) ?_
    refine kw pm1 (Z5 (b:=b) (off:=15) (cs:=(mkM d f nm xs z3.1.2.1 v4 n kn y1 y2)) (es:=(mkC d f [.lit nm,Qv xs,.lit z3.1.2.1,.lit v4,lI ((n+1:Nat):Int),lB kn,lI y1,lI y2])) hJ hJ0 ZbY rfl rfl rfl (lb rfl) rfl (fun a w h=>⟨(h.get 0 rfl),(h.get 2 rfl)⟩) ?_)
    refine seK [7] [_] rfl (nx (tsq ?_))
    refine sy (.at b 0) (fun h=>Zw Xo rfl (Zh h.x (mo 3 rfl)) (h.get 0 rfl) rfl h.x) ?_
    refine kw pm3 (kw pm3 ?_)
    refine kw pm3 (kw pm4 ?_)
    refine kw pm4 (Xv (O:=[OB.var b (mkC d f [.lit nm,Qv xs,.lit z3.1.2.1,.lit v4,lI ((n+1:Nat):Int),lB kn,lI y1,lI y2]),OB.row z3.1.2.1 22 1 (z3.1.2.2.map Zn)]) (R:=(OB.row v4 22 1 ((tg++([(ge z3.1.2.2 (((z3.1.2.2.length:Int)-(1:Int)).toNat))])).map Zn)::OB.var b2 [lI ((ge xs n).kind),Zf ((ge xs n).text),lI ((ge xs n).number),lB ((ge xs n).tagged)]::OB.var b1 [.lit (.pointer (some ⟨b,0,none⟩))]::R)) (Zvl hJ b d f nm xs z3.1.2.1 v4 (n+1) kn y1 y2 z3.1.2.2) ZjT rfl rfl rfl (lb rfl) hS hJ0 Zv (fun a w h=>(Za (h.get 0 rfl) Zg)) fun _=>?_)
    refine seK [] [] rfl (nx (qso tb hJ [1000] [_] [_] ?_))
    refine tw pm3 (tw ZM ?_)
    refine tw pm3 (tw ZM ?_)
    refine tw (ob0 (show OB.var b (mkC d f [.lit nm,Qv xs,.lit z3.1.2.1,.lit v4,lI (((n+1):Nat):Int),lB (kn|| !decide ((n+1)<xs.length)),lI (if(n+1)<xs.length then y1 else(Zde f z3.1.2.2 (n+1)).1),lI (if(n+1)<xs.length then y2 else(Zde f z3.1.2.2 (n+1)).2)])=OB.var b (mkC d f [.lit nm,Qv xs,.lit z3.1.2.1,.lit v4,lI (((ZI d.frames d.vars f xs ⟨sk,tg,n,kn,(y1,y2),false⟩).n:Nat):Int),lB ((ZI d.frames d.vars f xs ⟨sk,tg,n,kn,(y1,y2),false⟩).kn),lI ((ZI d.frames d.vars f xs ⟨sk,tg,n,kn,(y1,y2),false⟩).v.1),lI ((ZI d.frames d.vars f xs ⟨sk,tg,n,kn,(y1,y2),false⟩).v.2)])from by first | (rw[e9];done) | (rw[e9];by_cases hq:n+1<xs.length<;>simp[ZbO,hq,e0]))) (tw (ob1 (congrArg (fun z'=>OB.row z3.1.2.1 22 1 ((z').map Zn)) (show z3.1.2.2=((ZI d.frames d.vars f xs ⟨sk,tg,n,kn,(y1,y2),false⟩).sk)from by first | (rw[e9];done) | (rw[e9];exact e2.2) | (rw[e9];unfold ZbO;split<;>rfl)))) ?_)
    exact tw (ob2 (congrArg (fun z'=>OB.row v4 22 1 ((z').map Zn)) (show(tg++([(ge z3.1.2.2 (((z3.1.2.2.length:Int)-(1:Int)).toNat))]))=((ZI d.frames d.vars f xs ⟨sk,tg,n,kn,(y1,y2),false⟩).tg)from by first | (rw[e9];done) | (rw[e9];exact e2.2) | (rw[e9];unfold ZbO;split<;>rfl)))) (ZA (fun a w h=>Yg  (m:=0) (z3.1.2.1,v4) rfl h rfl (eB (by first | (rw[e9];done) | (rw[e9];exact e2.2) | (rw[e9];unfold ZbO;split<;>rfl)))))
   ·
    try simp at hb3
    have e9:(ZI d.frames d.vars f xs ⟨sk,tg,n,kn,(y1,y2),false⟩)=ZbO f xs.length ⟨z3.1.2.2,tg,n+1,kn,(y1,y2),true⟩:=by rw[ZbX e0 e2,if_neg (by simp[hb3])]
    refine Zb (nx (tsq (sy (.at b 0) (fun h=>Zw Xo rfl (Zh h.x (mo 1 rfl)) (h.get 0 rfl) rfl h.x) ?_)))
    refine sy (.at b 0) (fun h=>Zy rfl (h.get 0 rfl) h.x) ?_
    refine sy (.at b 15) (fun h=>Zr Y2 rfl (h.get 0 rfl) h.x) ?_
    refine sy (.int (n:Nat)) (fun h=>Zw Zay rfl (Zh h.x (mo 2 rfl)) (h.get 0 rfl) rfl h.x) ?_
    refine sy (.int (n+1:Nat)) (fun h=>ZeR (i:=(n:Int)) (j:=(1:Int)) rfl (h.get 0 rfl) (Rel.of_lit (.int .i64 1)) sfz sfz h.x) ?_
    refine sy (.at b 0) (fun h=>Zy rfl (h.get 4 rfl) h.x) ?_
    refine sy (.at b 15) (fun h=>Zr Y2 rfl (h.get 0 rfl) h.x) ?_
    refine kw pm2 (Z5 (b:=b) (off:=15) (cs:=(mkM d f nm xs z3.1.2.1 vt n kn y1 y2)) (es:=(mkC d f [.lit nm,Qv xs,.lit z3.1.2.1,.lit vt,lI ((n+1:Nat):Int),lB kn,lI y1,lI y2])) hJ hJ0 ZbY rfl rfl rfl (lb rfl) rfl (fun a w h=>⟨(h.get 0 rfl),(h.get 2 rfl)⟩) ?_)
    refine seK [7] [_] rfl (nx (tsq ?_))
    refine sy (.at b 0) (fun h=>Zw Xo rfl (Zh h.x (mo 2 rfl)) (h.get 0 rfl) rfl h.x) ?_
    refine kw pm4 (kw pm3 ?_)
    refine kw pm3 (kw pm4 ?_)
    refine kw pm4 (Xv (O:=[OB.var b (mkC d f [.lit nm,Qv xs,.lit z3.1.2.1,.lit vt,lI ((n+1:Nat):Int),lB kn,lI y1,lI y2]),OB.row z3.1.2.1 22 1 (z3.1.2.2.map Zn)]) (R:=(OB.var b2 [lI ((ge xs n).kind),Zf ((ge xs n).text),lI ((ge xs n).number),lB ((ge xs n).tagged)]::OB.var b1 [.lit (.pointer (some ⟨b,0,none⟩))]::OB.row vt 22 1 (tg.map Zn)::R)) (Zvl hJ b d f nm xs z3.1.2.1 vt (n+1) kn y1 y2 z3.1.2.2) ZjT rfl rfl rfl (lb rfl) hS hJ0 Zv (fun a w h=>(Za (h.get 0 rfl) Zg)) fun _=>?_)
    refine seK [] [] rfl (nx (qso tb hJ [1000] [_] [_] ?_))
    refine tw pm2 (tw ZM ?_)
    refine tw pm2 (tw ZM ?_)
    refine tw (ob0 (show OB.var b (mkC d f [.lit nm,Qv xs,.lit z3.1.2.1,.lit vt,lI (((n+1):Nat):Int),lB (kn|| !decide ((n+1)<xs.length)),lI (if(n+1)<xs.length then y1 else(Zde f z3.1.2.2 (n+1)).1),lI (if(n+1)<xs.length then y2 else(Zde f z3.1.2.2 (n+1)).2)])=OB.var b (mkC d f [.lit nm,Qv xs,.lit z3.1.2.1,.lit vt,lI (((ZI d.frames d.vars f xs ⟨sk,tg,n,kn,(y1,y2),false⟩).n:Nat):Int),lB ((ZI d.frames d.vars f xs ⟨sk,tg,n,kn,(y1,y2),false⟩).kn),lI ((ZI d.frames d.vars f xs ⟨sk,tg,n,kn,(y1,y2),false⟩).v.1),lI ((ZI d.frames d.vars f xs ⟨sk,tg,n,kn,(y1,y2),false⟩).v.2)])from by first | (rw[e9];done) | (rw[e9];by_cases hq:n+1<xs.length<;>simp[ZbO,hq,e0]))) (tw (ob1 (congrArg (fun z'=>OB.row z3.1.2.1 22 1 ((z').map Zn)) (show z3.1.2.2=((ZI d.frames d.vars f xs ⟨sk,tg,n,kn,(y1,y2),false⟩).sk)from by first | (rw[e9];done) | (rw[e9];exact e2.2) | (rw[e9];unfold ZbO;split<;>rfl)))) ?_)
    exact tw (ob2 (congrArg (fun z'=>OB.row vt 22 1 ((z').map Zn)) (show tg=((ZI d.frames d.vars f xs ⟨sk,tg,n,kn,(y1,y2),false⟩).tg)from by first | (rw[e9];done) | (rw[e9];exact e2.2) | (rw[e9];unfold ZbO;split<;>rfl)))) (ZA (fun a w h=>Yg  (m:=0) (z3.1.2.1,vt) rfl h rfl (eB (by first | (rw[e9];done) | (rw[e9];exact e2.2) | (rw[e9];unfold ZbO;split<;>rfl)))))
theorem ZiR:ZbU Tryz.prog 204 2:=⟨#[.slice none 0 0,.slice none 0 0],rfl,fun i=>some (i*1,1),fun j _=>(show some (j*1,1)=some (j,1) by rw[Nat.mul_one]),fun parts=>by kernel_rfl⟩
theorem ZiP:Zcy Tryz.prog 61 [.string ⟨#[]⟩,.bool false,.slice none 0 0]:=⟨fun i=>(#[(0,1),(1,1),(2,1)]:Array (Nat×Nat))[i]?,fun j hj=>by rcases j with _ | _ | _ | j<;>first | rfl | (simp at hj;omega),fun parts=>by kernel_rfl⟩
theorem Zu7 {J:WP} (hJ:Stab J) (l:List BA)  :Fn Tryz.prog J 109 [.rd (Zf l)] (.bool (QD l)):=by
 refine fE Tryz.func109 fun S w0 hS hJ0=>?_
 refine tw ZR (ln 0 fun hl1=>?_)
 refine qso tb hJ [0] [_] [_] ?_
 refine tsq (ZbC keyS hJ rfl rfl rfl (lb rfl) fun m1=>?_)
 refine snK 1 tb rfl (seK [0,2] U2 rfl ?_)
 refine nx (Ze (ZG tb hJ [0,1000,1001,1002] [_,.int (l.length:Nat),_] [1] U4 rfl ⟨Z3 Zm,trivial⟩ ?_))
 refine Zc (lpo (ι:=Nat×(List BA)) (fun(k,ys)=>(k≤l.length)∧(ys=QC (l.take k))∧(∀ j,j<k→¬ ge l j∈l.take j)) (fun(_,ys)=>[OB.set keyS m1 ys]) (fun(k,_)=>[(9,.int (k:Nat))]) (fun(k,_)=>l.length-k) [0,1,2,3] U3 (0,([]:List BA)) ⟨nzl,rfl,fun j hj=>by omega⟩ ?_)
 rintro⟨k,ys⟩ ⟨f1_1,f1_2,f1_3⟩
 refine qso tb hJ [0,1,2,3,1000] [_] U5 ?_
 refine cjS 4 (fun hb1=>?_) fun hb1=>?_
 ·
  try simp at hb1
  refine Zb (nx (Ze (Zc (ZG tb hJ [0,1,2,3,1002] [.ptr [lS (ge l k)],_,_] [0] U5 rfl ⟨iIx Zd,trivial⟩ ?_))))
  refine Ze (ZG tb hJ (r5 [1002]) [_,_,.bool (decide ((ge l k)∈ys))] [2] U6 rfl ⟨fun _ _ _ hx hl _=>YG (Kd:=keyS) (xs:=ys) QJ Yk (ge l k) rfl (Zh hx (mo 0 rfl)) (hl.D 0 13 rfl rfl) (hl.D 1 14 rfl rfl) hx,trivial⟩ ?_)
  refine cj 5 (fun hb2=>?_) fun hb2=>?_
  ·
   try simp at hb2
   refine qso tb hJ [1000] [_] [_] ?_
   exact tRo 0 (hE:=eB (by rw[ZeE oz (by rw[f1_2]at hb2;simpa [mem_lstL]using hb2)]))
  ·
   try simp at hb2
   refine Zb (nx (ZE (snK 2 tb rfl (ZcA QJ hJ hJ0 (ge l k) rfl rfl (.inl rfl) (fun a w h=>⟨(h.get 1 rfl),(h.get 0 rfl),(Rel.of_lit (.bool true))⟩) ?_))))
   refine seK [2,3,4,5] U4 rfl (nx (Yo tb hJ [0,1,2,1001] [.int (k+1:Nat),_] [0] U4 rfl ⟨Z7,trivial⟩ ?_))
   exact YE (k+1,QS ys (ge l k)) [0,1,2,3] ⟨oz,by rw[Zik oz,←f1_2],ZK f1_3 (by rw[f1_2]at hb2;simpa [mem_lstL]using hb2)⟩
 ·
  try simp at hb1
  refine Zs (nx (qso tb hJ [1000] [_] [_] ?_))
  exact tRo 0 (hE:=eB (by rw[ZgE fun j hj=>f1_3 j oz]))
theorem p_Hyp {J:WP} (hJ:Stab J) (f:Fr) (s:BA) (ht:∀ h∈f.hyps++f.dummies,h.text.length≤2000):Fn Tryz.prog J 140 [.agg (frC f),.str s] (.tup [.agg (hyC ((QF f s).getD default)),.bool ((QF f s).isSome)]):=by
 refine fE Tryz.func140 fun S w0 hS hJ0=>?_
 refine tw ZR (tsq ?_)
 refine sy (.ptr (frC f)) (fun h=>ZdD rfl (h.get 0 rfl) (Zq hS _ h.keep h.x _ nlr) (jo hJ h.x)) ?_
 refine ZT YI hJ rfl rfl rfl (lb rfl) fun b1=>?_
 refine snK 1 tb rfl (seK [1,2,4] U3 rfl ?_)
 refine nx (Ze (ZG tb hJ [0,2,1001,1003,1004,1005] (V4 [.agg [Y1 f.hyps,Y1 f.dummies],_]) [4] U6 rfl ⟨fun a _ _ hx hl _=>Xe (us:=[a.eval (.tmp 11),a.eval (.tmp 13)]) ZiR rfl yz (Zi (hl.D 1 11 rfl rfl) (Zi (hl.D 3 13 rfl rfl) ZJ)) rfl hx,trivial⟩ ?_))
 refine ln 2 fun hl1=>?_
 refine ln 3 fun hl2=>?_
 refine Zc (lpo (ι:=Nat) (fun k=>(k≤2)∧(∀ i,i<k→∀ h∈Zdx f.hyps f.dummies i,¬ h.label=s)) (fun _=>[OB.var b1 [lS (⟨#[]⟩:BA),lB false,Zf ([]:List BA)]]) (fun k=>[(15,.int (k:Nat))]) (fun k=>2-k) [0,1,4,5] U3 0 ⟨nzl,fun i hi=>by omega⟩ ?_)
 rintro k ⟨f1_1,f1_2⟩
 refine qso tb hJ [0,1,2,3,1000] [_] U5 ?_
 refine cjS 4 (fun hb1=>?_) fun hb1=>?_
 ·
  try simp at hb1
  refine Zb (nx (Ze (Zc (ZG tb hJ [0,1,2,3,1000,1001] [.rd (Y1 (Zdx f.hyps f.dummies k)),_] [0] U6 rfl ⟨fun _ _ _ hx hl _=>ZkC (c:=Y1 (Zdx f.hyps f.dummies k)) ZgD Zcu ZeK rfl (hl.env 2 14 _ rfl rfl) (hl.env 3 15 _ rfl rfl) nnn rfl (two_at sfz) hx,trivial⟩ ?_))))
  refine ln 4 fun hl3=>?_
  refine ZG tb hJ [0,1,2,3,1000,1001,1002] [_,.int ((Zdx f.hyps f.dummies k).length:Nat),_] [1] U7 rfl ⟨Z3 Zz,trivial⟩ ?_
  refine Zc (lpo (ι:=Nat) (fun j=>(j≤(Zdx f.hyps f.dummies k).length)∧(∀ i,i<j→¬ (ge (Zdx f.hyps f.dummies k) i).label=s)) (fun _=>[OB.var b1 [lS (⟨#[]⟩:BA),lB false,Zf ([]:List BA)]]) (fun j=>[(20,.int (j:Nat))]) (fun j=>(Zdx f.hyps f.dummies k).length-j) (r7 []) U6 0 ⟨nzl,fun i hi=>by omega⟩ ?_)
  rintro j ⟨f2_1,f2_2⟩
  refine qso tb hJ (r7 [1000]) [_] U8 ?_
  refine cjS 7 (fun hb2=>?_) fun hb2=>?_
  ·
   try simp at hb2
   refine Zb (nx (Ze (Zc (tsq (sy (.ptr (hyC (ge (Zdx f.hyps f.dummies k) j))) (fun h=>ZQ (i:=(j:Int)) Zo rfl (h.get 4 rfl) (h.get 6 rfl) nnn (Z0 (xs:=(Zdx f.hyps f.dummies k)) (k:=j) sfz) rfl h.x) ?_)))))
   refine snK 1 tb rfl (XZ (cs:=hyC (ge (Zdx f.hyps f.dummies k) j)) ZbW rfl rfl rfl (lb rfl) rfl rfl rfl dz (m:=0) rfl rfl (fun a w h=>Zq hS _ h.keep h.x _ nlr) (fun a w h w' hk'=>YA hJ _ _ hk' h.x) ?_)
   refine seK [0,3,4,5,6,7,8,9] U8 rfl (nx (qso tb hJ (r8 [1003]) U4 U9 ?_))
   refine cj 8 (fun hb3=>?_) fun hb3=>?_
   ·
    try simp at hb3
    have e3:=Ze9 oz f1_2 hb2 f2_2 hb3
    refine tsq (snK 1 tb rfl (sy (.agg (hyC (ge (Zdx f.hyps f.dummies k) j))) (fun h=>ZaY (ZkK hJ (ge (Zdx f.hyps f.dummies k) j) (by have h9:=ht _ (ZuG (k:=k) (Zu hb2));omega)) ZpP rfl (Zq hS _ h.keep h.x) (h.x.1) (Za (h.get 0 rfl) Zg) (jo hJ h.x)) ?_))
    refine ZB (b:=b1) (off:=0) (es:=U3) (news:=U3) hJ hJ0 YN rfl rfl rfl (lb rfl) rfl (fun a w h=>⟨(h.get 3 rfl),(h.get 0 rfl)⟩) ?_
    refine snK 1 tb rfl (seK [0,4] U2 rfl ?_)
    exact nx (ZA (fun a w h=>Zan (m:=1) (q:=0) rfl XY h rfl rfl (show(_:List CD)=[lS (((QF f s).getD default).label),lB (((QF f s).getD default).floating),Zf (((QF f s).getD default).text)]from by(rw[e3];rfl)<;>rfl) rfl (eB (by rw[e3];rfl))))
   ·
    try simp at hb3
    refine Zb (nx (Yo tb hJ [1,2,3,4,5,6,1001] [.int (j+1:Nat),_] [0] U7 rfl ⟨Z7,trivial⟩ ?_))
    exact YE (j+1) (r7 []) ⟨oz,ZK f2_2 hb3⟩
  ·
   try simp at hb2
   refine Zs (nx (Yo tb hJ [0,1,2,1001] [.int (k+1:Nat),_] [0] U4 rfl ⟨Z7,trivial⟩ ?_))
   exact YE (k+1) [0,1,2,3] ⟨oz,ZK f1_2 fun h hm=>by obtain⟨i,hi,rfl⟩:=Xp hm;exact f2_2 i oz⟩
 ·
  try simp at hb1
  refine Zs (nx (tsq (sy (.agg (hyC (⟨⟨#[]⟩,false,[]⟩:Hy))) (fun h=>Yh (ps:=[]) (us:=[.string ⟨#[]⟩,.bool false,.slice none 0 0]) ZiP rfl yz ZcJ rfl (Ys (.lit _ nzl) (Ys (.lit _ True.intro) (Ys (.nil _ _ nzl) ZJ))) h.x) ?_)))
  refine ZB (b:=b1) (off:=0) (es:=U3) (news:=U3) hJ hJ0 YN rfl rfl rfl (lb rfl) rfl (fun a w h=>⟨(h.get 1 rfl),(h.get 0 rfl)⟩) ?_
  refine snK 1 tb rfl (seK [0,2] U2 rfl ?_)
  exact nx (ZA (fun a w h=>Zan (m:=1) (q:=0) rfl XY h rfl rfl (show(_:List CD)=[lS (((QF f s).getD default).label),lB (((QF f s).getD default).floating),Zf (((QF f s).getD default).text)]from by(rw[Zfa fun i hi=>f1_2 i oz];rfl)<;>rfl) rfl (eB (by rw[Zfa fun i hi=>f1_2 i oz];rfl))))
theorem QL:Zcy Tryz.prog 106 [.int .i64 0,.slice none 0 0,.int .i64 0,.bool false]:=⟨fun i=>(#[(0,1),(1,1),(2,1),(3,1)]:Array (Nat×Nat))[i]?,fun j hj=>by rcases j with _ | _ | _ | _ | j<;>first | rfl | (simp at hj;omega),fun parts=>by kernel_rfl⟩
theorem Zol {J:WP} (hJ:Stab J) (b:Nat) (d:Db) (f:Fr) (M:Nat) (L:List (BA×Int)) (vi vs vt:Value) (n:Nat) (kn:Bool) (y1 y2:Int) (s:BA) (ht:∀ h∈f.hyps++f.dummies,h.text.length≤2000):FnR Tryz.prog J 105 [OB.var b (mkR d f M vi vs vt n kn y1 y2),OB.mI M L] [.at b 0,.str s] (.agg (itC (Yl f L s))):=by
 refine fER Tryz.func105 fun S w0 hS hJ0 hH=>?_
 refine tw ZR (tsq ?_)
 refine ZT Zbe hJ rfl rfl rfl (lb rfl) fun b1=>?_
 refine seK [0,1,2] U3 rfl (nx (Ze (qso tb hJ [0,1,2,1001] U2 U4 ?_)))
 refine cj 3 (fun hb1=>?_) fun hb1=>?_
 ·
  try simp at hb1
  refine tsq (sq (.agg (itC (⟨(0:Int),[],0,false⟩:Itm))) rfl rfl (lb rfl) (fun a _ h=>Yh (ps:=[(0,a.eval (.const (.int .i64 0)))]) (us:=[a.eval (.const (.int .i64 0)),.slice none 0 0,.int .i64 0,.bool false]) QL rfl yz (Zcx (lb rfl) rfl ZcJ) rfl (Zi (Rel.of_lit (.int .i64 0)) (Ys (.nil _ _ nzl) (Ys (.lit _ True.intro) (Ys (.lit _ True.intro) ZJ)))) h.x) ?_)
  refine ZB (b:=b1) (off:=0) (es:=U4) (news:=U4) hJ hJ0 XU rfl rfl rfl (lb rfl) rfl (fun a w h=>⟨(h.get 1 rfl),(h.get 0 rfl)⟩) ?_
  exact seK [1] [_] rfl (nx (ZA (fun a w h=>Xx (m:=0) rfl Zaw h rfl rfl (show(_:List CD)=[lI ((Yl f L s).kind),Zf ((Yl f L s).text),lI ((Yl f L s).number),lB ((Yl f L s).tagged)]from by(first | (rw[Zjs hb1];done) | (rw[Zjs hb1];rfl))<;>rfl))))
 ·
  try simp at hb1
  refine Zb (nx (Ze (tsq (snK 1 tb rfl (sy (.at b 0) (fun h=>Zy rfl (h.get 0 rfl) h.x) ?_)))))
  refine sy (.at b 3) (fun h=>Zr Zaf rfl (h.get 0 rfl) h.x) ?_
  refine sy (.agg (frC f)) (fun h=>Yz (ds:=[lS f.label,lB f.thm,Y1 f.hyps,YV f.apart,Zf f.text,Y1 f.dummies,YV f.wide,Zf f.proof]) Zev rfl (Yc hH h.keep h.x (mo 0 rfl)) (h.get 0 rfl) rfl rfl h.x) ?_
  refine snK 1 tb rfl (sy (.tup [.agg (hyC ((QF f s).getD default)),.bool ((QF f s).isSome)]) (fun h=>ZaY (p_Hyp hJ f s sfz) ZsX rfl (Zq hS _ h.keep h.x) (h.x.1) (Za (h.get 1 rfl) (Za (h.get 0 rfl) Zg)) (jo hJ h.x)) ?_)
  refine snK 3 tb rfl (XZ (cs:=hyC ((QF f s).getD default)) ZbW rfl rfl rfl (lb rfl) rfl rfl rfl dz (m:=1) rfl rfl (fun a w h=>Zq hS _ h.keep h.x _ nlr) (fun a w h w' hk'=>YA hJ _ _ hk' h.x) ?_)
  refine snK 1 tb rfl (seK [0,1,11,12,13] U5 rfl ?_)
  refine nx (qso tb hJ [1,2,3,4,1000] [_] U5 ?_)
  refine cj 4 (fun hb2=>?_) fun hb2=>?_
  ·
   try simp at hb2
   refine tsq (snK 2 tb rfl (sq (.agg (itC (⟨(1:Int),((QF f s).getD default).text,0,false⟩:Itm))) rfl rfl (lb rfl) (fun a _ h=>Yh (ps:=[(0,a.eval (.const (.int .i64 1))),(1,a.eval (.tmp 23))]) (us:=[a.eval (.const (.int .i64 1)),a.eval (.tmp 23),.int .i64 0,.bool false]) QL rfl yz (Zcx (lb rfl) rfl (Zcx (lb rfl) (Rel.oneC (h.get 0 rfl)) ZcJ)) rfl (Zi (Rel.of_lit (.int .i64 1)) (Zi (h.get 0 rfl) (Ys (.lit _ True.intro) (Ys (.lit _ True.intro) ZJ)))) h.x) ?_))
   refine ZB (b:=b1) (off:=0) (es:=U4) (news:=U4) hJ hJ0 XU rfl rfl rfl (lb rfl) rfl (fun a w h=>⟨(h.get 4 rfl),(h.get 0 rfl)⟩) ?_
   refine seK [1,4] U2 rfl (nx (ln 0 fun hl1=>?_))
   exact ZA (fun a w h=>Xx (m:=1) rfl Zaw h rfl rfl (show(_:List CD)=[lI ((Yl f L s).kind),Zf ((Yl f L s).text),lI ((Yl f L s).number),lB ((Yl f L s).tagged)]from by(first | (rw[Zg0 hb1 (by simp[hb2])];done) | (rw[Zg0 hb1 (by simp[hb2])];rfl))<;>rfl))
  ·
   try simp at hb2
   refine Zb (nx (Ze (ZG tb hJ [1,1009,1010] [_,.at b 0,.at b 11,.lit (.map (some M)),_,.tup [.int ((Ya L s).getD default),.bool ((Ya L s).isSome)],_,_,_,_,_] [1,2,3,5] U3 rfl ⟨fun _ _ _ hx hl _=>Zy rfl (hl.D 0 26 rfl rfl) hx,fun _ _ _ hx hl _=>Zr Zfe rfl (hl.D 1 27 rfl rfl) hx,fun _ _ hk hx hl _=>Zw Zt7 rfl (Yc hH hk hx (mo 0 rfl)) (hl.D 2 28 rfl rfl) rfl hx,fun _ _ hk hx hl _=>Qs (Kd:=keyS) (f:=(fun z':Int=>AV.int z')) (L:=L) Ze1 Zi2 s rfl (Yc hH hk hx (mo 1 rfl)) (hl.D 3 29 rfl rfl) (hl.D 4 30 rfl rfl) hx,trivial⟩ ?_)))
   refine qso tb hJ [0,1,1000] [_] U3 ?_
   refine cj 2 (fun hb3=>?_) fun hb3=>?_
   ·
    try simp at hb3
    refine tsq (snK 1 tb rfl (sq (.agg (itC (⟨(2:Int),[],((Ya L s).getD default),false⟩:Itm))) rfl rfl (lb rfl) (fun a _ h=>Yh (ps:=[(0,a.eval (.const (.int .i64 2))),(2,a.eval (.tmp 35))]) (us:=[a.eval (.const (.int .i64 2)),.slice none 0 0,a.eval (.tmp 35),.bool false]) QL rfl yz (Zcx (lb rfl) rfl (Zcx (lb rfl) (Rel.oneC (h.get 0 rfl)) ZcJ)) rfl (Zi (Rel.of_lit (.int .i64 2)) (Ys (.nil _ _ nzl) (Zi (h.get 0 rfl) (Ys (.lit _ True.intro) ZJ)))) h.x) ?_))
    refine ZB (b:=b1) (off:=0) (es:=U4) (news:=U4) hJ hJ0 XU rfl rfl rfl (lb rfl) rfl (fun a w h=>⟨(h.get 2 rfl),(h.get 0 rfl)⟩) ?_
    exact seK [2] [_] rfl (nx (ZA (fun a w h=>Xx (m:=0) rfl Zaw h rfl rfl (show(_:List CD)=[lI ((Yl f L s).kind),Zf ((Yl f L s).text),lI ((Yl f L s).number),lB ((Yl f L s).tagged)]from by(first | (rw[Zjr hb1 (by simp[hb2]) (by simp[hb3])];done) | (rw[Zjr hb1 (by simp[hb2]) (by simp[hb3])];rfl))<;>rfl))))
   ·
    try simp at hb3
    refine Zb (nx (tsq (sq (.agg (itC (⟨(3:Int),[],0,false⟩:Itm))) rfl rfl (lb rfl) (fun a _ h=>Yh (ps:=[(0,a.eval (.const (.int .i64 3)))]) (us:=[a.eval (.const (.int .i64 3)),.slice none 0 0,.int .i64 0,.bool false]) QL rfl yz (Zcx (lb rfl) rfl ZcJ) rfl (Zi (Rel.of_lit (.int .i64 3)) (Ys (.nil _ _ nzl) (Ys (.lit _ True.intro) (Ys (.lit _ True.intro) ZJ)))) h.x) ?_)))
    refine ZB (b:=b1) (off:=0) (es:=U4) (news:=U4) hJ hJ0 XU rfl rfl rfl (lb rfl) rfl (fun a w h=>⟨(h.get 1 rfl),(h.get 0 rfl)⟩) ?_
    exact seK [1] [_] rfl (nx (ZA (fun a w h=>Xx (m:=0) rfl Zaw h rfl rfl (show(_:List CD)=[lI ((Yl f L s).kind),Zf ((Yl f L s).text),lI ((Yl f L s).number),lB ((Yl f L s).tagged)]from by(first | (rw[Zjq hb1 (by simp[hb2]) (by simp[hb3])];done) | (rw[Zjq hb1 (by simp[hb2]) (by simp[hb3])];rfl))<;>rfl))))
end Go.Proofs.YtneapgbkkkjagaaGreatDoor
