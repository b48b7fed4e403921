/-
  DERIVED: the shelf's contracts at this dump, in plain words.
  THE ENGINE: a row of structs that is made; two results out of variables; texts of a row.
  CONTRACT of the library: a row of pairs is sorted.
  CONTRACT of the program: pairs in order.
  CONTRACT of the program: what a use breaks.
  CONTRACTS of the program: an assertion is used; the kinds of steps.
  THE ENGINE: a drawn region in which operations turn what is owned, or end with a panic.
  CONTRACTS of the program: a step's closure.
  CONTRACTS of the program: the kinds of steps, the end of a proof.
  CONTRACT of the program: a step.
  CONTRACTS of the program: what a proof's words mean.
  CONTRACTS of the program: what a label means.
-/
import Derived.Shelf.SlSortCmp.WholeK
import Derived.Shelf.SlSortCmp.NoneTotal
import Derived.Ground.SlsfProg
import Derived.Test.YtneapgbkkkjagaaGreatDoorQZ
import Derived.Test.YtneapgbkkkjagaaGreatDoorQX
namespace Go.Proofs
open Go.Shelf
def Tryz.sortP_ren:Go.Shelf.Ren:=⟨fun | 6=>188 | 15=>203 | 14=>202 | 28=>215 | 29=>216 | 20=>207 | 21=>208 | 22=>209 | 23=>210 | 24=>211 | 25=>212 | 26=>213 | 27=>214 | 46=>222 | 47=>223 | 48=>224 | 49=>225 | 50=>226 | 57=>228 | n=>n,fun | 22=>57 | 24=>104 | 25=>173 | 3=>3 | 39=>238 | 0=>0 | 53=>258 | 55=>260 | 4=>4 | 46=>252 | 45=>251 | 50=>183 | 5=>5 | 9=>9 | 66=>264 | 70=>268 | 76=>270 | 77=>271 | n=>n,fun | n=>n⟩
theorem Tryz.sortP:Go.Proofs.SlLaysF0.n6 Tryz.prog Tryz.sortP_ren:= {
 mixed:=by kernel_rfl
 f6:=⟨Tryz.f188.name,by decide,Tryz.func188.trans (congrArg some (by kernel_rfl))⟩
 f14:=⟨Tryz.f202.name,by decide,Tryz.func202.trans (congrArg some (by kernel_rfl))⟩
 f15:=Tryz.func203.trans (congrArg some (by kernel_rfl))
 f20:=⟨Tryz.f207.name,by decide,Tryz.func207.trans (congrArg some (by kernel_rfl))⟩
 f21:=⟨Tryz.f208.name,by decide,Tryz.func208.trans (congrArg some (by kernel_rfl))⟩
 f22:=⟨Tryz.f209.name,by decide,Tryz.func209.trans (congrArg some (by kernel_rfl))⟩
 f23:=⟨Tryz.f210.name,by decide,Tryz.func210.trans (congrArg some (by kernel_rfl))⟩
 f24:=⟨Tryz.f211.name,by decide,Tryz.func211.trans (congrArg some (by kernel_rfl))⟩
 f25:=⟨Tryz.f212.name,by decide,Tryz.func212.trans (congrArg some (by kernel_rfl))⟩
 f26:=⟨Tryz.f213.name,by decide,Tryz.func213.trans (congrArg some (by kernel_rfl))⟩
 f27:=⟨Tryz.f214.name,by decide,Tryz.func214.trans (congrArg some (by kernel_rfl))⟩
 f28:=Tryz.func215.trans (congrArg some (by kernel_rfl))
 f29:=Tryz.func216.trans (congrArg some (by kernel_rfl))
 f46:=⟨Tryz.f222.name,by decide,Tryz.func222.trans (congrArg some (by kernel_rfl))⟩
 f47:=Tryz.func223.trans (congrArg some (by kernel_rfl))
 f48:=Tryz.func224.trans (congrArg some (by kernel_rfl))
 f49:=⟨Tryz.f225.name,by decide,Tryz.func225.trans (congrArg some (by kernel_rfl))⟩
 f50:=⟨Tryz.f226.name,by decide,Tryz.func226.trans (congrArg some (by kernel_rfl))⟩
 f57:=⟨Tryz.f228.name,by decide,Tryz.func228.trans (congrArg some (by kernel_rfl))⟩
 t0:=Tryz.underlying0
 a0:=Tryz.isAgg0
 z0:=Tryz.sizeOf0
 v0:=Tryz.zeroValue0
 t3:=Tryz.underlying3
 a3:=Tryz.isAgg3
 z3:=Tryz.sizeOf3
 v3:=Tryz.zeroValue3
 t4:=Tryz.underlying4
 a4:=Tryz.isAgg4
 z4:=Tryz.sizeOf4
 v4:=Tryz.zeroValue4
 t5:=Tryz.underlying5
 a5:=Tryz.isAgg5
 z5:=Tryz.sizeOf5
 v5:=Tryz.zeroValue5
 t9:=Tryz.underlying9
 a9:=Tryz.isAgg9
 z9:=Tryz.sizeOf9
 v9:=Tryz.zeroValue9
 t22:=Tryz.underlying57
 a22:=Tryz.isAgg57
 z22:=Tryz.sizeOf57
 v22:=Tryz.zeroValue57
 t25:=Tryz.underlying173
 a25:=Tryz.isAgg173
 z25:=Tryz.sizeOf173
 v25:=Tryz.zeroValue173
 t39:=Tryz.underlying238
 a39:=Tryz.isAgg238
 z39:=Tryz.sizeOf238
 v39:=Tryz.zeroValue238
 t45:=Tryz.underlying251
 a45:=Tryz.isAgg251
 z45:=Tryz.sizeOf251
 v45:=Tryz.zeroValue251
 t46:=Tryz.underlying252
 a46:=Tryz.isAgg252
 z46:=Tryz.sizeOf252
 v46:=Tryz.zeroValue252
 t50:=Tryz.underlying183
 a50:=Tryz.isAgg183
 z50:=Tryz.sizeOf183
 v50:=Tryz.zeroValue183
 t53:=Tryz.underlying258
 a53:=Tryz.isAgg258
 z53:=Tryz.sizeOf258
 v53:=Tryz.zeroValue258
 t55:=Tryz.underlying260
 a55:=Tryz.isAgg260
 z55:=Tryz.sizeOf260
 v55:=Tryz.zeroValue260
 t66:=Tryz.underlying264
 a66:=Tryz.isAgg264
 z66:=Tryz.sizeOf264
 v66:=Tryz.zeroValue264
 t70:=Tryz.underlying268
 a70:=Tryz.isAgg268
 z70:=Tryz.sizeOf268
 v70:=Tryz.zeroValue268
 t76:=Tryz.underlying270
 a76:=Tryz.isAgg270
 z76:=Tryz.sizeOf270
 v76:=Tryz.zeroValue270
 t77:=Tryz.underlying271
 a77:=Tryz.isAgg271
 z77:=Tryz.sizeOf271
 v77:=Tryz.zeroValue271 }
end Go.Proofs
namespace Go.Proofs.YtneapgbkkkjagaaGreatDoor
open Go.RowKit
def Zwq (P:Program) (t e:TypeId) (kc bytes:Nat) (z:Value):Prop:=
 P.underlying t=some (.slice e)∧(∃ i,P.info? e=some i∧i.zero=some z∧i.size=kc∧i.bytes=bytes)
theorem makeN {P:Program} {t e:TypeId} {kc bytes:Nat} {z:Value} (h1:P.underlying t=some (.slice e)) (hinfo:(P.info? e).map (fun i=>(i.zero,i.size,i.bytes))=some (some z,kc,bytes)):Zwq P t e kc bytes z:=by
 refine⟨h1,?_⟩
 cases hi:P.info? e with
 | none=>rw[hi]at hinfo;cases hinfo
 | some i=>
  rw[hi]at hinfo
  simp only[Option.map_some,Option.some.injEq,Prod.mk.injEq]at hinfo
  exact⟨i,rfl,hinfo.1,hinfo.2.1,hinfo.2.2⟩
theorem ZeT {α:Type} {l:List α} (h0:0<l.length):∀(k i:Nat),i<k*l.length→(List.replicate k l).flatten[i]?=l[i%l.length]?
 | 0,i,h=>by omega
 | k+1,i,h=>by
  rw[List.replicate_succ,List.flatten_cons]
  rcases Nat.lt_or_ge i l.length with h1 | h1
  · rw[List.getElem?_append_left h1,Nat.mod_eq_of_lt h1]
  · rw[List.getElem?_append_right h1,ZeT h0 k (i-l.length) (by rw[Nat.succ_mul]at h;omega),Nat.mod_eq_sub_mod h1]
theorem made_N {c:Array Value} (h0:0<c.size) (k:Nat):(madeCells c (k*c.size)).toList=(List.replicate k c.toList).flatten:=by
 apply List.ext_getElem?
 intro i
 have hl:c.toList.length=c.size:=by simp
 rcases Nat.lt_or_ge i (k*c.size)with h | h
 · rw[ZeT (by rw[hl];exact h0) k i (by rw[hl];exact h),hl]
   have hm:i%c.size<c.size:=Nat.mod_lt _ h0
   simp[madeCells,h,hm]
 · rw[List.getElem?_eq_none (by simp[madeCells];exact h),List.getElem?_eq_none]
   simp only[List.length_flatten,List.map_replicate,List.sum_replicate_nat,hl]
   exact h
theorem Zkc {cs:List CD} {vs:List Value} {S:Nat→Prop} {w:World} (h:RdL S w cs vs):∀ k,RdL S w ((List.replicate k cs).flatten) ((List.replicate k vs).flatten)
 | 0=>trivial
 | k+1=>by
  rw[List.replicate_succ,List.flatten_cons,List.replicate_succ,List.flatten_cons]
  exact h.append (Zkc h k)
section
variable {n:Rn} {N:Nat} {P:Program} {J X:World→Prop} {S S' S'':Nat→Prop} {O:List OB} {w0:World} {env:List (Nat×AV)} {Q:Exit→Act→World→Prop}
theorem ZiP {ops:Array Oper} {o:Oper} {rest:List Oper} {t e:TypeId} {kc bytes d k:Nat} {z:Value} {x y:Operand} {α:Type} {f:α→List CD} (a0:α) (ht:Zwq P t e kc bytes z) (hf:∀(S:Nat→Prop) (w:World),RdL S w (f a0) z.cells.toList) (hzc:z.cells.size=kc) (hkc:0<kc) (hJ:Stab J) (hg:o.guard=none) (hop:o.op= .makeSlice t x y) (hd:o.dst=some d) (hN:d<N)
 (h1:∀ a w,So J S w0 N O env a w→Rel (SO S O) w (.int (k:Int)) (a.eval x)∧Rel (SO S O) w (.int (k:Int)) (a.eval y)) (hb:bytes*k≤281474976710656) (h63:k≤9223372036854775807)
 (next:∀ v a w,So J S w0 N (OB.row v e kc ((List.replicate k a0).map f)::O) ((d,.lit v)::YR d env) a w→wpListIn n.F n.d P ops Q rest a w):
 ∀ a w,So J S w0 N O env a w→wpListIn n.F n.d P ops Q (o::rest) a w:=by
 refine Zdp (O2:=fun v=>OB.row v e kc ((List.replicate k a0).map f)::O) (av:=fun v=>.lit v) hg hd hN (fun a w h=>?_) next
 obtain⟨ht1,i,hi,hz,hs,hbb⟩:=ht
 obtain⟨g1,g2⟩:=h1 a w h
 have hb':(i.bytes:Int)*(k:Int)≤281474976710656:=by
  rw[hbb]
  have h:((bytes*k:Nat):Int)≤281474976710656:=by omega
  rwa [Int.natCast_mul]at h
 have hrun:=run_make (P:=P) w t e i z ht1 hi hz .i64 .i64 (k:Int) (k:Int) (by omega) (Int.le_refl _) hb' (by omega)
 rw[hs,Int.toNat_natCast]at hrun
 have hk:Keeps All w (w.alloc (.cells (madeCells z.cells (k*kc)) e)):=(Keeps.refl _ _).alloc _
 have hmade:(madeCells z.cells (k*kc)).toList=(List.replicate k z.cells.toList).flatten:=by rw[←hzc];exact made_N (by omega) k
 have hrows:((List.replicate k a0).map f).flatten=(List.replicate k (f a0)).flatten:=by rw[List.map_replicate]
 have hfl:(f a0).length=kc:=by rw[←(hf S w).length];simpa using hzc
 have hml:(madeCells z.cells (k*kc)).toList.length=k*kc:=by simp[madeCells]
 refine Z8 (v:=.slice (some ⟨w.heap.size,0,none⟩) k k) (w':=w.alloc (.cells (madeCells z.cells (k*kc)) e)) ?_ ⟨.slice (some ⟨w.heap.size,0,none⟩) k k,Qj hJ h.keep h.x hk (fun b hb=>?_) ?_,Rel.of_lit _⟩
 · simp only[execOp,hop,g1.lit,g2.lit,Sem.run_bind,hrun]
   rfl
 · simp[OB.row,Value.ownBlock]at hb
   omega
 · refine⟨(madeCells z.cells (k*kc)).toList,⟨by rw[hml];simp,.inr ⟨w.heap.size,k,madeCells z.cells (k*kc),by simp,h.keep.size,heap_alloc_new w _,by simp,by unfold maxLen;omega,by simp[madeCells],?_⟩⟩,?_,fun r hr=>?_⟩
   · exact List.take_of_length_le (by rw[hml];simp)
   · rw[hrows,hmade];exact Zkc (hf _ _) k
   · rw[List.map_replicate]at hr
     rw[(List.mem_replicate.1 hr).2];exact hfl
end
section
variable {N:Nat} {P:Program} {J:World→Prop} {S:Nat→Prop} {O:List OB} {w0 w:World} {env:List (Nat×AV)} {a:Act} {b b2:Nat} {cs:List CD} {c2:CD} {t t2:TypeId}
theorem Zoo {fn:Func} {d m q u:Nat} {k:Nat} {cs':List CD} {r2:AV} (hr:fn.results= #[.cell d t,.cell u t2]) (h1:XV P t k) (h2:Q3 P t2) (h:So J S w0 N (OB.var b cs::OB.var b2 [c2]::O) env a w) (he:env[m]?=some (d,.at b 0)) (he2:env[q]?=some (u,.at b2 0)) (hl:cs.length=k) (hE:cs=cs') (hE2:AV.rd c2=r2):
 bodyPost P fn (fun e w'=>∃ v,e= .returned v∧Rel S w' (.tup [.agg cs',r2]) v∧Keeps All w0 w'∧J w') .ret a w:=by
 subst hE
 subst hE2
 obtain⟨h0,us,e,hb,hrd⟩:=h.x.2.1 (OB.var b cs) (by simp)
 obtain⟨g0,vs,e',gb,grd⟩:=h.x.2.1 (OB.var b2 [c2]) (by simp)
 match vs,grd with
 | [v2],grd=>
  have hd:a.tmps.getD d undef= .pointer (some ⟨b,0,none⟩):=(h.get m he).lit
  have hu:a.tmps.getD u undef= .pointer (some ⟨b2,0,none⟩):=(h.get q he2).lit
  have hrun:=Y5 (P:=P) b 0 w us 0 #[] fun j u hj=>by rw[Nat.zero_add];simp[World.cell?,hb,hj]
  rw[show us.length=k by rw[hrd.length,hl]]at hrun
  have hd':a.tmps[d]?.getD undef= .pointer (some ⟨b,0,none⟩):=by rw[←Array.getD_eq_getD_getElem?];exact hd
  have hu':a.tmps[u]?.getD undef= .pointer (some ⟨b2,0,none⟩):=by rw[←Array.getD_eq_getD_getElem?];exact hu
  have hcell:w.cell? ⟨b2,0,none⟩=some v2:=by simp[World.cell?,gb]
  refine⟨h.defs,.tuple #[.agg us.toArray,v2],by simp[results,hr,hd',hu',asAddr,Sem.run_bind,loadVar,loadCells,h1.1 w,h1.2 w,h2 w,hrun,hcell],_,rfl,?_,h.keep,h.x.1⟩
  simp only[Rel,RelL]
  exact⟨_,rfl,_,_,rfl,⟨us,rfl,hrd.sub fun _ _ hk=>hk.1⟩,_,_,rfl,grd.1.sub fun _ _ hk=>hk.1,rfl⟩
theorem Zt8 {T:Nat→Prop} {us:List BA} {v:Value} (h:Rd T w (Zg us) v):∀ s∈us,s.size≤maxLen:=by
 unfold Zg at h
 generalize hr:us.map Zad=rows at h
 cases h with
 | nil a cap hm=>simp at hr;subst hr;simp
 | sl b off cap n rows vs hl hm hb hS hn hc hrd=>
  subst hr
  intro s hs
  obtain⟨i,hi,rfl⟩:=List.getElem_of_mem hs
  have h1:=hrd i 0 (Zad us[i]) (.lit (.string us[i])) (by simp[hi]) rfl
  generalize vs i 0=u at h1
  cases h1 with
  | lit _ hv=>exact hv
theorem lnStrA {fid:FuncId} {K:Nat→Prop} {X:World→Prop} {c:Code} {Q:Exit→Act→World→Prop} {us:List BA} {s:Nat} (m:Nat) (h:(∀ x∈us,x.size≤maxLen)→TrA fid P (St K S w0 N env X) c Q) (he:env[m]?=some (s,.rd (Zg us)):=by exact rfl):TrA fid P (St K S w0 N env X) c Q:=fun a w ha=>h (Zt8 (by have:=ha.get m he;simpa only[Rel]using this)) a w ha
end
end Go.Proofs.YtneapgbkkkjagaaGreatDoor
set_option maxHeartbeats 8000000
set_option maxRecDepth 100000
namespace Go.Proofs.YtneapgbkkkjagaaGreatDoor
open Go.RowKit
open Go.Sort Go.Shelf
abbrev PrB:Type:= {p:Pr // p.a.size≤maxLen∧p.b.size≤maxLen}
instance instInhPrB:Inhabited PrB:=⟨⟨⟨⟨#[]⟩,⟨#[]⟩⟩,Nat.zero_le _,Nat.zero_le _⟩⟩
def Zij (p:PrB):List Value:=ZoX p.1
def cfB (p q:PrB):Int:=Zf1 p.1 q.1
theorem ltB (p q:PrB):ltOf cfB p q=ltP p.1 q.1:=by
 unfold ltOf cfB
 by_cases h:ltP p.1 q.1=true
 · rw[decide_eq_true (cmpT_lt.2 h),h]
 · rw[decide_eq_false (fun h2=>h (cmpT_lt.1 h2))]
   simpa using h
theorem swoB:Go.Sort.SWO (ltOf cfB) where
 irrefl x:=by rw[ltB];exact Zi9 _
 trans x y z h1 h2:=by rw[ltB]at*;exact ZaY h1 h2
 ntrans x y z h1 h2:=by
  rw[ltB]at*
  cases h3:ltP x.1 z.1 with
  | false=>rfl
  | true=>
   cases h4:ltP y.1 x.1 with
   | true=>rw[ZaY h4 h3]at h2;cases h2
   | false=>rw[Zi8 h1 h4,h2]at h3;cases h3
theorem ZrJ (blk off size:Nat) (w:World):CmpLays Tryz.prog 174 #[] Zij 2 cfB blk off size w:=fun m os dk _ x y=>by
 have:=Zo5 x.1 y.1 x.2 y.2 (sortWorldK Zij 2 w blk off m dk os)
 rw[Array.append_empty]
 exact this
theorem ZkN {α:Type} [Inhabited α] {enc:α→List Value} {k:Nat} (hk:∀ x,(enc x).length=k) (h0:0<k):∀(l:List α) (t:Nat),t<l.length*k→(l.flatMap enc)[t]?=(enc (ge l (t/k)))[t%k]?
 | [],t,h=>by simp at h
 | x::l,t,h=>by
  rw[List.flatMap_cons]
  rcases Nat.lt_or_ge t k with h1 | h1
  · rw[List.getElem?_append_left (by rw[hk];exact h1),Nat.div_eq_of_lt h1,Nat.mod_eq_of_lt h1]
    rfl
  · have e:t=(t-k)+k:=by omega
    rw[List.getElem?_append_right (by rw[hk];exact h1),hk,ZkN hk h0 l (t-k) (by simp only[List.length_cons,Nat.succ_mul]at h;omega)]
    rw[show t/k=(t-k)/k+1 from by rw[Nat.div_eq_sub_div h0 h1],Nat.mod_eq_sub_mod h1]
    simp[ge]
theorem Zmf {α:Type} [Inhabited α] {enc:α→List Value} {k:Nat} (hk:∀ x,(enc x).length=k) (h0:0<k) (d:Array α):(flatK enc k d).toList=d.toList.flatMap enc:=by
 apply List.ext_getElem?
 intro t
 have hl:d.toList.length=d.size:=by simp
 rcases Nat.lt_or_ge t (d.size*k)with h | h
 · rw[ZkN hk h0 d.toList t (by rw[hl];exact h)]
   have h1:=get_flatK enc k d t h
   have hdk:t/k<d.size:=Nat.div_lt_of_lt_mul (by rw[Nat.mul_comm];exact h)
   have hm:t%k<k:=Nat.mod_lt _ h0
   have h2:(flatK enc k d).toList[t]?=some ((flatK enc k d)[t]!):=by
    rw[Array.getElem?_toList,Array.getElem?_eq_getElem (by simpa using h),getElem!_pos _ t (by simpa using h)]
   rw[h2,h1]
   have e1:ge d.toList (t/k)=d[t/k]!:=by
    rw[Xd (by rw[hl];exact hdk),getElem!_pos d (t/k) hdk];simp
   rw[e1,List.getElem?_eq_getElem (show t%k< (enc d[t/k]!).length by rw[hk];exact hm),getElem!_pos (enc d[t/k]!) (t%k) (by rw[hk];exact hm)]
 · rw[List.getElem?_eq_none (by simpa using h),List.getElem?_eq_none]
   rw[List.length_flatMap]
   simp only[hk,List.map_const',List.sum_replicate_nat]
   simpa using h
theorem Zqf (cur F:Array Value) (h:F.size≤cur.size):(putCells id 0 F cur).toList.take F.size=F.toList:=by
 apply List.ext_getElem?
 intro t
 rw[List.getElem?_take]
 split
 · rename_i h1
   have h2:t<cur.size:=by omega
   simp[putCells,h1,h2]
 · rename_i h1
   rw[List.getElem?_eq_none (by simpa using h1)]
theorem ZnL {S:Nat→Prop} {w:World}:∀ {ps:List Pr} {us:List Value},RdL S w (ps.map prC).flatten us→us=ps.flatMap ZoX∧∀ p∈ps,p.a.size≤maxLen∧p.b.size≤maxLen
 | [],us,h=>by
  have:=h.length
  simp at this
  exact⟨by simpa using this,by simp⟩
 | p::ps,us,h=>by
  match us,h with
  | u1::u2::us,⟨h1,h2,h3⟩=>
   obtain⟨e,hb⟩:=ZnL (ps:=ps) h3
   have ok1:p.a.size≤maxLen:=by cases h1 with | lit _ hv=>exact hv
   have ok2:p.b.size≤maxLen:=by cases h2 with | lit _ hv=>exact hv
   refine⟨by rw[h1.of_lit,h2.of_lit,e];rfl,fun q hq=>?_⟩
   rcases List.mem_cons.1 hq with rfl | hq
   · exact⟨ok1,ok2⟩
   · exact hb q hq
theorem pr_rd {S:Nat→Prop} {w:World}:∀ {ps:List Pr},(∀ p∈ps,p.a.size≤maxLen∧p.b.size≤maxLen)→RdL S w (ps.map prC).flatten (ps.flatMap ZoX)
 | [],_=>trivial
 | p::ps,h=>⟨.lit _ (h p (by simp)).1,.lit _ (h p (by simp)).2,pr_rd fun q hq=>h q (by simp[hq])⟩
theorem ZuK {J:World→Prop} (hJ:Stab J) (v:Value) (ps:List Pr) (hn:ps.length≤140737488355328):FnM (ι:= {qs:List Pr // qs.Perm ps∧WkP qs}) Tryz.prog J 188 [] [.lit v,.fn 174 []] [OB.row v 104 2 (ps.map prC)] (fun _=>.tup []) (fun i=>[OB.row v 104 2 (i.1.map prC)]):=by
 intro S w0 R w vs hS hJ0 hH hk hx ha
 simp only[RelL]at ha
 obtain⟨u,_,rfl,h1,u2,_,rfl,h2,rfl⟩:=ha
 obtain rfl:=h1.lit
 obtain rfl:u2= .func (.func 174) #[] #[]:=by
  simp only[Rel,RelL]at h2
  obtain⟨_,rfl,rfl⟩:=h2
  rfl
 have hi:=hx.2.1 (OB.row u 104 2 (ps.map prC)) (by simp)
 obtain⟨us,⟨hul,hrow⟩,hrd,h3⟩:=hi
 rcases hrow with⟨rfl,hz⟩ | ⟨g,cap,cur,rfl,hb,hg,hnc,hcm,hcs,ht⟩
 · have hps:ps=[]:=by simpa using hz
   subst hps
   refine(AnyF.slices_SortFunc_none Tryz.sortP none 0 _ w).mono ?_
   rintro e w' ⟨rfl,rfl⟩
   exact⟨⟨[],.refl _,.nil⟩,_,rfl,by simp only[Rel,RelL];exact⟨[],rfl,rfl⟩,hk,hx⟩
 · obtain⟨hus,hok⟩:=ZnL hrd
   have hlen:(ps.map prC).length=ps.length:=List.length_map _
   rw[hlen]at hnc ht hul
   obtain⟨d,hd⟩:∃ d:Array PrB,d.toList.map (·.1)=ps:=⟨(ps.pmap (fun p h=>(⟨p,h⟩:PrB)) hok).toArray,by simp[List.map_pmap]⟩
   have hds:d.size=ps.length:=by rw[←hd];simp
   have hkB:∀ x:PrB,(Zij x).length=2:=fun _=>rfl
   have hfl:∀ e:Array PrB,(flatK Zij 2 e).toList=(e.toList.map (·.1)).flatMap ZoX:=fun e=>by
    rw[Zmf hkB (by omega),List.flatMap_map]
    rfl
   have hgl:g<w.heap.size:=(Array.getElem?_eq_some_iff.1 hg).1
   have hfz:∀ j,w.frozen? ⟨g,j,none⟩=false:=fun j=>by simp[World.frozen?,hg]
   have hH:HoldsK Zij 2 w g 0 d:=fun j hj=>by
    refine⟨?_,hfz _⟩
    have hj2:j<ps.length*2:=by rw[size_flatK,hds]at hj;exact hj
    have e1:cur.toList[j]?=some ((flatK Zij 2 d)[j]!):=by
     have e2:(cur.toList.take (ps.length*2))[j]?=cur.toList[j]?:=by rw[List.getElem?_take,if_pos hj2]
     rw[←e2,ht,hus,←hd,←hfl d,Array.getElem?_toList,Array.getElem?_eq_getElem hj,getElem!_pos _ j hj]
    rw[Nat.zero_add]
    simp only[World.cell?,hg]
    simpa using e1
   have hcall:=AnyQ.slices_SortFunc Tryz.sortP 2 Tryz.isAgg104 Tryz.sizeOf104 Zij hkB (fun x v hv=>by simp[Zij,ZoX]at hv;rcases hv with rfl | rfl<;>rfl) cfB swoB 174 #[] g 0 cap d w (enters_of Tryz.func174 (by kernel_rfl) rfl) (ZrJ g 0 d.size w) hH hgl (by omega)
   rw[hds]at hcall
   rw[hlen]
   refine hcall.mono ?_
   rintro e w' ⟨rfl,d',n,os,hperm,hsrt,rfl⟩
   have hd's:d'.size=ps.length:=by rw[hperm.1,hds]
   have hpm:(d'.toList.map (·.1)).Perm ps:=by
    have h9:=hperm.2.2
    rw[show d'.extract 0 ps.length=d' by rw[←hd's];exact Array.extract_size,show d.extract 0 ps.length=d by rw[←hds];exact Array.extract_size]at h9
    rw[←hd]
    exact h9.map _
   have hwk:WkP (d'.toList.map (·.1)):=by
    unfold WkP
    rw[List.pairwise_map,List.pairwise_iff_getElem]
    intro i j hi hj hij
    have h9:=hsrt i j (Nat.zero_le _) hij (by rw[←hd's];simpa using hj)
    rw[ltB,getElem!_pos _ j (by simpa using hj),getElem!_pos _ i (by simpa using hi)]at h9
    simpa using h9
   have hheap:(sortWorldK Zij 2 w g 0 n d' os).heap[g]?=some (.cells (putCells id 0 (flatK Zij 2 d') cur) 104):=by
    show(grow (putRow id (Sort.ahead w n) g 0 (flatK Zij 2 d')) os).heap[g]?=_
    rw[heap_grow_old _ _ (by simpa [Sort.ahead]using hgl)]
    show((Sort.ahead w n).heap.modify g _)[g]?=_
    rw[Array.getElem?_modify,if_pos rfl]
    show(w.heap[g]?).map _=_
    rw[hg]
    rfl
   have hkk:Keeps (fun k=>k≠g) w (sortWorldK Zij 2 w g 0 n d' os):=by
    refine⟨?_,?_,?_,?_,?_⟩
    · simp[sortWorldK,putRowK,grow,putRow,mapBlock,Sort.ahead]
    · simp[sortWorldK,putRowK,grow,putRow,mapBlock,Sort.ahead]
    · simp[sortWorldK,putRowK,grow,putRow,mapBlock,Sort.ahead]
    · simp[sortWorldK,putRowK,grow,putRow,mapBlock,Sort.ahead]
    · intro k hk hne
      show(grow (putRow id (Sort.ahead w n) g 0 (flatK Zij 2 d')) os).heap[k]?=_
      rw[heap_grow_old _ _ (by simpa [Sort.ahead]using hk)]
      show((Sort.ahead w n).heap.modify g _)[k]?=_
      rw[Array.getElem?_modify,if_neg (fun e=>hne e.symm)]
      rfl
   have hFs:(flatK Zij 2 d').size=ps.length*2:=by rw[size_flatK,hd's]
   have hk0:Keeps All w0 (sortWorldK Zij 2 w g 0 n d' os):=hk.upto' hkk fun k hk0 e=>by subst e;omega
   have hok':∀ p∈d'.toList.map (·.1),p.a.size≤maxLen∧p.b.size≤maxLen:=fun p hp=>hok p (hpm.mem_iff.1 hp)
   have hinv:(OB.row (.slice (some ⟨g,0,none⟩) ps.length cap) 104 2 ((d'.toList.map (·.1)).map prC)).inv w0.heap.size (SO S ([OB.row (.slice (some ⟨g,0,none⟩) ps.length cap) 104 2 ((d'.toList.map (·.1)).map prC)]++R)) (sortWorldK Zij 2 w g 0 n d' os):=by
    have hl2:((d'.toList.map (·.1)).map prC).length=ps.length:=by simp[hd's]
    refine⟨(d'.toList.map (·.1)).flatMap ZoX,⟨?_,.inr ⟨g,cap,putCells id 0 (flatK Zij 2 d') cur,by rw[hl2],hb,hheap,by rw[hl2];exact hnc,hcm,by simpa [putCells]using hcs,?_⟩⟩,pr_rd hok',fun r hr=>by obtain⟨p,_,rfl⟩:=List.mem_map.1 hr;rfl⟩
    · rw[hl2,←hfl d',Array.length_toList,hFs]
    · rw[hl2,←hfl d',←hFs]
      exact Zqf cur _ (by rw[hFs,hcs];exact Nat.mul_le_mul_right _ hnc)
   refine⟨⟨d'.toList.map (·.1),hpm,hwk⟩,_,rfl,by simp only[Rel,RelL];exact⟨[],rfl,rfl⟩,hk0,?_⟩
   have hx1:=hx
   rw[hlen]at hx1
   have:=ZjP (o':=OB.row (.slice (some ⟨g,0,none⟩) ps.length cap) 104 2 ((d'.toList.map (·.1)).map prC)) hx1 (hJ _ _ hk0 hJ0) (hkk.sub fun k _ hk=>fun e=>hk (by show(OB.row (.slice (some ⟨g,0,none⟩) ps.length cap) 104 2 (ps.map prC)).blk k;rw[e];rfl)) (fun k hk=>.inl hk) hinv
   exact this.1
end Go.Proofs.YtneapgbkkkjagaaGreatDoor
set_option maxHeartbeats 8000000
set_option maxRecDepth 100000
namespace Go.Proofs.YtneapgbkkkjagaaGreatDoor
open Go.RowKit
theorem ZhV:Zwq Tryz.prog 57 104 2 32 (.agg #[.string ⟨#[]⟩,.string ⟨#[]⟩]):=makeN (by kernel_rfl) (by kernel_rfl)
theorem ZqX {J:World→Prop} (hJ:Stab J) (l:List Pr) (hwd:l.length*32≤140737488351232):FnM (ι:= {qs:List Pr // Zwr l qs}) Tryz.prog J 171 [] [.rd (Xc l)] [] (fun i'=>.rd (Xc (i'.1))) (fun _=>[]):=by
 refine Yt (N:=26) Tryz.func171 rfl rfl (lb rfl) fun S w0 R hS hJ0 hH=>?_
 refine YA (B:=So J S w0 26 (R) [(0,.rd (Xc l))]) ?_ fun a w h=>h
 refine ln 0 fun hl1=>?_
 refine qso tb hJ [0] [_] [_] ?_
 refine tsq ?_
 refine snK 1 tb rfl ?_
 refine sy (.int (l.length:Nat)) (fun h=>ZaD ZL rfl (h.get 0 rfl) h.x) ?_
 refine ZiP (f:=prC) (k:=l.length) (⟨⟨#[]⟩,⟨#[]⟩⟩:Pr) ZhV (fun _ _=>⟨.lit _ (Nat.zero_le _),.lit _ (Nat.zero_le _),trivial⟩) rfl (by decide) hJ rfl rfl rfl (lb rfl) (fun a w h=>⟨(h.get 0 rfl),(h.get 0 rfl)⟩) sfz sfz fun v1=>?_
 refine snK 1 tb rfl ?_
 refine seK [0,4] [_,_] rfl ?_
 refine nx (Zf (ZG tb hJ [0,1000,1001,1002] [_,.int (l.length:Nat),_] [1] U4 rfl ⟨Z2 ZL,trivial⟩ ?_))
 refine Zc (lpo (ι:=Nat×(List Pr)) (fun(k,rs)=>(k≤l.length)∧(rs.length=l.length)∧(∀ i,i<k→ge rs i=QB (ge l i))) (fun(_,rs)=>(OB.row v1 104 2 (rs.map prC)::R)) (fun(k,_)=>[(11,.int (k:Nat))]) (fun(k,_)=>l.length-k) [0,1,2,3] U3 (0,List.replicate l.length (⟨⟨#[]⟩,⟨#[]⟩⟩:Pr)) ⟨Nat.zero_le _,List.length_replicate,fun i hi=>by omega⟩ ?_)
 rintro⟨k,rs⟩ ⟨f1_1,f1_2,f1_3⟩
 refine qso tb hJ [0,1,2,3,1000] [_] U5 ?_
 refine cjS 4 (fun hb1=>?_) fun hb1=>?_
 try simp at hb1
 refine Zb (nx (Zf (Zc (tsq ?_))))
 refine snK 1 tb rfl ?_
 refine sy (.ptr (prC (ge l k))) (fun h=>ZO (i:=(k:Int)) Zu rfl (h.get 2 rfl) (h.get 4 rfl) (Int.natCast_nonneg _) (ZU (xs:=l) (k:=k) sfz) rfl h.x) ?_
 refine snK 1 tb rfl ?_
 refine Z4 XH hJ rfl rfl rfl (lb rfl) fun b2=>?_
 refine snK 1 tb rfl ?_
 refine ZD (b:=b2) (off:=0) (es:=[_,_]) (news:=[_,_]) hJ hJ0 YK rfl rfl rfl (lb rfl) rfl (fun a w h=>⟨(h.get 1 rfl),(h.get 2 rfl)⟩) ?_
 refine kw (fun h=>YO hS h (m:=1) (s:=5) rfl) ?_
 refine seK [0,1,5,6,7,8] U6 rfl ?_
 refine nx (ZE (snK 3 tb rfl ?_))
 refine sy (.agg (prC (QB (ge l k)))) (fun h=>Zbw (ZhF hJ (ge l k)) Zk2 rfl (Zp hS _ h.keep h.x) (h.x.1) (Za (h.get 0 rfl) Zh) (jo hJ h.x)) ?_
 refine sy (.lit (XG v1 (k*2))) (fun h=>Y6 (i:=(k:Int)) Zu rfl (Zi h.x (mo 0 rfl)) (h.get 3 rfl) (h.get 2 rfl) (Int.natCast_nonneg _) (by rw[List.length_map];exact Int.ofNat_lt.2 sfz) h.x) ?_
 refine Zaz (i:=k) hJ hJ0 YK rfl rfl rfl (by rw[List.length_map];exact sfz) rfl (fun a w h=>⟨(h.get 0 rfl),(h.get 1 rfl)⟩) ?_
 rw[show(rs.map prC).set k (prC (QB (ge l k)))=(rs.set k (QB (ge l k))).map prC from List.map_set.symm]
 refine seK [7,8,9,10] U4 rfl ?_
 refine nx (Yu tb hJ [0,1,2,1001] [.int (k+1:Nat),_] [0] U4 rfl ⟨Ya,trivial⟩ ?_)
 exact YH (k+1,rs.set k (QB (ge l k))) [0,1,2,3] ⟨by omega,by rw[List.length_set];exact f1_2,fun i hi=>by rw[ZoM (by omega)];by_cases h9:i=k;(· simp[h9]);rw[if_neg h9];exact f1_3 i (by omega)⟩
 try simp at hb1
 have e9:rs=l.map QB:=map_of f1_2 fun i hi=>f1_3 i (by omega)
 refine Zt (nx (tsq ?_))
 refine snK 1 tb rfl ?_
 refine X0 (O:=[OB.row v1 104 2 (rs.map prC)]) (R:=(R)) (ZuK hJ v1 rs sfz) ZrN rfl rfl rfl (lb rfl) hS hJ0 Zy (fun a w h=>(Za (h.get 0 rfl) (Za (ZaC 174) Zh))) fun z3=>?_
 refine seK [2] [_] rfl ?_
 refine nx (tsq ?_)
 refine snK 1 tb rfl ?_
 refine X0 (O:=[OB.row v1 104 2 (z3.1.map prC)]) (R:=(R)) (ZlT hJ v1 z3.1 (by have h9:=z3.2.1.length_eq;omega)) ZrM rfl rfl rfl (lb rfl) hS hJ0 Zy (fun a w h=>(Za (h.get 0 rfl) Zh)) fun z4=>?_
 refine snK 1 tb rfl ?_
 refine seK [0] [_] rfl ?_
 refine nx (tw (fun h=>ZN hS h (m:=0) (s:=2) rfl) ?_)
 exact Ze (fun a w h=>Ye  (m:=0) ⟨(Zdk z3.1 z3.1.length),srt_of (e9▸z3.2.1) z3.2.2⟩ rfl h rfl rfl)
theorem Zf7:Zdf Tryz.prog 104 [.string ⟨#[]⟩,.string ⟨#[]⟩]:=⟨fun i=>(#[(0,1),(1,1)]:Array (Nat×Nat))[i]?,fun j hj=>by rcases j with _ | _ | j<;>first | rfl | (simp at hj;omega),fun parts=>by kernel_rfl⟩
theorem Zg4 {l:List Bd} {ap:List Pr} {us:List BA} {wd:List Pr} {q:Pr} (h:ZjG l ap us wd=some q):ZdR l ap us wd=q:=by unfold ZdR;rw[h];rfl
theorem Zg6 {l:List Bd} {ap:List Pr} {us:List BA} {wd:List Pr} {q:Pr} (h:ZjG l ap us wd=some q):ZdV l ap us wd=true:=by unfold ZdV;rw[h];rfl
theorem Zg5 {l:List Bd} {ap:List Pr} {us:List BA} {wd:List Pr} (h:ZjG l ap us wd=none):ZdR l ap us wd=⟨⟨#[]⟩,⟨#[]⟩⟩:=by unfold ZdR;rw[h];rfl
theorem Zg7 {l:List Bd} {ap:List Pr} {us:List BA} {wd:List Pr} (h:ZjG l ap us wd=none):ZdV l ap us wd=false:=by unfold ZdV;rw[h];rfl
theorem ZlO {J:World→Prop} (hJ:Stab J) (bl:List Bd) (us:List BA) (ap:List Pr)  :Fn Tryz.prog J 172 [.rd (ZdW bl),.rd (Xc ap),.rd (Zg us)] (.fn 190 [.ptr [ZdW bl],.ptr [Zg us],.ptr [Xc ap]]):=by
 refine Zo (N:=8) Tryz.func172 rfl rfl (lb rfl) fun S w0 hS hJ0=>?_
 clear hJ0
 refine ln 0 fun hl1=>?_
 refine ln 1 fun hl2=>?_
 refine ln 2 fun hl3=>?_
 refine hqs tb hJ [1000,1001,1002] [.ptr [ZdW bl],.ptr [Xc ap],.ptr [Zg us],_] [0,1,2] U3 rfl ⟨fun _ _ hk hx hl _=>Zcl rfl (hl.env 0 0 _ rfl rfl) (hS _ hk.size) (js hJ hx),fun _ _ hk hx hl _=>Zcl rfl (hl.env 1 1 _ rfl rfl) (hS _ hk.size) (js hJ hx),fun _ _ hk hx hl _=>Zcl rfl (hl.env 2 2 _ rfl rfl) (hS _ hk.size) (js hJ hx),trivial⟩ ?_
 refine hqs tb hJ [1001] [.fn 190 [.ptr [ZdW bl],.ptr [Zg us],.ptr [Xc ap]],_] [0] [_] rfl ⟨fun _ _ _ hx hl _=>XR (caps:=[(.tmp 3),(.tmp 5),(.tmp 4)]) rfl (Za (hl.env 0 3 _ rfl rfl) (Za (hl.env 2 5 _ rfl rfl) (Za (hl.env 1 4 _ rfl rfl) Zh))) hx,trivial⟩ ?_
 exact Ze (rtn (m:=0) rfl rfl rfl)
theorem Zq4 {J:World→Prop} (hJ:Stab J) (bl:List Bd) (ap:List Pr) (us:List BA) (wd:List Pr) (hbl:∀ b∈bl,b.text.length≤2000) (hwd:wd.length*32≤140737488351232):Fn Tryz.prog J 147 [.rd (ZdW bl),.rd (Xc ap),.rd (Zg us),.rd (Xc wd)] (.tup [.agg (prC (ZdR bl ap us wd)),.bool (ZdV bl ap us wd)]):=by
 refine ZoT (N:=38) Tryz.func147 rfl rfl (lb rfl) fun S w0 hS hJ0=>?_
 refine atw Z1 ?_
 refine lnA 0 fun hl1=>?_
 refine lnA 1 fun hl2=>?_
 refine lnA 2 fun hl3=>?_
 refine lnA 3 fun hl4=>?_
 refine lnStrA 2 fun hus=>?_
 refine Zcm (m:=5) ?_
 refine ZE (Z4 XH hJ rfl rfl rfl (lb rfl) fun b1=>?_)
 refine Z4 Zqc hJ rfl rfl rfl (lb rfl) fun b2=>?_
 refine seK (r6 []) U6 rfl ?_
 refine nxA ?_
 refine Zcm (m:=5) ?_
 refine ZE (snK 1 tb rfl ?_)
 refine X0 (O:=[]) (R:=[OB.var b2 [lB false],OB.var b1 [lS (⟨#[]⟩:BA),lS (⟨#[]⟩:BA)]]) (ZqX hJ wd sfz) ZrW rfl rfl rfl (lb rfl) hS hJ0 Zy (fun a w h=>(Za (h.get 0 rfl) Zh)) fun z3=>?_
 refine Z4 ZmN hJ rfl rfl rfl (lb rfl) fun b4=>?_
 refine Yc (b:=b4) (off:=0) (es:=[_]) hJ hJ0 Znc rfl rfl rfl (lb rfl) rfl (fun a w h=>⟨(h.get 0 rfl),(h.get 1 rfl)⟩) ?_
 refine kw (fun h=>YO hS h (m:=0) (s:=10) rfl) ?_
 refine seK [0,1,3,4,5,6,7] U7 rfl ?_
 refine nxA ?_
 refine lnA 1 fun hl5=>?_
 refine a_seq ?_
 refine Zcm (m:=5) ?_
 refine Yu tb hJ [0,2,3,1003] [_,_,_,.fn 190 [.ptr [ZdW bl],.ptr [Zg us],.ptr [Xc ap]]] [3] U4 rfl ⟨iFo hS hJ (ZlO hJ bl us ap) ZrV,trivial⟩ ?_
 refine nxA ?_
 refine ZpQ ?_
 refine atw (fun h=>ZcJ (p:=(∀ x∈([]:List Pr),Zfc wd x=false)) (fun x hx=>by cases hx) h) ?_
 refine Znw (m:=5) (κ:=Unit) (μ:=Empty) (σ:= {q:Pr // ZjG bl ap us wd=some q}) (Zi1 hJ bl us ap hbl) ZrL hJ hS hJ0 Zy (fun pre _=>[OB.fct (∀ x∈pre,Zfc wd x=false),OB.var b2 [lB false],OB.var b1 [lS (⟨#[]⟩:BA),lS (⟨#[]⟩:BA)]]) (fun q':Empty=>undef) (fun q'=>[]) (fun s'=>[OB.var b1 [lS (s'.1.a),lS (s'.1.b)],OB.var b2 [lB true]]) () (fun x9=>.agg (prC x9)) (fun x9=>[(11,.ptr (prC x9)),(10,.ptr [Xc z3.1]),(9,.at b2 0),(8,.at b1 0)]) (lb rfl) Tryz.func147 (fun _ _ x hx=>Zgu (Zth hus hx).1 (Zth hus hx).2) ?_ ?_ ?_ ?_ ?_ ?_ ?_
 · exact fun a w h=>Znr (h.get 3 rfl)
 rintro m9 l9 R' pre x9 _ K9 hK9
 refine ZE (XZ (cs:=prC x9) ZcA rfl rfl rfl (lb rfl) rfl rfl rfl (by decide) (m:=0) rfl rfl (fun a w h=>Zp hS _ h.keep h.x _ (Nat.le_refl _)) (fun a w h w' hk'=>Yz hJ _ _ hk' h.x) ?_)
 refine seK [0,2,3,4] U4 rfl ?_
 exact hK9
 rintro m9 l9 R' pre x9 _ hpre
 refine Zs7 fun hF=>?_
 have r1_:∀ x∈pre,Zfc wd x=false:=hF
 refine Zc (ZG tb hJ [0,1,2,3,1007] [_,_,.tup [.int (bsN z3.1 x9:Nat),.bool (decide (x9∈z3.1))],_,_,_,_,_] [2] U5 rfl ⟨iFo hS hJ (p_bsP hJ z3.1 x9 174 [] (fun x' y'=>(ZnX hJ x' y').r) (ZrT) (z3.2.1) (by have:=z3.2.2.2;omega)) ZrU,trivial⟩ ?_)
 refine qso tb hJ [0,1,2,3,1008] U9 U5 ?_
 refine cj 4 (fun hb1=>?_) fun hb1=>?_
 have e8:Zfc wd x9=true:=(ZtK z3.2).symm.trans hb1
 refine tsq ?_
 refine snK 1 tb rfl ?_
 refine kw pm1 ?_
 refine ZD (b:=b1) (off:=0) (es:=[_,_]) (news:=[_,_]) hJ hJ0 YK rfl rfl rfl (lb rfl) rfl (fun a w h=>⟨(h.get 4 rfl),(h.get 0 rfl)⟩) ?_
 refine kw pm1 ?_
 refine Yc (b:=b2) (off:=0) (es:=[_]) hJ hJ0 ZaA rfl rfl rfl (lb rfl) rfl (fun a w h=>⟨(h.get 3 rfl),(Rel.of_lit (.bool true))⟩) ?_
 refine seK [3,4] [_,_] rfl ?_
 refine nx (Ze (kw pm1 ?_))
 exact fun a w h=>⟨⟨x9,Zwm hpre r1_ e8⟩,h.keep,h.x⟩
 have e8:Zfc wd x9=false:=(ZtK z3.2).symm.trans hb1
 refine Zb (kw (fun h=>ZcJ (p:=(∀ x∈(pre++[x9]),Zfc wd x=false)) (ZqL r1_ e8) h) ?_)
 exact fun a w h=>⟨(),h.keep,h.x⟩
 rintro hfl _ D
 refine kw pm1 ?_
 refine Zm4 fun hF=>?_
 have r1_:∀ x∈(Zcf bl ap us),Zfc wd x=false:=hF
 have e9:ZjG bl ap us wd=none:=ZsT r1_
 refine nxAD (m:=5) ?_
 refine ZtB ?_
 refine Zo0 ?_
 refine sy (.agg (prC (⟨⟨#[]⟩,⟨#[]⟩⟩:Pr))) (fun h=>Yh (ps:=[]) (us:=[.string ⟨#[]⟩,.string ⟨#[]⟩]) Zf7 rfl (by simp) Zdd rfl (YB (.lit _ (Nat.zero_le _)) (YB (.lit _ (Nat.zero_le _)) ZJ)) h.x) ?_
 refine kw pm2 ?_
 refine ZD (b:=b1) (off:=0) (es:=[_,_]) (news:=[_,_]) hJ hJ0 YK rfl rfl rfl (lb rfl) rfl (fun a w h=>⟨(h.get 3 rfl),(h.get 0 rfl)⟩) ?_
 refine kw pm2 ?_
 refine Yc (b:=b2) (off:=0) (es:=[_]) hJ hJ0 ZaA rfl rfl rfl (lb rfl) rfl (fun a w h=>⟨(h.get 2 rfl),(Rel.of_lit (.bool false))⟩) ?_
 refine seK [2,3] [_,_] rfl ?_
 refine nxD ?_
 refine dtw pm2 ?_
 refine d_ret ?_
 refine outD hJ hJ0 ?_
 refine kw pm1 ?_
 exact fun a w h=>Zoo (m:=1) (q:=0) rfl YN Zn9 h rfl rfl rfl (show(_:List CD)=[lS ((ZdR bl ap us wd).a),lS ((ZdR bl ap us wd).b)]from by first | rw[Zg5 e9] | rw[Zg7 e9] | rw[Zg4 s'.2] | rw[Zg6 s'.2]) (eB (by first | rw[Zg5 e9] | rw[Zg7 e9] | rw[Zg4 s'.2] | rw[Zg6 s'.2]))
 rintro s' D
 refine outD hJ hJ0 ?_
 exact fun a w h=>Zoo (m:=2) (q:=1) rfl YN Zn9 h rfl rfl rfl (show(_:List CD)=[lS ((ZdR bl ap us wd).a),lS ((ZdR bl ap us wd).b)]from by first | rw[Zg5 e9] | rw[Zg7 e9] | rw[Zg4 s'.2] | rw[Zg6 s'.2]) (eB (by first | rw[Zg5 e9] | rw[Zg7 e9] | rw[Zg4 s'.2] | rw[Zg6 s'.2]))
 · exact fun v h=>by cases h
 · exact fun q=>q.elim
theorem ZuM {J:World→Prop} (hJ:Stab J) (v:Value) (sk:List (List BA)):FnM (ι:=Unit) Tryz.prog J 148 [] [.lit v] [OB.row v 22 1 (sk.map Zr)] (fun _=>.lit (Ze3 v)) (fun _=>[OB.clp (Ze3 v) (sk.map Zr)]):=p_Clip hJ v _ _
theorem Zuy {J:World→Prop} (hJ:Stab J) (b:Nat) (d:Db) (f:Fr) (nm:Value) (xs:List Itm) (vs:Value) (vt:Value) (n:Nat) (kn:Bool) (y1:Int) (y2:Int) (sk:List (List BA)) (t:List BA) (hb:sk.length≤4000):FnM (ι:=Value) Tryz.prog J 113 [] [.at b 0,.rd (Zg t)] [OB.var b (mkM d f nm xs vs vt n kn y1 y2),OB.clp vs (sk.map Zr)] (fun _=>.tup []) (fun i'=>[OB.var b (mkC d f [.lit nm,QF xs,.lit (i'),.lit vt,lI (n:Int),lB kn,lI y1,lI y2]),OB.row i' 22 1 ((sk++[t]).map Zr)]):=by
 refine Yt (N:=14) Tryz.func113 rfl rfl (lb rfl) fun S w0 R hS hJ0 hH=>?_
 refine YA (B:=So J S w0 14 (OB.var b (mkM d f nm xs vs vt n kn y1 y2)::OB.clp vs (sk.map Zr)::R) [(0,.at b 0),(1,.rd (Zg t))]) ?_ fun a w h=>h
 refine ln 1 fun hl1=>?_
 refine ZE (snK 2 tb rfl ?_)
 refine sy (.at b 0) (fun h=>ZA rfl (h.get 0 rfl) h.x) ?_
 refine sy (.at b 13) (fun h=>Zw YQ rfl (h.get 0 rfl) h.x) ?_
 refine sy (.lit vs) (fun h=>Zz ZaE rfl (Zi h.x (mo 0 rfl)) (h.get 0 rfl) rfl h.x) ?_
 refine snK 1 tb rfl ?_
 refine sy (.rd (Yg ([t]))) (fun h=>YD ZH Za8 rfl (h.get 0 rfl) (Zp hS _ h.keep h.x _ (Nat.le_refl _)) (jo hJ h.x)) ?_
 refine kw pm1 ?_
 refine Zlw (f:=Zr) (m:=2) (s:=8) sk ([t]) (fun _=>rfl) QZ hJ rfl rfl rfl (lb rfl) rfl rfl (fun a w h=>(h.get 0 rfl)) (by simp) sfz sfz fun v1=>?_
 refine sy (.at b 0) (fun h=>ZA rfl (h.get 7 rfl) h.x) ?_
 refine sy (.at b 13) (fun h=>Zw YQ rfl (h.get 0 rfl) h.x) ?_
 refine kw pm1 ?_
 refine Yc (b:=b) (off:=13) (cs:=(mkM d f nm xs vs vt n kn y1 y2)) (es:=(mkM d f nm xs v1 vt n kn y1 y2)) hJ hJ0 ZbE rfl rfl rfl (lb rfl) rfl (fun a w h=>⟨(h.get 0 rfl),(h.get 2 rfl)⟩) ?_
 refine seK [3] [_] rfl ?_
 refine kw (ob1 (congrArg (fun z'=>OB.row v1 22 1 ((z').map Zr)) (show(sk++([t]))=(sk++[t])from by first | rfl | grind))) ?_
 exact fun a w h=>Qo  v1 rfl h rfl
theorem p_use {J:World→Prop} (hJ:Stab J) (b:Nat) (d:Db) (f:Fr) (nm:Value) (xs:List Itm) (vs:Value) (vt:Value) (n:Nat) (kn:Bool) (y1:Int) (y2:Int) (sk:List (List BA)) (x:Itm) (gf:Fr) (hg:ge d.frames x.number.toNat=gf) (hn:0≤x.number) (hn2:x.number<d.frames.length) (hsk:∀ t∈sk,1≤t.length∧t.length≤2000) (hskl:sk.length≤2000) (hh:gf.hyps.length≤2000) (hf:∀ h∈gf.hyps,h.floating=true→h.text.length=2) (hwd:f.wide.length*32≤140737488351232):FnP (ι:= {q':Value×List (List BA) // Zdh d.vars f.wide gf sk= .ok q'.2}) (κ:= {c:Int // Zdh d.vars f.wide gf sk= .error c}) Tryz.prog J 114 [] [.at b 0,.agg (itC x)] [OB.var b (mkM d f nm xs vs vt n kn y1 y2),OB.row vs 22 1 (sk.map Zr)] (fun _=>.tup []) (fun i'=>[OB.var b (mkC d f [.lit nm,QF xs,.lit (i'.1.1),.lit vt,lI (n:Int),lB kn,lI y1,lI y2]),OB.row i'.1.1 22 1 ((i'.1.2).map Zr)]) (fun k'=>flV k'.1) (fun _=>[OB.var b (mkM d f nm xs vs vt n kn y1 y2),OB.row vs 22 1 (sk.map Zr)]):=by
 refine QU (N:=155) Tryz.func114 rfl rfl (lb rfl) fun S w0 R hS hJ0 hH=>?_
 refine YA (B:=So J S w0 155 (OB.var b (mkM d f nm xs vs vt n kn y1 y2)::OB.row vs 22 1 (sk.map Zr)::R) [(0,.at b 0),(1,.agg (itC x))]) ?_ fun a w h=>h
 refine ZG tb hJ [0,1000] [.ptr (itC x)] [0] [_,_] rfl ⟨fun _ _ hk hx hl _=>Yq rfl (hl.env 1 1 _ rfl rfl) (Zp hS _ hk hx _ (Nat.le_refl _)) (jo hJ hx),trivial⟩ ?_
 refine Zf (Yu tb hJ [0,1004,1008] [_,.at b 0,.at b 0,.at b 2,.rd (ZfP d.frames),_,_,.ptr (frC (ge d.frames x.number.toNat)),_] [1,2,3,4,7] U3 rfl ⟨fun _ _ _ hx hl _=>ZA rfl (hl.D 0 16 rfl rfl) hx,fun _ _ _ hx hl _=>Zw ZfQ rfl (hl.D 1 17 rfl rfl) hx,fun _ _ _ hx hl _=>Zw QG rfl (hl.D 2 18 rfl rfl) hx,fun _ _ _ hx hl _=>Zz Zey rfl (Zi hx (mo 0 rfl)) (hl.D 3 19 rfl rfl) rfl hx,iIz ZS,trivial⟩ ?_)
 refine kw (sa 2 rfl (show(.ptr (frC (ge d.frames x.number.toNat)):AV)= .ptr (frC gf)from by rw[hg])) ?_
 refine nx (ln 1 fun hl1=>?_)
 refine ZoI tb hJ [0,2,1011] [_,.at b 0,.at b 13,.lit vs,.int (sk.length:Nat),_,_,_,_,.int (gf.hyps.length:Nat),.int ((sk.length:Int)-(gf.hyps.length:Int)),_] [1,2,3,4,9,10] U3 rfl ⟨fun _ _ _ hx hl _=>ZA rfl (hl.D 0 24 rfl rfl) hx,fun _ _ _ hx hl _=>Zw YQ rfl (hl.D 1 25 rfl rfl) hx,fun _ _ _ hx hl _=>Zz ZaE rfl (Zd6 hx (mo 0 rfl)) (hl.D 2 26 rfl rfl) rfl hx,fun _ _ _ hx hl _=>ZaD Qy rfl (Qn hS hx (mo 1 rfl) (hl.D 3 27 rfl rfl)) hx,Z2 Zx,Zu8,trivial⟩ ?_
 refine Zf (qso tb hJ [0,1,2,1001] [_,_] U4 ?_)
 refine cj 3 (fun hb1=>?_) fun hb1=>?_
 ·
  try simp at hb1
  refine ZE (Qk (O:=[]) (R:=(OB.var b (mkM d f nm xs vs vt n kn y1 y2)::OB.row vs 22 1 (sk.map Zr)::R)) (QO hJ (c:=(23:Int)) ) Y9 rfl rfl rfl (lb rfl) hS hJ0 Zy (fun a w h=>(Za (Rel.of_lit (.int .i64 23)) Zh)) (fun _=>?_) (fun i=>i.elim))
  exact fun a w h=>pnP (⟨23,ZtZ (by omega)⟩: {c:Int // Zdh d.vars f.wide gf sk= .error c}) rfl a w h
 ·
  try simp at hb1
  refine tw (sa 2 rfl (show(.int ((sk.length:Int)-(gf.hyps.length:Int)):AV)= .int ((sk.length-gf.hyps.length):Nat)from congrArg AV.int (by omega))) ?_
  refine Zb (nx (ZG tb hJ [0,1,2,1006] [_,.at b 0,.at b 13,.lit vs,_,.lit (ZfB vs (sk.length-gf.hyps.length) 1),_] [1,2,3,5] U4 rfl ⟨fun _ _ _ hx hl _=>ZA rfl (hl.D 0 38 rfl rfl) hx,fun _ _ _ hx hl _=>Zw YQ rfl (hl.D 1 39 rfl rfl) hx,fun _ _ _ hx hl _=>Zz ZaE rfl (Zi hx (mo 0 rfl)) (hl.D 2 40 rfl rfl) rfl hx,fun _ _ _ hx hl _=>Zhx (lo:=(sk.length-gf.hyps.length)) ZH rfl (Zi hx (mo 1 rfl)) (hl.D 3 41 rfl rfl) (hl.D 4 42 rfl rfl) (by rw[List.length_map];exact sfz) hx,trivial⟩ ?_))
  refine qso tb hJ [0,1,2,3,1000] [_] U5 ?_
  refine Zf (ZG tb hJ (r5 [1003,1004,1005]) [_,_,_,_,.int (gf.hyps.length:Nat),_] [4] U8 rfl ⟨Z2 Zx,trivial⟩ ?_)
  refine ln 5 fun hl2=>?_
  refine Zc (tw (YV 161 2 hJ) ?_)
  refine lpo (ι:=Nat×Value×(List Bd)) (fun(k,_,bs)=>(k≤gf.hyps.length)∧(bs=YU gf.hyps sk (sk.length-gf.hyps.length) k)∧(∀ j,j<k→ZeG gf.hyps sk (sk.length-gf.hyps.length) j=true)) (fun(_,wv,bs)=>(OB.row wv 161 2 (bs.map bdC)::OB.var b (mkM d f nm xs vs vt n kn y1 y2)::OB.row vs 22 1 (sk.map Zr)::R)) (fun(k,wv,_)=>[(49,.int (k:Nat)),(7,.lit wv)]) (fun(k,_,_)=>gf.hyps.length-k) [0,1,2,3,5,6,7,4] U6 (0,(.slice none 0 0),([]:List Bd)) ⟨Nat.zero_le _,rfl,fun j hj=>by omega⟩ ?_
  rintro⟨k,wv,bs⟩ ⟨f1_1,f1_2,f1_3⟩
  refine qso tb hJ (r8 [1000]) [_] U9 ?_
  refine cjS 8 (fun hb2=>?_) fun hb2=>?_
  ·
   try simp at hb2
   refine Zb (nx (Zf (Zc (tsq ?_))))
   refine snK 1 tb rfl ?_
   refine sy (.ptr (hyC (ge gf.hyps k))) (fun h=>ZO (i:=(k:Int)) Zq rfl (h.get 5 rfl) (h.get 7 rfl) (Int.natCast_nonneg _) (ZU (xs:=gf.hyps) (k:=k) sfz) rfl h.x) ?_
   refine snK 1 tb rfl ?_
   refine Z4 YJ hJ rfl rfl rfl (lb rfl) fun b3=>?_
   refine snK 1 tb rfl ?_
   refine ZD (b:=b3) (off:=0) (es:=U3) (news:=U3) hJ hJ0 YL rfl rfl rfl (lb rfl) rfl (fun a w h=>⟨(h.get 1 rfl),(h.get 2 rfl)⟩) ?_
   refine kw (fun h=>YO hS h (m:=1) (s:=9) rfl) ?_
   refine seK [0,1,5,6,7,8,9,10,11,12] U10 rfl ?_
   refine nx (Zf (qso tb hJ [0,1,2,3,4,5,6,7,8,9,1002] U3 [_,_,_,_,_,_,_,_,_,_,_] ?_))
   refine cj 10 (fun hb3=>?_) fun hb3=>?_
   ·
    try simp at hb3
    refine Zt (nx (Yu tb hJ [2,3,4,5,6,7,9,1001] [.int (k+1:Nat),_] [0] U8 rfl ⟨Ya,trivial⟩ ?_))
    exact YH (k+1,wv,bs) (r6 [7,6]) ⟨by omega,by rw[Zdb,←f1_2];simp[ZpK,hb3],ZK f1_3 (by simp[ZeG,hb3])⟩
   ·
    try simp at hb3
    have e3:(ge gf.hyps k).text.length=2:=hf _ (Zv (by omega)) (by simpa using hb3)
    have e4:=hsk _ (Zv (xs:=sk) (k:=sk.length-gf.hyps.length+k) (by omega))
    refine Zb (nx (Zf (ZG tb hJ [0,1,2,3,4,5,6,7,8,9,1003,1007,1010] [_,_,.lit (XG vs (((sk.length-gf.hyps.length)+k)*1)),.rd (Zg (ge sk ((sk.length-gf.hyps.length)+k))),.ptr [lS (ge (ge sk ((sk.length-gf.hyps.length)+k)) 0)],_,_,_,.ptr [lS (ge ((ge gf.hyps k).text) 0)],_,_] [2,3,4,8] [_,_,_,_,_,_,_,_,_,_,_,_,_] rfl ⟨fun _ _ _ hx hl _=>ZaV (lo:=(sk.length-gf.hyps.length)) (i:=(k:Int)) ZH rfl (Zi hx (mo 2 rfl)) (hl.D 0 57 rfl rfl) (hl.D 1 58 rfl rfl) (Int.natCast_nonneg _) (by rw[List.length_map];exact sfz) hx,fun _ _ _ hx hl _=>Qe (i:=((sk.length-gf.hyps.length)+k)) XI rfl (Zi hx (mo 2 rfl)) (hl.D 2 59 rfl rfl) (Q4 (xs:=sk) (k:=((sk.length-gf.hyps.length)+k)) sfz) hx,iIx (k:=0) Zd,iIx (k:=0) Zd,trivial⟩ ?_)))
    refine ln 10 fun hl3=>?_
    refine ln 11 fun hl4=>?_
    refine cj 12 (fun hb4=>?_) fun hb4=>?_
    ·
     try simp at hb4
     have e5:ZeG gf.hyps sk (sk.length-gf.hyps.length) k=false:=by simp[ZeG,hb3,hb4]
     refine ZE (Qk (O:=[]) (R:=(OB.row wv 161 2 (bs.map bdC)::OB.var b (mkM d f nm xs vs vt n kn y1 y2)::OB.row vs 22 1 (sk.map Zr)::R)) (QO hJ (c:=(24:Int)) ) Y9 rfl rfl rfl (lb rfl) hS hJ0 Zy (fun a w h=>(Za (Rel.of_lit (.int .i64 24)) Zh)) (fun _=>?_) (fun i=>i.elim))
     refine kw ZM ?_
     exact fun a w h=>pnP (⟨24,ZtY (by omega) (j:=k) (by omega) e5⟩: {c:Int // Zdh d.vars f.wide gf sk= .error c}) rfl a w h
    ·
     try simp at hb4
     refine Zb (nx (fun a w h=>X1 (OB.var b (mkM d f nm xs vs vt n kn y1 y2)::OB.row vs 22 1 (sk.map Zr)::R) (γ:=Value) (fun ix'=>([.lit wv,.ptr [Zg ((ge gf.hyps k).text)],.rd (Zg ((ge gf.hyps k).text)),.ptr [lS (ge ((ge gf.hyps k).text) 1)],.str (ge ((ge gf.hyps k).text) 1),.lit (ZfB vs (sk.length-gf.hyps.length) 1),.int (k:Nat),.lit (XG vs (((sk.length-gf.hyps.length)+k)*1)),.rd (Zg (ge sk ((sk.length-gf.hyps.length)+k))),.rd (Zg ((ge sk ((sk.length-gf.hyps.length)+k)).drop 1)),.agg (bdC (⟨(ge ((ge gf.hyps k).text) 1),(ge sk ((sk.length-gf.hyps.length)+k)).drop 1⟩:Bd)),.rd (ZdW ([(⟨(ge ((ge gf.hyps k).text) 1),(ge sk ((sk.length-gf.hyps.length)+k)).drop 1⟩:Bd)])),.any,.any]:List AV).getD ix' .any) (fun _=>true) [(0,fun(g:Value)=>.at b 0),(4,fun(g:Value)=>.ptr (frC gf)),(5,fun(g:Value)=>.int ((sk.length-gf.hyps.length):Nat)),(6,fun(g:Value)=>.lit (ZfB vs (sk.length-gf.hyps.length) 1)),(47,fun(g:Value)=>.rd (Xm gf.hyps)),(48,fun(g:Value)=>.int (gf.hyps.length:Nat)),(49,fun(g:Value)=>.int (k:Nat)),(7,fun(g:Value)=>.lit g)] (fun(j':Nat) (g:Value)=>match j' with | 0=>(OB.row wv 161 2 (bs.map bdC)::OB.var b (mkM d f nm xs vs vt n kn y1 y2)::OB.row vs 22 1 (sk.map Zr)::R) | 1=>(OB.row g 161 2 ((bs++([(⟨(ge ((ge gf.hyps k).text) 1),(ge sk ((sk.length-gf.hyps.length)+k)).drop 1⟩:Bd)])).map bdC)::OB.var b (mkM d f nm xs vs vt n kn y1 y2)::OB.row vs 22 1 (sk.map Zr)::R) | _=>(OB.row g 161 2 ((bs++([(⟨(ge ((ge gf.hyps k).text) 1),(ge sk ((sk.length-gf.hyps.length)+k)).drop 1⟩:Bd)])).map bdC)::OB.var b (mkM d f nm xs vs vt n kn y1 y2)::OB.row vs 22 1 (sk.map Zr)::R)) (fun(k':Nat) (g:Value)=>match k' with | 0=>g | 1=>g | _=>undef) [12,13] 2 (.slice none 0 0) (fun _=>rfl) h hJ YC rfl rfl rfl rfl rfl rfl hsb ⟨?_,⟨?_,⟨?_,⟨?_,⟨?_,⟨?_,⟨?_,⟨?_,⟨?_,⟨?_,⟨?_,⟨?_,⟨?_,⟨?_,trivial⟩⟩⟩⟩⟩⟩⟩⟩⟩⟩⟩⟩⟩⟩ ⟨?e13_1_0,⟨?e13_1_1,trivial⟩⟩ ⟨.old 2 0 _ rfl rfl,⟨.old 3 4 _ rfl rfl,⟨.old 4 5 _ rfl rfl,⟨.old 5 6 _ rfl rfl,⟨.old 6 47 _ rfl rfl,⟨.old 7 48 _ rfl rfl,⟨.old 8 49 _ rfl rfl,⟨.eff 1 13 7 (fun(g:Value)=>g) rfl rfl (fun _=>rfl) (fun _ _ hx=>Zan (hx.2.1 _ (mo 0 rfl))),trivial⟩⟩⟩⟩⟩⟩⟩⟩ ?n13_1))
     exact oX rfl fun hx hl=>Z5 rfl (hl.env 9 7 _ rfl rfl) hx
     exact oX rfl fun hx hl=>ZQ Zah rfl (hl.env 0 9 _ rfl rfl) hx
     exact oX rfl fun hx hl=>ZI XI rfl (hl.D 1 70 rfl rfl) hx
     exact oX rfl fun hx hl=>ZO (i:=((1:Nat):Int)) Zd rfl (hl.D 2 71 rfl rfl) (Rel.of_lit (.int .i64 1)) (Int.natCast_nonneg _) (ZU (xs:=(ge gf.hyps k).text) (k:=1) sfz) rfl hx
     exact oX rfl fun hx hl=>ZI QP rfl (hl.D 3 72 rfl rfl) hx
     exact oX rfl fun hx hl=>Z5 rfl (hl.env 5 6 _ rfl rfl) hx
     exact oX rfl fun hx hl=>Z5 rfl (hl.env 1 8 _ rfl rfl) hx
     exact fun _ O' hO'=>⟨rfl,fun _ _ _ hx hl _=>ZaV (lo:=(sk.length-gf.hyps.length)) (i:=(k:Int)) ZH rfl (Zi hx (hO' _ (mo 1 rfl))) (hl.D 5 74 rfl rfl) (hl.D 6 75 rfl rfl) (Int.natCast_nonneg _) (by rw[List.length_map];exact sfz) hx⟩
     exact fun _ O' hO'=>⟨rfl,fun _ _ _ hx hl _=>Qe (i:=((sk.length-gf.hyps.length)+k)) XI rfl (Zi hx (hO' _ (mo 1 rfl))) (hl.D 7 76 rfl rfl) (Q4 (xs:=sk) (k:=((sk.length-gf.hyps.length)+k)) sfz) hx⟩
     exact oX rfl fun hx hl=>Yy (ys:=(ge sk ((sk.length-gf.hyps.length)+k)).drop 1) (lo:=1) (hi:=(ge sk ((sk.length-gf.hyps.length)+k)).length) (by rw[List.take_length]) Zd (fun _=>rfl) rfl (hl.D 8 77 rfl rfl) (Rel.of_lit (.int .i64 1)) rfl sfz sfz hx
     exact fun _ O' _=>⟨rfl,fun a _ _ hx hl _=>Xr (us:=[a.eval (.tmp 73),a.eval (.tmp 78)]) Zfa rfl (by simp) (Zk (hl.D 4 73 rfl rfl) (Zk (hl.D 9 78 rfl rfl) ZJ)) rfl hx⟩
     exact oY rfl fun hk hx hl=>Y7 Xy ZjL (by decide) rfl rfl (hl.D 10 79 rfl rfl) (Zp hS _ hk hx _ (Nat.le_refl _)) (jo hJ hx)
     exact Zn rfl
     exact Zn rfl
     case e13_1_0=>exact⟨_,rfl,rfl,rfl,rfl,fun _ _ w hk hx hl _=>ZB (Qp (f:=bdC) bs ([(⟨(ge ((ge gf.hyps k).text) 1),(ge sk ((sk.length-gf.hyps.length)+k)).drop 1⟩:Bd)]) (fun _=>rfl) Zfd hJ hJ0 rfl hk hx (hl.D 0 69 rfl rfl).lit (hl.D 11 80 rfl rfl) (by have:=Zec gf.hyps sk (sk.length-gf.hyps.length) k;rw[f1_2];simp;omega) (by have:=Zec gf.hyps sk (sk.length-gf.hyps.length) k;rw[f1_2];simp;omega)) fun v w' hp=>⟨v,rfl,fun k' hk'=>absurd hk' (Nat.not_lt_zero _),fun _=>rfl,hp⟩⟩
     case e13_1_1=>exact⟨_,rfl,rfl,rfl,rfl,fun g _ w hk hx _ hs=>ZB (Zbk (.inl rfl) (hs 0 12 _ 81 (by omega) rfl rfl rfl) hk hx) fun v w' hp=>⟨g,rfl,fun _ _=>rfl,fun _=>hp.1,hp.2⟩⟩
     clear a w h
     intro v6
     dsimp only[List.map]
     refine nx (Yu tb hJ (r6 [7,1001]) [.int (k+1:Nat),_] [0] U8 rfl ⟨Ya,trivial⟩ ?_)
     exact YH (k+1,v6,bs++([(⟨(ge ((ge gf.hyps k).text) 1),(ge sk ((sk.length-gf.hyps.length)+k)).drop 1⟩:Bd)])) (r6 [7,6]) ⟨by omega,by rw[Zdb,←f1_2];simp[ZpK,hb3],ZK f1_3 (by simp[ZeG,hb4])⟩
  ·
   try simp at hb2
   have e6:∀ j,j<gf.hyps.length→ZeG gf.hyps sk (sk.length-gf.hyps.length) j=true:=fun j hj=>f1_3 j (by omega)
   refine Zt (nx (Zf (tw (fun h=>ZN hS h (m:=7) (s:=7) rfl) ?_)))
   refine tw (sa 0 rfl (congrArg (fun z'=>AV.rd (ZdW z')) (show bs=(YU gf.hyps sk (sk.length-gf.hyps.length) gf.hyps.length)from by rw[f1_2,show k=gf.hyps.length by omega]))) ?_
   refine ZG tb hJ (r5 [1003,1004,1005]) [_,_,_,_,.int (gf.hyps.length:Nat),_] [4] U8 rfl ⟨Z2 Zx,trivial⟩ ?_
   refine ln 0 fun hl5=>?_
   refine Zc (lpo (ι:=Nat) (fun j=>(j≤gf.hyps.length)∧(∀ i,i<j→Zhf gf.hyps sk (sk.length-gf.hyps.length) (YU gf.hyps sk (sk.length-gf.hyps.length) gf.hyps.length) i=true)) (fun _=>(OB.var b (mkM d f nm xs vs vt n kn y1 y2)::OB.row vs 22 1 (sk.map Zr)::R)) (fun j=>[(88,.int (j:Nat))]) (fun j=>gf.hyps.length-j) (r8 []) U7 0 ⟨Nat.zero_le _,fun j hj=>by omega⟩ ?_)
   rintro j ⟨f2_1,f2_2⟩
   refine qso tb hJ (r8 [1000]) [_] U9 ?_
   refine cjS 8 (fun hb5=>?_) fun hb5=>?_
   ·
    try simp at hb5
    refine Zb (nx (Zf (Zc (tsq ?_))))
    refine snK 1 tb rfl ?_
    refine sy (.ptr (hyC (ge gf.hyps j))) (fun h=>ZO (i:=(j:Int)) Zq rfl (h.get 6 rfl) (h.get 8 rfl) (Int.natCast_nonneg _) (ZU (xs:=gf.hyps) (k:=j) sfz) rfl h.x) ?_
    refine snK 1 tb rfl ?_
    refine Z4 YJ hJ rfl rfl rfl (lb rfl) fun b7=>?_
    refine snK 1 tb rfl ?_
    refine ZD (b:=b7) (off:=0) (es:=U3) (news:=U3) hJ hJ0 YL rfl rfl rfl (lb rfl) rfl (fun a w h=>⟨(h.get 1 rfl),(h.get 2 rfl)⟩) ?_
    refine kw (fun h=>YO hS h (m:=1) (s:=11) rfl) ?_
    refine seK [0,1,5,6,7,8,9,10,11,12] U10 rfl ?_
    refine nx (ZG tb hJ [2,3,4,5,6,7,8,9,1013] [_,_,_,_,_,_,_,_,_,.lit (XG vs (((sk.length-gf.hyps.length)+j)*1)),.rd (Zg (ge sk ((sk.length-gf.hyps.length)+j))),.bool (ZpY ((ge gf.hyps j).text) (YU gf.hyps sk (sk.length-gf.hyps.length) gf.hyps.length) (ge sk ((sk.length-gf.hyps.length)+j))),_,_] [9,10,11] U9 rfl ⟨fun _ _ _ hx hl hc=>ZaV (lo:=(sk.length-gf.hyps.length)) (i:=(j:Int)) ZH rfl (Zi hx (mo 1 rfl)) (hl.D 7 100 rfl hc) (hl.D 8 101 rfl hc) (Int.natCast_nonneg _) (by rw[List.length_map];exact(by have hc':((!((ge gf.hyps j).floating))==true)=true:=hc;(try simp at hc');(first | omega | (simp;omega) | grind[Zv]))) hx,fun _ _ _ hx hl hc=>Qe (i:=((sk.length-gf.hyps.length)+j)) XI rfl (Zi hx (mo 1 rfl)) (hl.D 9 102 rfl hc) (Q4 (xs:=sk) (k:=((sk.length-gf.hyps.length)+j)) (by have hc':((!((ge gf.hyps j).floating))==true)=true:=hc;(try simp at hc');(first | omega | (simp;omega) | grind[Zv]))) hx,iFo hS hJ (p_Fits hJ ((ge gf.hyps j).text) (YU gf.hyps sk (sk.length-gf.hyps.length) gf.hyps.length) (ge sk ((sk.length-gf.hyps.length)+j))) Zse,trivial⟩ ?_)
    refine cj 8 (fun hb6=>?_) fun hb6=>?_
    ·
     try simp at hb6
     have e7:Zhf gf.hyps sk (sk.length-gf.hyps.length) (YU gf.hyps sk (sk.length-gf.hyps.length) gf.hyps.length) j=false:=by simp[Zhf];simpa using hb6
     refine ZE (Qk (O:=[]) (R:=(OB.var b (mkM d f nm xs vs vt n kn y1 y2)::OB.row vs 22 1 (sk.map Zr)::R)) (QO hJ (c:=(25:Int)) ) Y9 rfl rfl rfl (lb rfl) hS hJ0 Zy (fun a w h=>(Za (Rel.of_lit (.int .i64 25)) Zh)) (fun _=>?_) (fun i=>i.elim))
     exact fun a w h=>pnP (⟨25,ZtX (by omega) e6 (j:=j) (by omega) e7⟩: {c:Int // Zdh d.vars f.wide gf sk= .error c}) rfl a w h
    ·
     try simp at hb6
     refine Zb (nx (Yu tb hJ (r7 [1001]) [.int (j+1:Nat),_] [0] U8 rfl ⟨Ya,trivial⟩ ?_))
     exact YH (j+1) (r8 []) ⟨by omega,ZK f2_2 (by simp[Zhf];grind)⟩
   ·
    try simp at hb5
    have e8:∀ j,j<gf.hyps.length→Zhf gf.hyps sk (sk.length-gf.hyps.length) (YU gf.hyps sk (sk.length-gf.hyps.length) gf.hyps.length) j=true:=fun i hi=>f2_2 i (by omega)
    refine Zt (nx (ZG tb hJ [0,1,2,3,1003,1007,1009,1010] [_,_,_,_,_,.tup [.rd (Zg (if ZaS (ZW (YU gf.hyps sk (sk.length-gf.hyps.length) gf.hyps.length)) gf.text 2000 then XN (ZW (YU gf.hyps sk (sk.length-gf.hyps.length) gf.hyps.length)) gf.text else [])),.int (if ZaS (ZW (YU gf.hyps sk (sk.length-gf.hyps.length) gf.hyps.length)) gf.text 2000 then 0 else 15)],_,_,_,_,_] [5] U8 rfl ⟨iFo hS hJ (Zn1 hJ gf.text (YU gf.hyps sk (sk.length-gf.hyps.length) gf.hyps.length) 2000 sfz (Zda (fun t ht=>(hsk t ht).2) (by omega))) Zsd,trivial⟩ ?_))
    refine ln 4 fun hl6=>?_
    refine ln 5 fun hl7=>?_
    refine Zf (qso tb hJ [0,1,2,3,6,1001] [_,_] U6 ?_)
    refine cj 5 (fun hb7=>?_) fun hb7=>?_
    ·
     try simp at hb7
     have e9:ZaS (ZW (YU gf.hyps sk (sk.length-gf.hyps.length) gf.hyps.length)) gf.text 2000=false:=by cases h9:ZaS (ZW (YU gf.hyps sk (sk.length-gf.hyps.length) gf.hyps.length)) gf.text 2000<;>simp_all
     refine ZE (Qk (O:=[]) (R:=(OB.var b (mkM d f nm xs vs vt n kn y1 y2)::OB.row vs 22 1 (sk.map Zr)::R)) (QO hJ (c:=(15:Int)) ) Y9 rfl rfl rfl (lb rfl) hS hJ0 Zy (fun a w h=>(Za (Rel.of_lit (.int .i64 15)) Zh)) (fun _=>?_) (fun i=>i.elim))
     exact fun a w h=>pnP (⟨15,Zt0 (by omega) e6 e8 e9⟩: {c:Int // Zdh d.vars f.wide gf sk= .error c}) rfl a w h
    ·
     try simp at hb7
     have e9:ZaS (ZW (YU gf.hyps sk (sk.length-gf.hyps.length) gf.hyps.length)) gf.text 2000=true:=by cases h9:ZaS (ZW (YU gf.hyps sk (sk.length-gf.hyps.length) gf.hyps.length)) gf.text 2000<;>simp_all
     refine Zb (nx (Zf (Zf (fun a w h=>Y0 (γ:=Nat) (fun ix'=>([.rd (ZdW (YU gf.hyps sk (sk.length-gf.hyps.length) gf.hyps.length)),.ptr (frC gf),.ptr (frC gf),.ptr [Xc gf.apart,Zg gf.text,Xm gf.dummies,Xc gf.wide,Zg gf.proof],.rd (Xc gf.apart),.at b 0,.at b 0,.at b 0,.at b 1,.rd (Zg d.vars),.at b 0,.at b 0,.at b 3,.at b 9,.rd (Xc f.wide),.tup [.agg (prC (ZdR (YU gf.hyps sk (sk.length-gf.hyps.length) gf.hyps.length) gf.apart d.vars f.wide)),.bool (ZdV (YU gf.hyps sk (sk.length-gf.hyps.length) gf.hyps.length) gf.apart d.vars f.wide)],.tup [.agg (prC (ZdR (YU gf.hyps sk (sk.length-gf.hyps.length) gf.hyps.length) gf.apart d.vars f.wide)),.bool (ZdV (YU gf.hyps sk (sk.length-gf.hyps.length) gf.hyps.length) gf.apart d.vars f.wide)],.agg (prC (ZdR (YU gf.hyps sk (sk.length-gf.hyps.length) gf.hyps.length) gf.apart d.vars f.wide)),.bool (ZdV (YU gf.hyps sk (sk.length-gf.hyps.length) gf.hyps.length) gf.apart d.vars f.wide),.any,.any,.bool (ZdV (YU gf.hyps sk (sk.length-gf.hyps.length) gf.hyps.length) gf.apart d.vars f.wide)]:List AV).getD ix' .any) (fun _=>true) [(0,fun(g:Nat)=>.at b 0),(5,fun(g:Nat)=>.int ((sk.length-gf.hyps.length):Nat)),(12,fun(g:Nat)=>.rd (Zg (if ZaS (ZW (YU gf.hyps sk (sk.length-gf.hyps.length) gf.hyps.length)) gf.text 2000 then XN (ZW (YU gf.hyps sk (sk.length-gf.hyps.length) gf.hyps.length)) gf.text else []))),(15,fun(g:Nat)=>.bool (ZdV (YU gf.hyps sk (sk.length-gf.hyps.length) gf.hyps.length) gf.apart d.vars f.wide))] (fun(j':Nat) (g:Nat)=>match j' with | 0=>(OB.var b (mkM d f nm xs vs vt n kn y1 y2)::OB.row vs 22 1 (sk.map Zr)::R) | 1=>(OB.var g [lS (⟨#[]⟩:BA),lS (⟨#[]⟩:BA)]::OB.var b (mkM d f nm xs vs vt n kn y1 y2)::OB.row vs 22 1 (sk.map Zr)::R) | _=>(OB.var g [lS ((ZdR (YU gf.hyps sk (sk.length-gf.hyps.length) gf.hyps.length) gf.apart d.vars f.wide).a),lS ((ZdR (YU gf.hyps sk (sk.length-gf.hyps.length) gf.hyps.length) gf.apart d.vars f.wide).b)]::OB.var b (mkM d f nm xs vs vt n kn y1 y2)::OB.row vs 22 1 (sk.map Zr)::R)) (fun(k':Nat) (g:Nat)=>match k' with | 0=>(.pointer (some ⟨g,0,none⟩)) | 1=>undef | _=>undef) [19,20] 2 0 (fun _=>rfl) h hJ YC rfl rfl rfl rfl rfl rfl hsb ⟨?_,⟨?_,⟨?_,⟨?_,⟨?_,⟨?_,⟨?_,⟨?_,⟨?_,⟨?_,⟨?_,⟨?_,⟨?_,⟨?_,⟨?_,⟨?_,⟨?_,⟨?_,⟨?_,⟨?_,⟨?_,⟨?_,trivial⟩⟩⟩⟩⟩⟩⟩⟩⟩⟩⟩⟩⟩⟩⟩⟩⟩⟩⟩⟩⟩⟩ ⟨?e24_2_0,⟨?e24_2_1,trivial⟩⟩ ⟨.old 1 0 _ rfl rfl,⟨.old 3 5 _ rfl rfl,⟨.old 4 12 _ rfl rfl,⟨.new 21 15 _ rfl rfl rfl,trivial⟩⟩⟩⟩ ?n24_2))))
     exact oX rfl fun hx hl=>Z5 rfl (hl.env 0 7 _ rfl rfl) hx
     exact oX rfl fun hx hl=>Z5 rfl (hl.env 2 4 _ rfl rfl) hx
     exact oX rfl fun hx hl=>Xw rfl (hl.D 1 123 rfl rfl) hx
     exact oX rfl fun hx hl=>ZQ ZfW rfl (hl.D 2 124 rfl rfl) hx
     exact oX rfl fun hx hl=>ZI Zks rfl (hl.D 3 125 rfl rfl) hx
     exact oX rfl fun hx hl=>Z5 rfl (hl.env 1 0 _ rfl rfl) hx
     exact oX rfl fun hx hl=>ZA rfl (hl.D 5 127 rfl rfl) hx
     exact oX rfl fun hx hl=>Zw ZfQ rfl (hl.D 6 128 rfl rfl) hx
     exact oX rfl fun hx hl=>Zw ZfY rfl (hl.D 7 129 rfl rfl) hx
     exact fun _ O' hO'=>⟨rfl,fun _ _ _ hx hl _=>Zz XI rfl (Zi hx (hO' _ (mo 0 rfl))) (hl.D 8 130 rfl rfl) rfl hx⟩
     exact oX rfl fun hx hl=>Z5 rfl (hl.env 1 0 _ rfl rfl) hx
     exact oX rfl fun hx hl=>ZA rfl (hl.D 10 132 rfl rfl) hx
     exact oX rfl fun hx hl=>Zw Zag rfl (hl.D 11 133 rfl rfl) hx
     exact oX rfl fun hx hl=>Zw ZfU rfl (hl.D 12 134 rfl rfl) hx
     exact fun _ O' hO'=>⟨rfl,fun _ _ _ hx hl _=>Zz Zks rfl (Zi hx (hO' _ (mo 0 rfl))) (hl.D 13 135 rfl rfl) rfl hx⟩
     exact oY rfl fun hk hx hl=>Zbw (Zq4 hJ (YU gf.hyps sk (sk.length-gf.hyps.length) gf.hyps.length) gf.apart d.vars f.wide (Zda (fun t ht=>(hsk t ht).2) (by omega)) (hwd)) Zsc rfl (Zp hS _ hk hx) (hx.1) (Za (hl.D 0 122 rfl rfl) (Za (hl.D 4 126 rfl rfl) (Za (hl.D 9 131 rfl rfl) (Za (hl.D 14 136 rfl rfl) Zh)))) (jo hJ hx)
     exact oX rfl fun hx hl=>Z5 rfl (hl.D 15 137 rfl rfl) hx
     exact oX rfl fun hx hl=>YS rfl (hl.D 16 121 rfl rfl) rfl hx
     exact oX rfl fun hx hl=>YS rfl (hl.D 16 121 rfl rfl) rfl hx
     exact Zn rfl
     exact Zn rfl
     exact oX rfl fun hx hl=>XC rfl (hl.D 18 139 rfl rfl) hx
     case e24_2_0=>exact⟨_,rfl,rfl,rfl,rfl,fun g _ w hk hx _ _=>ZB (Zbl XH hJ rfl hk hx) fun v w' ⟨g',hv,hp⟩=>⟨g',rfl,fun k' hk'=>absurd hk' (Nat.not_lt_zero _),fun _=>hv,hp⟩⟩
     case e24_2_1=>exact⟨_,rfl,rfl,rfl,rfl,fun g a w hk hx hl hs=>(by obtain⟨us2,hv2,hr3⟩:=Q0 (hl.D 17 138 rfl rfl);exact ZB (Xt (S':=S) (off:=0) (news:=[_,_]) (es:=[_,_]) (us:=us2) hJ hJ0 YK rfl hk hx (ZcM (hs 0 19 _ 14 (by omega) rfl rfl rfl)) (by rw[hv2];rfl) hr3 (lb rfl) rfl) fun v w' hp=>⟨g,rfl,fun _ _=>rfl,fun e=>(by cases e),hp⟩)⟩
     clear a w h
     intro b12
     dsimp only[List.map]
     refine kw ZM ?_
     refine nx (ln 2 fun hl8=>?_)
     refine qso tb hJ [0,1,2,1000] [_] U4 ?_
     refine cj 3 (fun hb8=>?_) fun hb8=>?_
     ·
      try simp at hb8
      have e10:ZdV (YU gf.hyps sk (sk.length-gf.hyps.length) gf.hyps.length) gf.apart d.vars f.wide=true:=by simpa using hb8
      refine ZE (Qk (O:=[]) (R:=(OB.var b (mkM d f nm xs vs vt n kn y1 y2)::OB.row vs 22 1 (sk.map Zr)::R)) (QO hJ (c:=(26:Int)) ) Y9 rfl rfl rfl (lb rfl) hS hJ0 Zy (fun a w h=>(Za (Rel.of_lit (.int .i64 26)) Zh)) (fun _=>?_) (fun i=>i.elim))
      exact fun a w h=>pnP (⟨26,ZtW (by omega) e6 e8 e9 e10⟩: {c:Int // Zdh d.vars f.wide gf sk= .error c}) rfl a w h
     ·
      try simp at hb8
      have e10:ZdV (YU gf.hyps sk (sk.length-gf.hyps.length) gf.hyps.length) gf.apart d.vars f.wide=false:=by simpa using hb8
      refine Zb (nx (tw pm1 ?_))
      refine tw (fun h=>List.map_take▸st_cut (m:=(sk.length-gf.hyps.length)) (by rw[List.length_map];exact sfz) h) ?_
      refine tsq ?_
      refine snK 2 tb rfl ?_
      refine sy (.at b 0) (fun h=>ZA rfl (h.get 0 rfl) h.x) ?_
      refine sy (.at b 13) (fun h=>Zw YQ rfl (h.get 0 rfl) h.x) ?_
      refine sy (.lit vs) (fun h=>Zz ZaE rfl (Zi h.x (mo 1 rfl)) (h.get 0 rfl) rfl h.x) ?_
      refine snK 1 tb rfl ?_
      refine sy (.lit (Zcn vs (sk.length-gf.hyps.length))) (fun h=>Zhz (m:=(sk.length-gf.hyps.length)) ZH rfl (Zi h.x (mo 0 rfl)) (by first | rfl | (rw[List.length_map];exact sfz)) (h.get 1 rfl) (h.get 0 rfl) h.x) ?_
      refine X0 (O:=[OB.row (Zcn vs (sk.length-gf.hyps.length)) 22 1 ((sk.take (sk.length-gf.hyps.length)).map Zr)]) (R:=(OB.var b (mkM d f nm xs vs vt n kn y1 y2)::R)) (ZuM hJ (Zcn vs (sk.length-gf.hyps.length)) (sk.take (sk.length-gf.hyps.length))) Zsb rfl rfl rfl (lb rfl) hS hJ0 Zy (fun a w h=>(Za (h.get 0 rfl) Zh)) fun _=>?_
      refine sy (.at b 0) (fun h=>ZA rfl (h.get 7 rfl) h.x) ?_
      refine sy (.at b 13) (fun h=>Zw YQ rfl (h.get 0 rfl) h.x) ?_
      refine kw pm1 ?_
      refine Yc (b:=b) (off:=13) (cs:=(mkM d f nm xs vs vt n kn y1 y2)) (es:=(mkC d f [.lit nm,QF xs,.lit (Ze3 (Zcn vs (sk.length-gf.hyps.length))),.lit vt,lI (n:Int),lB kn,lI y1,lI y2])) hJ hJ0 ZbE rfl rfl rfl (lb rfl) rfl (fun a w h=>⟨(h.get 0 rfl),(h.get 2 rfl)⟩) ?_
      refine seK [10,12] [_,_] rfl ?_
      refine nx (ZE (snK 2 tb rfl ?_))
      refine X0 (O:=[OB.var b (mkC d f [.lit nm,QF xs,.lit (Ze3 (Zcn vs (sk.length-gf.hyps.length))),.lit vt,lI (n:Int),lB kn,lI y1,lI y2]),OB.clp (Ze3 (Zcn vs (sk.length-gf.hyps.length))) ((sk.take (sk.length-gf.hyps.length)).map Zr)]) (R:=(R)) (Zuy hJ b d f nm xs (Ze3 (Zcn vs (sk.length-gf.hyps.length))) vt n kn y1 y2 (sk.take (sk.length-gf.hyps.length)) (if ZaS (ZW (YU gf.hyps sk (sk.length-gf.hyps.length) gf.hyps.length)) gf.text 2000 then XN (ZW (YU gf.hyps sk (sk.length-gf.hyps.length) gf.hyps.length)) gf.text else []) (by rw[List.length_take];omega)) Zg1 rfl rfl rfl (lb rfl) hS hJ0 Zy (fun a w h=>(Za (h.get 1 rfl) (Za (h.get 0 rfl) Zh))) fun z15=>?_
      refine seK [] [] rfl ?_
      exact fun a w h=>lvP (Qo  ⟨(z15,((sk.take (sk.length-gf.hyps.length))++[(if ZaS (ZW (YU gf.hyps sk (sk.length-gf.hyps.length) gf.hyps.length)) gf.text 2000 then XN (ZW (YU gf.hyps sk (sk.length-gf.hyps.length) gf.hyps.length)) gf.text else [])])),by rw[ZtV (by omega) e6 e8 e9 e10,e9];rfl⟩ rfl h rfl)
section
variable {n:Rn} {P:Program} {l:List Oper} {Q:Exit→Act→World→Prop}
theorem Zns {Pn:List PanicEntry→Act→World→Prop} {I:(Nat→Bool)→Act→World→Prop} {id:Nat} {draw:Bool} {a:Act} {w:World} (hP:∀ ch a w,Pn ch a w→Q (.panic ch) a w) (hm:P.follows .mixedOrders=true) (hback:Zcj l=true)
 (hstep:∀(Q:Exit→Act→World→Prop),(∀ ch a w,Pn ch a w→Q (.panic ch) a w)→∀(b:Nat→Bool) (a:Act) (w:World) (i:Nat) (o:Oper) (rest:List Oper),l[i]?=some o→b i=false→(∀ j∈ZY o,b j=true)→I b a w→(∀ a' w',I (Yi b i) a' w'→wpListIn n.F n.d P l.toArray Q rest a' w')→wpListIn n.F n.d P l.toArray Q (o::rest) a w)
 (hend:∀ a w,I (fun i=>decide (i<l.length)) a w→Q .normal a w) (h0:I (fun _=>false) a w) (hd:I (fun _=>false) a w.drew):(Code.region id l.toArray draw).wpIn n.F n.d P Q a w:=by
 have text:∀(r:List Oper) (k:Nat) (a:Act) (w:World),k+r.length=l.length→l.drop k=r→I (fun i=>decide (i<k)) a w→wpListIn n.F n.d P l.toArray Q r a w:=by
  intro r
  induction r with
  | nil=>
   intro k a w hl _ h
   simp only[List.length_nil,Nat.add_zero]at hl
   subst hl
   exact wpListIn_nil (hend _ _ h)
  | cons o r ih=>
   intro k a w hl hr h
   simp only[List.length_cons]at hl
   have hi:l[k]?=some o:=by
    have:(l.drop k)[0]?=some o:=by rw[hr];rfl
    simpa [List.getElem?_drop]using this
   refine hstep Q hP _ a w k o r hi (by simp) (fun j hj=>by have:=Za6 hback hi hj;simpa using this) h fun a' w' h'=>?_
   refine ih (k+1) a' w' (by omega) ?_ ?_
   · have:l.drop (k+1)=(l.drop k).drop 1:=by rw[List.drop_drop]
     rw[this,hr];rfl
   · have he:(fun i=>decide (i<k+1))=Yi (fun i=>decide (i<k)) k:=by
      funext i
      unfold Yi
      by_cases e:i=k
      · simp[e]
      · rw[if_neg e]
        congr 1
        apply propext
        omega
     rw[he];exact h'
 have fin:∀(d:Array Bool) (a:Act) (w:World),d.size=l.length→I (fun i=>d.getD i false) a w→Region.ready .any l.toArray d=[]→Q .normal a w:=fun d a w hl h hnil=>by
  have hall:=Zb0 hl hback hnil
  have he:(fun i=>d.getD i false)=fun i=>decide (i<l.length):=by
   funext i
   by_cases hi:i<l.length
   · simp[hall i hi,hi]
   · simp only[hi,decide_false]
     rw[Array.getD_eq_getD_getElem?,Array.getElem?_eq_none (by omega)]
     rfl
  rw[he]at h
  exact hend _ _ h
 have any:∀(fuel:Nat) (d:Array Bool) (a:Act) (w:World),d.size=l.length→ZeE d≤fuel→I (fun i=>d.getD i false) a w→wpAnyIn n.F n.d P .any l.toArray Q fuel d a w:=by
  intro fuel
  induction fuel with
  | zero=>
   intro d a w hl hf h
   have hnil:Region.ready .any l.toArray d=[]:=by
    cases hr:Region.ready .any l.toArray d with
    | nil=>rfl
    | cons x xs=>
     have hx:x∈Region.ready .any l.toArray d:=by rw[hr];simp
     have:=QT (mem_ready.1 hx).1
     omega
   exact⟨hnil,fin d a w hl h hnil⟩
  | succ fuel ih=>
   intro d a w hl hf h
   refine⟨fun hnil=>fin d a w hl h hnil,fun i hr=>?_⟩
   obtain⟨h1,o,ho,h2⟩:=mem_ready.1 hr
   have ho':l[i]?=some o:=by simpa using ho
   have hil:i<d.size:=by rw[hl];exact(List.getElem?_eq_some_iff.1 ho').1
   refine Q6 ho (hstep (Exit.then _ Q) (fun ch a w h=>hP ch a w h) _ a w i o [] ho' (by simpa [Array.getD,hil]using h1) (fun j hj=>?_) h fun a' w' h'=>?_)
   · obtain⟨e,he,hb,rfl⟩:=mem_depsOf.1 hj
     exact h2 e he hb
   · refine wpListIn_nil ?_
     refine ih _ a' w' (by simpa using hl) (by have:=QT h1;omega) ?_
     have he:(fun j=>(d.setIfInBounds i true).getD j false)=Yi (fun j=>d.getD j false) i:=by
      funext j
      by_cases hj:j=i
      · subst hj
        simp[Yi,Array.getD,hil]
      · simp only[Yi,if_neg hj,Array.getD_eq_getD_getElem?]
        rw[Array.getElem?_setIfInBounds_ne (fun e=>hj e.symm)]
     rw[he];exact h'
 cases draw with
 | false=>
  refine wpIn_region_lit (text l 0 a w (by simp) rfl ?_)
  have he:(fun i=>decide (i<0))=fun _:Nat=>false:=by funext i;simp
  rw[he];exact h0
 | true=>
  refine wpIn_region_any hm (any _ _ a _ (by simp) ?_ ?_)
  · simp only[ZeE]
    exact Nat.le_trans List.countP_le_length (by simp)
  · have he:(fun i=>(Array.replicate l.toArray.size false).getD i false)=fun _=>false:=by
     funext i
     simp[Array.getD]
    rw[he]
    exact hd
end
section
variable {n:Rn} {P:Program} {l:List Oper} {Q:Exit→Act→World→Prop}
variable {N:Nat} {J:World→Prop} {S:Nat→Prop} {O:List OB} {w0:World} {env:List (Nat×AV)} {avs:Nat→AV} {conds:Nat→Bool} {T:Array Value} {γ:Type}
end
section
variable {n:Rn} {N:Nat} {P:Program} {S:Nat→Prop} {w0:World} {env:List (Nat×AV)} {X:World→Prop} {l:List Oper} {Q:Exit→Act→World→Prop}
theorem Zhv {id:Nat} {draw:Bool} {a:Act} {w:World} (avs:Nat→AV) (conds:Nat→Bool) (k:Nat) {o:Oper} (ho:l[k]?=some o) (hk:l.length=k+1) (hg:o.guard=none) (hdep:(List.range k).all (fun i=>Zbq l l.length k i)=true) {G:World→Prop} {B:List PanicEntry→World→Prop}
 (h:St All S w0 N env X a w) (hm:P.follows .mixedOrders=true) (hu:Xo l=true) (hN:Zbj l N=true) (hback:Zcj l=true) (hx:Stab X)
 (ob:∀ i o,i<k→l[i]?=some o→Ob n P All S w0 env X l avs conds i o)
 (last:∀ a w,Keeps All w0 w→X w→Look S w env l avs conds k a→ZpW n P o a w (fun _ w'=>G w') B)
 (hG:∀ a w,a.defers=[]→G w→Q .normal a w) (hB:∀ ch a w,a.defers=[]→B ch w→Q (.panic ch) a w):(Code.region id l.toArray draw).wpIn n.F n.d P Q a w:=by
 have start:∀ w',Keeps All w w'→RInv All S S w0 N env X l avs conds a.tmps (fun _=>false) a w':=fun w' hkw=>
  ⟨h.defs,h.size,h.keep.trans hkw,hx _ _ hkw h.x,fun _ _=>rfl,fun _ _ _ _ _ e _=>(by cases e),fun _ _ _ _ _ e _=>(by cases e),fun _ _ _ e=>(by cases e),fun _ h=>h,fun p hp=>⟨(h.env p hp).1,(h.env p hp).2.on hkw⟩⟩
 refine Zns (Pn:=fun ch a' w'=>a'.defers=[]∧B ch w') (I:=fun b a' w'=>(b k=false∧RInv All S S w0 N env X l avs conds a.tmps b a' w')∨((∀ i,i≤k→b i=true)∧a'.defers=[]∧G w')) (fun ch a' w' hp=>hB ch a' w' hp.1 hp.2) hm hback ?_ ?_ (.inl ⟨rfl,start w (Keeps.refl _ _)⟩) (.inl ⟨rfl,start _ (Keeps.refl _ _).drew⟩)
 · rintro Q hP b a1 w1 i o' rest hi hb hd (⟨hbk,hr⟩ | ⟨hall,_⟩) hK
   · by_cases e:i=k
     · subst e
       rw[ho]at hi;cases hi
       refine wpListIn_plain hg fun K' hKr=>?_
       refine last a1 w1 hr.keep hr.x (hr.look ho hb hd) K' Q (fun v w2 hgw=>?_) fun ch w2 hbw=>hP _ _ _ ⟨hr.defs,hbw⟩
       refine hKr _ _ (hK _ _ (.inr ⟨fun j hj=>?_,by rw[Zae];exact hr.defs,hgw⟩))
       by_cases ej:j=i
       · simp[Yi,ej]
       · simp only[Yi,if_neg ej]
         have hu':=List.all_eq_true.1 hdep j (by simp;omega)
         exact Qc hr.closed _ i j _ ho hd hu'
     · have hlt:i<k:=by
        have:=(List.getElem?_eq_some_iff.1 hi).1
        omega
       refine hr.does hu hN hi hb hd (ob i o' hlt hi) fun a' w' h'=>hK _ _ (.inl ⟨?_,h'⟩)
       simp only[Yi,if_neg (fun e':k=i=>e e'.symm)]
       exact hbk
   · have:=(List.getElem?_eq_some_iff.1 hi).1
     rw[hall i (by omega)]at hb
     cases hb
 · rintro a1 w1 (⟨hbk,_⟩ | ⟨_,hd,hgw⟩)
   · simp[hk]at hbk
   · exact hG a1 w1 hd hgw
end
theorem Zuw {J:World→Prop} (hJ:Stab J) (bx bm b:Nat) (x:Itm) (fk:FuncId) {ι κ:Type} {O:List OB} {O':ι→List OB} {pv:κ→Value} {O'':κ→List OB} (h0:0≤x.kind) (hk:([.lit (fnV 111),.lit (fnV 112),.lit (fnV 114),.lit (fnV 115),.lit (fnV 116)]:List CD)[x.kind.toNat]?=some (.lit (fnV fk))) (hok:Zl Tryz.prog fk)
 (hF:FnP Tryz.prog J fk [] [.at b 0,.agg (itC x)] O (fun _=>.tup []) O' pv O''):
 FnP Tryz.prog J 63 [] [.at bx 0,.at bm 0] (OB.var bx (itC x)::OB.var bm [.lit (.pointer (some ⟨b,0,none⟩))]::O) (fun _=>.tup []) (fun i=>OB.var bx (itC x)::OB.var bm [.lit (.pointer (some ⟨b,0,none⟩))]::O' i) pv (fun k=>OB.var bx (itC x)::OB.var bm [.lit (.pointer (some ⟨b,0,none⟩))]::O'' k):=by
 refine QU (N:=9) Tryz.func63 rfl rfl (lb rfl) fun S w0 R hS hJ0 hH=>?_
 intro a w h
 have hpm:∀(A:List OB),((OB.var bx (itC x)::OB.var bm [.lit (.pointer (some ⟨b,0,none⟩))]::A)++R).Perm (A++OB.var bx (itC x)::OB.var bm [.lit (.pointer (some ⟨b,0,none⟩))]::R):=fun A=>by
  have e1:=List.perm_middle (l₁:=A) (l₂:=OB.var bm [.lit (.pointer (some ⟨b,0,none⟩))]::R) (a:=OB.var bx (itC x))
  have e2:=List.perm_middle (l₁:=A) (l₂:=R) (a:=OB.var bm [.lit (.pointer (some ⟨b,0,none⟩))])
  exact(List.Perm.cons _ e2.symm).trans e1.symm
 refine Zhv (fun i=>([.agg [.lit (fnV 111),.lit (fnV 112),.lit (fnV 114),.lit (fnV 115),.lit (fnV 116)],.at bx 0,.int x.kind,.lit (fnV fk),.at b 0,.agg (itC x),.any]:List AV).getD i .any) (fun _=>true) 6 rfl rfl rfl rfl
  (G:=fun w'=>∃ i,Keeps All w0 w'∧XO J S w0.heap.size ((OB.var bx (itC x)::OB.var bm [.lit (.pointer (some ⟨b,0,none⟩))]::O' i)++R) w')
  (B:=fun ch w'=>∃ k,ch=pch (pv k)∧Keeps All w0 w'∧XO J S w0.heap.size ((OB.var bx (itC x)::OB.var bm [.lit (.pointer (some ⟨b,0,none⟩))]::O'' k)++R) w') h YC rfl rfl rfl (Yz hJ) ?_ ?_ ?_ ?_
 · intro i o hi ho
   match i,hi with
   | 0,_=>cases ho;exact⟨rfl,fun a w hk hx hl _=>Zbw (Zuv hJ) ZvN rfl (Zp hS _ hk hx) hx.1 Zh (jo hJ hx)⟩
   | 1,_=>cases ho;exact⟨rfl,fun a w _ hx hl _=>Zw Zjq rfl (hl.env 0 0 _ rfl rfl) hx⟩
   | 2,_=>cases ho;exact⟨rfl,fun a w _ hx hl _=>Zz ZaW rfl (Zi hx (mo 0 rfl)) (hl.D 1 3 rfl rfl) rfl hx⟩
   | 3,_=>cases ho;exact⟨rfl,fun a w _ hx hl _=>Zkg Zfk ZuR Zlz rfl (hl.D 0 2 rfl rfl) (hl.D 2 4 rfl rfl) h0 rfl hk hx⟩
   | 4,_=>cases ho;exact⟨rfl,fun a w _ hx hl _=>Zz Xi rfl (Zi hx (mo 1 rfl)) (hl.env 1 1 _ rfl rfl) rfl hx⟩
   | 5,_=>cases ho;exact⟨rfl,fun a w _ hx hl _=>YP (ds:=itC x) Zay rfl (Zi hx (mo 0 rfl)) (hl.env 0 0 _ rfl rfl) rfl rfl hx⟩
 · intro a w hkk hx hl
   have hc:a.eval (.tmp 5)=fnV fk:=(hl.D 3 5 rfl rfl).lit
   have hx':=YI (hpm O) hx
   have hsub:∀ k,SO S ((OB.var bx (itC x)::OB.var bm [.lit (.pointer (some ⟨b,0,none⟩))]::O)++R) k→SO S (O++OB.var bx (itC x)::OB.var bm [.lit (.pointer (some ⟨b,0,none⟩))]::R) k:=fun k hs=>hs.perm (hpm O)
   intro K' Q' hK hQ
   refine ZtC (res:=fun _:ι=>.tup []) (O:=O) (R:=OB.var bx (itC x)::OB.var bm [.lit (.pointer (some ⟨b,0,none⟩))]::R) (avs:=[.at b 0,.agg (itC x)]) (avc:=[]) (cap:=[]) (args:=[.tmp 6,.tmp 7]) (by rw[List.append_nil];exact hF) hok rfl hS hJ0 Zy hkk hx' hc (Za ((hl.D 4 6 rfl rfl).sub fun k _=>hsub k) (Za ((hl.D 5 7 rfl rfl).sub fun k _=>hsub k) Zh)) Zh K' Q' (fun v w' ⟨i,hs,_⟩=>hK v w' ⟨i,hs.1,YI (hpm _).symm hs.2.1⟩) fun ch w' ⟨k,hch,hs⟩=>hQ ch w' ⟨k,hch,hs.1,YI (hpm _).symm hs.2.1⟩
 · rintro a w hd ⟨i,hk1,hx1⟩
   exact⟨hd,.tuple #[],by simp[results,Tryz.results63,Sem.run_pure],.inl ⟨i,_,rfl,(by simp only[Rel,RelL];exact⟨[],rfl,rfl⟩),hk1,hx1⟩⟩
 · rintro ch a w hd ⟨k,rfl,hk1,hx1⟩
   exact⟨hd,.inr ⟨k,rfl,hk1,hx1⟩⟩
end Go.Proofs.YtneapgbkkkjagaaGreatDoor
set_option maxHeartbeats 8000000
set_option maxRecDepth 100000
namespace Go.Proofs.YtneapgbkkkjagaaGreatDoor
open Go.Proofs.Tryz (prog)
open Go.RowKit
theorem ZuD {J:World→Prop} (hJ:Stab J) (b:Nat) (d:Db) (f:Fr) (nm:Value) (xs:List Itm) (vs:Value) (vt:Value) (n:Nat) (kn:Bool) (y1:Int) (y2:Int) (sk:List (List BA)) (tg:List (List BA)) (x:Itm) (hk:x.kind=0):FnP (ι:= {q':Value×List (List BA) // Xk d.frames d.vars f sk tg x= .ok q'.2}) (κ:= {c:Int // Xk d.frames d.vars f sk tg x= .error c}) prog J 111 [] [.at b 0,.agg (itC x)] [OB.var b (mkM d f nm xs vs vt n kn y1 y2),OB.row vs 22 1 (sk.map Zr),OB.row vt 22 1 (tg.map Zr)] (fun _=>.tup []) (fun i'=>[OB.var b (mkC d f [.lit nm,QF xs,.lit (i'.1.1),.lit vt,lI (n:Int),lB kn,lI y1,lI y2]),OB.row i'.1.1 22 1 ((i'.1.2).map Zr),OB.row vt 22 1 (tg.map Zr)]) (fun k'=>flV k'.1) (fun _=>[OB.var b (mkM d f nm xs vs vt n kn y1 y2),OB.row vs 22 1 (sk.map Zr),OB.row vt 22 1 (tg.map Zr)]):=by
 refine QU (N:=5) Tryz.func111 rfl rfl (lb rfl) fun S w0 R hS hJ0 hH=>?_
 refine YA (B:=So J S w0 5 (OB.var b (mkM d f nm xs vs vt n kn y1 y2)::OB.row vs 22 1 (sk.map Zr)::OB.row vt 22 1 (tg.map Zr)::R) [(0,.at b 0),(1,.agg (itC x))]) ?_ fun a w h=>h
 refine ZG tb hJ [] [.ptr (itC x)] [0] [] rfl ⟨fun _ _ hk hx hl _=>Yq rfl (hl.env 1 1 _ rfl rfl) (Zp hS _ hk hx _ (Nat.le_refl _)) (jo hJ hx),trivial⟩ ?_
 refine ZE (Qk (O:=[]) (R:=(OB.var b (mkM d f nm xs vs vt n kn y1 y2)::OB.row vs 22 1 (sk.map Zr)::OB.row vt 22 1 (tg.map Zr)::R)) (QO hJ (c:=(27:Int)) ) Y9 rfl rfl rfl (lb rfl) hS hJ0 Zy (fun a w h=>(Za (Rel.of_lit (.int .i64 27)) Zh)) (fun _=>?_) (fun i=>i.elim))
 exact fun a w h=>pnP (⟨27,by simp[Xk,hk]⟩: {c:Int // Xk d.frames d.vars f sk tg x= .error c}) rfl a w h
theorem ZuA {J:World→Prop} (hJ:Stab J) (b:Nat) (d:Db) (f:Fr) (nm:Value) (xs:List Itm) (vs:Value) (vt:Value) (n:Nat) (kn:Bool) (y1:Int) (y2:Int) (sk:List (List BA)) (tg:List (List BA)) (x:Itm) (hk:x.kind=3):FnP (ι:= {q':Value×List (List BA) // Xk d.frames d.vars f sk tg x= .ok q'.2}) (κ:= {c:Int // Xk d.frames d.vars f sk tg x= .error c}) prog J 115 [] [.at b 0,.agg (itC x)] [OB.var b (mkM d f nm xs vs vt n kn y1 y2),OB.row vs 22 1 (sk.map Zr),OB.row vt 22 1 (tg.map Zr)] (fun _=>.tup []) (fun i'=>[OB.var b (mkC d f [.lit nm,QF xs,.lit (i'.1.1),.lit vt,lI (n:Int),lB kn,lI y1,lI y2]),OB.row i'.1.1 22 1 ((i'.1.2).map Zr),OB.row vt 22 1 (tg.map Zr)]) (fun k'=>flV k'.1) (fun _=>[OB.var b (mkM d f nm xs vs vt n kn y1 y2),OB.row vs 22 1 (sk.map Zr),OB.row vt 22 1 (tg.map Zr)]):=by
 refine QU (N:=5) Tryz.func115 rfl rfl (lb rfl) fun S w0 R hS hJ0 hH=>?_
 refine YA (B:=So J S w0 5 (OB.var b (mkM d f nm xs vs vt n kn y1 y2)::OB.row vs 22 1 (sk.map Zr)::OB.row vt 22 1 (tg.map Zr)::R) [(0,.at b 0),(1,.agg (itC x))]) ?_ fun a w h=>h
 refine ZG tb hJ [] [.ptr (itC x)] [0] [] rfl ⟨fun _ _ hk hx hl _=>Yq rfl (hl.env 1 1 _ rfl rfl) (Zp hS _ hk hx _ (Nat.le_refl _)) (jo hJ hx),trivial⟩ ?_
 refine ZE (Qk (O:=[]) (R:=(OB.var b (mkM d f nm xs vs vt n kn y1 y2)::OB.row vs 22 1 (sk.map Zr)::OB.row vt 22 1 (tg.map Zr)::R)) (QO hJ (c:=(22:Int)) ) Y9 rfl rfl rfl (lb rfl) hS hJ0 Zy (fun a w h=>(Za (Rel.of_lit (.int .i64 22)) Zh)) (fun _=>?_) (fun i=>i.elim))
 exact fun a w h=>pnP (⟨22,by simp[Xk,hk]⟩: {c:Int // Xk d.frames d.vars f sk tg x= .error c}) rfl a w h
theorem ZuC {J:World→Prop} (hJ:Stab J) (b:Nat) (d:Db) (f:Fr) (nm:Value) (xs:List Itm) (vs:Value) (vt:Value) (n:Nat) (kn:Bool) (y1:Int) (y2:Int) (sk:List (List BA)) (tg:List (List BA)) (x:Itm) (hk:x.kind=1) (hl:sk.length≤2000):FnP (ι:= {q':Value×List (List BA) // Xk d.frames d.vars f sk tg x= .ok q'.2}) (κ:= {c:Int // Xk d.frames d.vars f sk tg x= .error c}) prog J 112 [] [.at b 0,.agg (itC x)] [OB.var b (mkM d f nm xs vs vt n kn y1 y2),OB.row vs 22 1 (sk.map Zr),OB.row vt 22 1 (tg.map Zr)] (fun _=>.tup []) (fun i'=>[OB.var b (mkC d f [.lit nm,QF xs,.lit (i'.1.1),.lit vt,lI (n:Int),lB kn,lI y1,lI y2]),OB.row i'.1.1 22 1 ((i'.1.2).map Zr),OB.row vt 22 1 (tg.map Zr)]) (fun k'=>flV k'.1) (fun _=>[OB.var b (mkM d f nm xs vs vt n kn y1 y2),OB.row vs 22 1 (sk.map Zr),OB.row vt 22 1 (tg.map Zr)]):=by
 refine QU (N:=8) Tryz.func112 rfl rfl (lb rfl) fun S w0 R hS hJ0 hH=>?_
 refine YA (B:=So J S w0 8 (OB.var b (mkM d f nm xs vs vt n kn y1 y2)::OB.row vs 22 1 (sk.map Zr)::OB.row vt 22 1 (tg.map Zr)::R) [(0,.at b 0),(1,.agg (itC x))]) ?_ fun a w h=>h
 refine ZG tb hJ [0,1000] [.ptr (itC x)] [0] [_,_] rfl ⟨fun _ _ hk hx hl _=>Yq rfl (hl.env 1 1 _ rfl rfl) (Zp hS _ hk hx _ (Nat.le_refl _)) (jo hJ hx),trivial⟩ ?_
 refine ZE (snK 3 tb rfl ?_)
 refine X0 (O:=[OB.var b (mkM d f nm xs vs vt n kn y1 y2),OB.row vs 22 1 (sk.map Zr)]) (R:=(OB.row vt 22 1 (tg.map Zr)::R)) (Zto hJ b d f nm xs vs vt n kn y1 y2 sk x.text sfz) Zg1 rfl rfl rfl (lb rfl) hS hJ0 Zy (fun a w h=>(Za (h.get 2 rfl) (Za (h.get 0 rfl) Zh))) fun z1=>?_
 refine seK [1] [_] rfl ?_
 exact fun a w h=>lvP (Qo  ⟨(z1,(sk++[x.text])),by simp[Xk,hk]⟩ rfl h rfl)
theorem ZqR {J:World→Prop} (hJ:Stab J) (b:Nat) (d:Db) (f:Fr) (nm:Value) (xs:List Itm) (vs:Value) (vt:Value) (n:Nat) (kn:Bool) (y1:Int) (y2:Int) (sk:List (List BA)) (tg:List (List BA)) (xt:List BA) (q:Nat) (xg:Bool) (hl:sk.length≤2000) (hn2:q<tg.length):FnP (ι:= {q':Value×List (List BA) // Xk d.frames d.vars f sk tg ⟨4,xt,(q:Int),xg⟩= .ok q'.2}) (κ:= {c:Int // Xk d.frames d.vars f sk tg ⟨4,xt,(q:Int),xg⟩= .error c}) prog J 116 [] [.at b 0,.agg [lI (4:Int),Zg xt,lI (q:Int),lB xg]] [OB.var b (mkM d f nm xs vs vt n kn y1 y2),OB.row vs 22 1 (sk.map Zr),OB.row vt 22 1 (tg.map Zr)] (fun _=>.tup []) (fun i'=>[OB.var b (mkC d f [.lit nm,QF xs,.lit (i'.1.1),.lit vt,lI (n:Int),lB kn,lI y1,lI y2]),OB.row i'.1.1 22 1 ((i'.1.2).map Zr),OB.row vt 22 1 (tg.map Zr)]) (fun k'=>flV k'.1) (fun _=>[OB.var b (mkM d f nm xs vs vt n kn y1 y2),OB.row vs 22 1 (sk.map Zr),OB.row vt 22 1 (tg.map Zr)]):=by
 refine QU (N:=14) Tryz.func116 rfl rfl (lb rfl) fun S w0 R hS hJ0 hH=>?_
 refine YA (B:=So J S w0 14 (OB.var b (mkM d f nm xs vs vt n kn y1 y2)::OB.row vs 22 1 (sk.map Zr)::OB.row vt 22 1 (tg.map Zr)::R) [(0,.at b 0),(1,.agg [lI (4:Int),Zg xt,lI (q:Int),lB xg])]) ?_ fun a w h=>h
 refine ZG tb hJ [0,1000] [.ptr [lI (4:Int),Zg xt,lI (q:Int),lB xg]] [0] [_,_] rfl ⟨fun _ _ hk hx hl _=>Yq rfl (hl.env 1 1 _ rfl rfl) (Zp hS _ hk hx _ (Nat.le_refl _)) (jo hJ hx),trivial⟩ ?_
 refine fun a w h=>Y0 (γ:=Value) (fun ix'=>([.at b 0,.at b 0,.at b 0,.at b 14,.lit vt,.ptr [lI (q:Int),lB xg],.int (q:Nat),.lit (XG vt (q*1)),.rd (Zg (ge tg q)),.any]:List AV).getD ix' .any) (fun _=>true) [] (fun(j':Nat) (g:Value)=>match j' with | 0=>(OB.var b (mkM d f nm xs vs vt n kn y1 y2)::OB.row vs 22 1 (sk.map Zr)::OB.row vt 22 1 (tg.map Zr)::R) | _=>(OB.var b (mkM d f nm xs g vt n kn y1 y2)::OB.row g 22 1 ((sk++[(ge tg q)]).map Zr)::OB.row vt 22 1 (tg.map Zr)::R)) (fun(k':Nat) (g:Value)=>match k' with | 0=>(.tuple #[]) | _=>undef) [9] 0 (.slice none 0 0) (fun _=>rfl) h hJ YC rfl rfl rfl rfl rfl rfl hsb ⟨?_,⟨?_,⟨?_,⟨?_,⟨?_,⟨?_,⟨?_,⟨?_,⟨?_,⟨?_,trivial⟩⟩⟩⟩⟩⟩⟩⟩⟩⟩ ⟨?e1_1_0,trivial⟩ trivial ?n1_1
 exact oX rfl fun hx hl=>Z5 rfl (hl.env 0 0 _ rfl rfl) hx
 exact oX rfl fun hx hl=>Z5 rfl (hl.env 0 0 _ rfl rfl) hx
 exact oX rfl fun hx hl=>ZA rfl (hl.D 1 5 rfl rfl) hx
 exact oX rfl fun hx hl=>Zw Zcs rfl (hl.D 2 6 rfl rfl) hx
 exact fun _ O' hO'=>⟨rfl,fun _ _ _ hx hl _=>Zz ZaE rfl (Zi hx (hO' _ (mo 0 rfl))) (hl.D 3 7 rfl rfl) rfl hx⟩
 exact oX rfl fun hx hl=>ZQ Zjp rfl (hl.env 1 3 _ rfl rfl) hx
 exact oX rfl fun hx hl=>ZI ZaW rfl (hl.D 5 9 rfl rfl) hx
 exact fun _ O' hO'=>⟨rfl,fun _ _ _ hx hl _=>Y6 (i:=(q:Int)) ZH rfl (Zi hx (hO' _ (mo 2 rfl))) (hl.D 4 8 rfl rfl) (hl.D 6 10 rfl rfl) (Int.natCast_nonneg _) (by rw[List.length_map];exact Int.ofNat_lt.2 sfz) hx⟩
 exact fun _ O' hO'=>⟨rfl,fun _ _ _ hx hl _=>Qe (i:=q) XI rfl (Zi hx (hO' _ (mo 2 rfl))) (hl.D 7 11 rfl rfl) (Q4 (xs:=tg) (k:=q) sfz) hx⟩
 exact Zn rfl
 case e1_1_0=>exact⟨_,rfl,rfl,rfl,rfl,fun _ _ w hk hx hl _=>ZB (d_fn (O:=[OB.var b (mkM d f nm xs vs vt n kn y1 y2),OB.row vs 22 1 (sk.map Zr)]) (R:=(OB.row vt 22 1 (tg.map Zr)::R)) (Zto hJ b d f nm xs vs vt n kn y1 y2 sk (ge tg q) sfz) Zg1 rfl hS hJ0 Zy hk hx (Za (hl.D 0 4 rfl rfl) (Za (hl.D 8 12 rfl rfl) Zh))) fun v w' ⟨i,hp,hv⟩=>⟨i,(by simp only[]),fun k' hk'=>absurd hk' (Nat.not_lt_zero _),fun _=>Zgt hv,hp⟩⟩
 clear a w h
 intro z1
 dsimp only[List.map]
 exact fun a w h=>lvP (Qo  ⟨(z1,(sk++[(ge tg q)])),by simp[Xk]⟩ rfl h rfl)
theorem ZuB {J:World→Prop} (hJ:Stab J) (b:Nat) (d:Db) (f:Fr) (nm:Value) (xs:List Itm) (vs:Value) (vt:Value) (n:Nat) (kn:Bool) (y1:Int) (y2:Int) (sk:List (List BA)) (tg:List (List BA)) (x:Itm) (hk:x.kind=2) (hn:0≤x.number) (hn2:x.number<d.frames.length) (hsk:∀ t∈sk,1≤t.length∧t.length≤2000) (hskl:sk.length≤2000) (hh:(ge d.frames x.number.toNat).hyps.length≤2000) (hf:∀ h∈(ge d.frames x.number.toNat).hyps,h.floating=true→h.text.length=2) (hwd:f.wide.length*32≤140737488351232):
 FnP (ι:= {q':Value×List (List BA) // Xk d.frames d.vars f sk tg x= .ok q'.2}) (κ:= {c:Int // Xk d.frames d.vars f sk tg x= .error c}) prog J 114 [] [.at b 0,.agg (itC x)] [OB.var b (mkM d f nm xs vs vt n kn y1 y2),OB.row vs 22 1 (sk.map Zr),OB.row vt 22 1 (tg.map Zr)] (fun _=>.tup []) (fun i'=>[OB.var b (mkC d f [.lit nm,QF xs,.lit (i'.1.1),.lit vt,lI (n:Int),lB kn,lI y1,lI y2]),OB.row i'.1.1 22 1 ((i'.1.2).map Zr),OB.row vt 22 1 (tg.map Zr)]) (fun k'=>flV k'.1) (fun _=>[OB.var b (mkM d f nm xs vs vt n kn y1 y2),OB.row vs 22 1 (sk.map Zr),OB.row vt 22 1 (tg.map Zr)]):=by
 have e:Xk d.frames d.vars f sk tg x=Zdh d.vars f.wide (ge d.frames x.number.toNat) sk:=by simp[Xk,hk]
 rw[e]
 exact FnP.frame [OB.row vt 22 1 (tg.map Zr)] (p_use hJ b d f nm xs vs vt n kn y1 y2 sk x (ge d.frames x.number.toNat) rfl hn hn2 hsk hskl hh hf hwd)
theorem ZuH {J:World→Prop} (hJ:Stab J) (b:Nat) (d:Db) (f:Fr) (nm:Value) (xs:List Itm) (vs:Value) (vt:Value) (n:Nat) (kn:Bool) (y1:Int) (y2:Int) (sk:List (List BA))  :FnM (ι:=Unit) prog J 58 [] [.at b 0] [OB.var b (mkM d f nm xs vs vt n kn y1 y2),OB.row vs 22 1 (sk.map Zr)] (fun _=>.tup []) (fun _=>[OB.var b (mkC d f [.lit nm,QF xs,.lit vs,.lit vt,lI (n:Int),lB (kn|| !decide (n<xs.length)),lI (if n<xs.length then y1 else(Zc1 f sk n).1),lI (if n<xs.length then y2 else(Zc1 f sk n).2)]),OB.row vs 22 1 (sk.map Zr)]):=by
 refine Yt (N:=47) Tryz.func58 rfl rfl (lb rfl) fun S w0 R hS hJ0 hH=>?_
 refine YA (B:=So J S w0 47 (OB.var b (mkM d f nm xs vs vt n kn y1 y2)::OB.row vs 22 1 (sk.map Zr)::R) [(0,.at b 0)]) ?_ fun a w h=>h
 refine Zf (ZG tb hJ [0,1007,1009] [_,.at b 0,.at b 15,.int (n:Nat),_,.at b 0,.at b 12,.rd (QF xs),.int (xs.length:Nat),_] [1,2,3,5,6,7,8] U3 rfl ⟨fun _ _ _ hx hl _=>ZA rfl (hl.D 0 2 rfl rfl) hx,fun _ _ _ hx hl _=>Zw Xs rfl (hl.D 1 3 rfl rfl) hx,fun _ _ _ hx hl _=>Zz ZaW rfl (Zi hx (mo 0 rfl)) (hl.D 2 4 rfl rfl) rfl hx,fun _ _ _ hx hl _=>ZA rfl (hl.D 4 6 rfl rfl) hx,fun _ _ _ hx hl _=>Zw XL rfl (hl.D 5 7 rfl rfl) hx,fun _ _ _ hx hl _=>Zz ZhT rfl (Zi hx (mo 0 rfl)) (hl.D 6 8 rfl rfl) rfl hx,Z2 Zek,trivial⟩ ?_)
 refine ln 1 fun hl1=>?_
 refine cj 2 (fun hb1=>?_) fun hb1=>?_
 try simp at hb1
 have e1:n<xs.length:=by omega
 refine tw (ob0 (show OB.var b (mkM d f nm xs vs vt n kn y1 y2)=OB.var b (mkC d f [.lit nm,QF xs,.lit vs,.lit vt,lI (n:Int),lB (kn|| !decide (n<xs.length)),lI (if n<xs.length then y1 else(Zc1 f sk n).1),lI (if n<xs.length then y2 else(Zc1 f sk n).2)])from by simp[e1])) ?_
 exact Ze (fun a w h=>Qo  () rfl h rfl)
 try simp at hb1
 have e1:¬ n<xs.length:=by omega
 refine Zb (nx (Zc (ZoI tb hJ [0,1006] [_,.at b 0,.at b 13,.lit vs,.int (sk.length:Nat),_,_] [1,2,3,4] [_,_] rfl ⟨fun _ _ _ hx hl _=>ZA rfl (hl.D 0 15 rfl rfl) hx,fun _ _ _ hx hl _=>Zw YQ rfl (hl.D 1 16 rfl rfl) hx,fun _ _ _ hx hl _=>Zz ZaE rfl (Zd6 hx (mo 0 rfl)) (hl.D 2 17 rfl rfl) rfl hx,fun _ _ _ hx hl _=>ZaD Qy rfl (Qn hS hx (mo 1 rfl) (hl.D 3 18 rfl rfl)) hx,trivial⟩ ?_)))
 refine cj 1 (fun hb2=>?_) fun hb2=>?_
 try simp at hb2
 have e2:¬ sk.length=1:=by omega
 refine ZE (snK 2 tb rfl ?_)
 refine sy (.at b 0) (fun h=>ZA rfl (h.get 0 rfl) h.x) ?_
 refine sy (.at b 15) (fun h=>Zw Xs rfl (h.get 0 rfl) h.x) ?_
 refine sy (.int (n:Nat)) (fun h=>Zz ZaW rfl (Zi h.x (mo 0 rfl)) (h.get 0 rfl) rfl h.x) ?_
 refine X0 (O:=[OB.var b (mkM d f nm xs vs vt n kn y1 y2)]) (R:=(OB.row vs 22 1 (sk.map Zr)::R)) (ZhG hJ b d f nm xs n vs vt kn y1 y2 (23:Int) (n:Int)) Ze7 rfl rfl rfl (lb rfl) hS hJ0 Zy (fun a w h=>(Za (h.get 4 rfl) (Za (Rel.of_lit (.int .i64 23)) (Za (h.get 0 rfl) Zh)))) fun _=>?_
 refine seK [] [] rfl ?_
 refine kw (ob0 (show OB.var b (mkC d f [.lit nm,QF xs,.lit vs,.lit vt,lI (n:Int),lB true,lI (23:Int),lI (n:Int)])=OB.var b (mkC d f [.lit nm,QF xs,.lit vs,.lit vt,lI (n:Int),lB (kn|| !decide (n<xs.length)),lI (if n<xs.length then y1 else(Zc1 f sk n).1),lI (if n<xs.length then y2 else(Zc1 f sk n).2)])from by simp[Zc1,e1,e2])) ?_
 exact fun a w h=>Qo  () rfl h rfl
 try simp at hb2
 have e2:sk.length=1:=by omega
 refine ZG tb hJ [0,1005,1010,1013] [_,.at b 0,.at b 13,.lit vs,.lit (XG vs (0*1)),.rd (Zg (ge sk 0)),_,.at b 0,.at b 3,.at b 7,.rd (Zg f.text),.bool (decide ((ge sk 0)=f.text)),_,_] [1,2,3,4,5,7,8,9,10,11] U4 rfl ⟨fun _ _ _ hx hl _=>ZA rfl (hl.D 0 28 rfl rfl) hx,fun _ _ _ hx hl _=>Zw YQ rfl (hl.D 1 29 rfl rfl) hx,fun _ _ _ hx hl _=>Zz ZaE rfl (Zi hx (mo 0 rfl)) (hl.D 2 30 rfl rfl) rfl hx,fun _ _ _ hx hl _=>Y6 (i:=(0:Int)) ZH rfl (Zi hx (mo 1 rfl)) (hl.D 3 31 rfl rfl) (Rel.of_lit (S:=fun _=>True) (.int .i64 0)) (Int.natCast_nonneg _) (by rw[List.length_map];exact Int.ofNat_lt.2 sfz) hx,fun _ _ _ hx hl _=>Qe (i:=0) XI rfl (Zi hx (mo 1 rfl)) (hl.D 4 32 rfl rfl) (Q4 (xs:=sk) (k:=0) sfz) hx,fun _ _ _ hx hl _=>ZA rfl (hl.D 6 34 rfl rfl) hx,fun _ _ _ hx hl _=>Zw Zag rfl (hl.D 7 35 rfl rfl) hx,fun _ _ _ hx hl _=>Zw ZfV rfl (hl.D 8 36 rfl rfl) hx,fun _ _ _ hx hl _=>Zz XI rfl (Zi hx (mo 0 rfl)) (hl.D 9 37 rfl rfl) rfl hx,iFo hS hJ (Zkp hJ (ge sk 0) f.text) Zpw,trivial⟩ ?_
 refine ln 1 fun hl2=>?_
 refine ln 2 fun hl3=>?_
 refine cj 3 (fun hb3=>?_) fun hb3=>?_
 try simp at hb3
 refine ZE (snK 2 tb rfl ?_)
 refine sy (.at b 0) (fun h=>ZA rfl (h.get 0 rfl) h.x) ?_
 refine sy (.at b 15) (fun h=>Zw Xs rfl (h.get 0 rfl) h.x) ?_
 refine sy (.int (n:Nat)) (fun h=>Zz ZaW rfl (Zi h.x (mo 0 rfl)) (h.get 0 rfl) rfl h.x) ?_
 refine X0 (O:=[OB.var b (mkM d f nm xs vs vt n kn y1 y2)]) (R:=(OB.row vs 22 1 (sk.map Zr)::R)) (ZhG hJ b d f nm xs n vs vt kn y1 y2 (28:Int) (n:Int)) Ze7 rfl rfl rfl (lb rfl) hS hJ0 Zy (fun a w h=>(Za (h.get 4 rfl) (Za (Rel.of_lit (.int .i64 28)) (Za (h.get 0 rfl) Zh)))) fun _=>?_
 refine seK [] [] rfl ?_
 refine kw (ob0 (show OB.var b (mkC d f [.lit nm,QF xs,.lit vs,.lit vt,lI (n:Int),lB true,lI (28:Int),lI (n:Int)])=OB.var b (mkC d f [.lit nm,QF xs,.lit vs,.lit vt,lI (n:Int),lB (kn|| !decide (n<xs.length)),lI (if n<xs.length then y1 else(Zc1 f sk n).1),lI (if n<xs.length then y2 else(Zc1 f sk n).2)])from by simp[Zc1,e1,e2,hb3])) ?_
 exact fun a w h=>Qo  () rfl h rfl
 try simp at hb3
 refine ZE (snK 1 tb rfl ?_)
 refine X0 (O:=[OB.var b (mkM d f nm xs vs vt n kn y1 y2)]) (R:=(OB.row vs 22 1 (sk.map Zr)::R)) (ZhG hJ b d f nm xs n vs vt kn y1 y2 (0:Int) (0:Int)) Ze7 rfl rfl rfl (lb rfl) hS hJ0 Zy (fun a w h=>(Za (h.get 0 rfl) (Za (Rel.of_lit (.int .i64 0)) (Za (Rel.of_lit (.int .i64 0)) Zh)))) fun _=>?_
 refine seK [] [] rfl ?_
 refine kw (ob0 (show OB.var b (mkC d f [.lit nm,QF xs,.lit vs,.lit vt,lI (n:Int),lB true,lI (0:Int),lI (0:Int)])=OB.var b (mkC d f [.lit nm,QF xs,.lit vs,.lit vt,lI (n:Int),lB (kn|| !decide (n<xs.length)),lI (if n<xs.length then y1 else(Zc1 f sk n).1),lI (if n<xs.length then y2 else(Zc1 f sk n).2)])from by simp[Zc1,e1,e2,hb3])) ?_
 exact fun a w h=>Qo  () rfl h rfl
end Go.Proofs.YtneapgbkkkjagaaGreatDoor
set_option maxHeartbeats 8000000
set_option maxRecDepth 100000
namespace Go.Proofs.YtneapgbkkkjagaaGreatDoor
open Go.RowKit
theorem ZuE {J:World→Prop} (hJ:Stab J) (bx bm:Nat) (b:Nat) (d:Db) (f:Fr) (nm:Value) (xs:List Itm) (vs:Value) (vt:Value) (n:Nat) (kn:Bool) (y1:Int) (y2:Int) (sk:List (List BA)) (tg:List (List BA)) (x:Itm) (hsk:∀ t∈sk,1≤t.length∧t.length≤2000) (hskl:sk.length≤2000) (hfr:∀ g∈d.frames,okF g) (hwd:f.wide.length*32≤140737488351232) (hx:okI d.frames.length tg.length x):
 FnM (ι:=(GI d.frames d.vars f sk tg x vs)) Tryz.prog J 54 [] [.lit (.func (.func 63) #[] #[.pointer (some ⟨bx,0,none⟩),.pointer (some ⟨bm,0,none⟩)])] [OB.var bx [lI x.kind,Zg x.text,lI x.number,lB x.tagged],OB.var bm [.lit (.pointer (some ⟨b,0,none⟩))],OB.var b (mkM d f nm xs vs vt n kn y1 y2),OB.row vs 22 1 (sk.map Zr),OB.row vt 22 1 (tg.map Zr)] (fun i'=>.int i'.1.1) (fun i'=>[OB.var bx [lI x.kind,Zg x.text,lI x.number,lB x.tagged],OB.var bm [.lit (.pointer (some ⟨b,0,none⟩))],OB.var b (mkC d f [.lit nm,QF xs,.lit (i'.1.2.1),.lit vt,lI (n:Int),lB kn,lI y1,lI y2]),OB.row i'.1.2.1 22 1 ((i'.1.2.2).map Zr),OB.row vt 22 1 (tg.map Zr)]):=by
 have hall:∃ fk:FuncId,([.lit (fnV 111),.lit (fnV 112),.lit (fnV 114),.lit (fnV 115),.lit (fnV 116)]:List CD)[x.kind.toNat]?=some (.lit (fnV fk))∧Zl Tryz.prog fk∧FnP (ι:= {q':Value×List (List BA) // Xk d.frames d.vars f sk tg x= .ok q'.2}) (κ:= {c:Int // Xk d.frames d.vars f sk tg x= .error c}) Tryz.prog J fk [] [.at b 0,.agg (itC x)] [OB.var b (mkM d f nm xs vs vt n kn y1 y2),OB.row vs 22 1 (sk.map Zr),OB.row vt 22 1 (tg.map Zr)] (fun _=>.tup []) (fun i'=>[OB.var b (mkC d f [.lit nm,QF xs,.lit (i'.1.1),.lit vt,lI (n:Int),lB kn,lI y1,lI y2]),OB.row i'.1.1 22 1 ((i'.1.2).map Zr),OB.row vt 22 1 (tg.map Zr)]) (fun k'=>flV k'.1) (fun _=>[OB.var b (mkM d f nm xs vs vt n kn y1 y2),OB.row vs 22 1 (sk.map Zr),OB.row vt 22 1 (tg.map Zr)]):=by
  have hk:x.kind=0∨x.kind=1∨x.kind=2∨x.kind=3∨x.kind=4:=by have:=hx.1;have:=hx.2.1;omega
  rcases hk with hk | hk | hk | hk | hk
  · exact⟨_,by rw[hk];rfl,Zs Tryz.func111 rfl rfl,ZuD hJ b d f nm xs vs vt n kn y1 y2 sk tg x hk⟩
  · exact⟨_,by rw[hk];rfl,Zs Tryz.func112 rfl rfl,ZuC hJ b d f nm xs vs vt n kn y1 y2 sk tg x hk hskl⟩
  · have h2:=hx.2.2.1 hk
    have hg:=hfr (ge d.frames x.number.toNat) (Zv (by omega))
    exact⟨_,by rw[hk];rfl,Zs Tryz.func114 rfl rfl,ZuB hJ b d f nm xs vs vt n kn y1 y2 sk tg x hk h2.1 h2.2 hsk hskl hg.1 hg.2 hwd⟩
  · exact⟨_,by rw[hk];rfl,Zs Tryz.func115 rfl rfl,ZuA hJ b d f nm xs vs vt n kn y1 y2 sk tg x hk⟩
  · have h2:=hx.2.2.2 hk
    obtain⟨kd,xt,num,xg⟩:=x
    obtain rfl:kd=4:=hk
    obtain⟨q,rfl⟩:∃ q:Nat,num=(q:Int):=⟨num.toNat,by simp only at h2;omega⟩
    exact⟨_,by rfl,Zs Tryz.func116 rfl rfl,ZqR hJ b d f nm xs vs vt n kn y1 y2 sk tg xt q xg hskl (by simp only at h2;omega)⟩
 obtain⟨fk,h1,h2,h3⟩:=hall
 have h4:=ZhH (F:=63) (caps:=[.pointer (some ⟨bx,0,none⟩),.pointer (some ⟨bm,0,none⟩)]) hJ (Zuw hJ bx bm b x fk hx.1 h1 h2 h3) (Zs Tryz.func63 rfl rfl) (by intro v hv;simp at hv;rcases hv with rfl | rfl<;>exact True.intro)
 refine(h4.map (ι':=(GI d.frames d.vars f sk tg x vs)) (fun r=>match r with | .inl i=>⟨(0,i.1),.inl ⟨rfl,i.2⟩⟩ | .inr k=>⟨(k.1,vs,sk),.inr ⟨Zrp k.2,k.2,rfl,rfl⟩⟩) ?_ ?_)
 · rintro(i | k)<;>rfl
 · rintro(i | k)<;>rfl
theorem p_step {J:World→Prop} (hJ:Stab J) (b:Nat) (d:Db) (f:Fr) (nm:Value) (xs:List Itm) (vs:Value) (vt:Value) (n:Nat) (kn:Bool) (y1:Int) (y2:Int) (sk:List (List BA)) (tg:List (List BA)) (hi:kn=false→n<xs.length∧okI d.frames.length tg.length (ge xs n)) (hsk:∀ t∈sk,1≤t.length∧t.length≤2000) (hskl:sk.length≤2000) (htg:tg.length≤2000) (hn:n≤2000) (hfr:∀ g∈d.frames,okF g) (hwd:f.wide.length*32≤140737488351232):FnM (ι:=Value×Value) Tryz.prog J 43 [] [.at b 0] [OB.var b (mkM d f nm xs vs vt n kn y1 y2),OB.row vs 22 1 (sk.map Zr),OB.row vt 22 1 (tg.map Zr)] (fun _=>.bool ((Ym d.frames d.vars f xs ⟨sk,tg,n,kn,(y1,y2),false⟩).did)) (fun i'=>[OB.var b (mkC d f [.lit nm,QF xs,.lit (i'.1),.lit (i'.2),lI (((Ym d.frames d.vars f xs ⟨sk,tg,n,kn,(y1,y2),false⟩).n:Nat):Int),lB ((Ym d.frames d.vars f xs ⟨sk,tg,n,kn,(y1,y2),false⟩).kn),lI ((Ym d.frames d.vars f xs ⟨sk,tg,n,kn,(y1,y2),false⟩).v.1),lI ((Ym d.frames d.vars f xs ⟨sk,tg,n,kn,(y1,y2),false⟩).v.2)]),OB.row i'.1 22 1 (((Ym d.frames d.vars f xs ⟨sk,tg,n,kn,(y1,y2),false⟩).sk).map Zr),OB.row i'.2 22 1 (((Ym d.frames d.vars f xs ⟨sk,tg,n,kn,(y1,y2),false⟩).tg).map Zr)]):=by
 refine Yt (N:=62) Tryz.func43 rfl rfl (lb rfl) fun S w0 R hS hJ0 hH=>?_
 refine YA (B:=So J S w0 62 (OB.var b (mkM d f nm xs vs vt n kn y1 y2)::OB.row vs 22 1 (sk.map Zr)::OB.row vt 22 1 (tg.map Zr)::R) [(0,.at b 0)]) ?_ fun a w h=>h
 refine tsq ?_
 refine Zna (c:=.lit (.pointer (some ⟨b,0,none⟩))) hJ rfl rfl rfl (lb rfl) (fun a w h=>(h.get 0 rfl)) fun b1=>?_
 refine snK 1 tb rfl ?_
 refine seK [1] [_] rfl ?_
 refine nx (Zf (ZG tb hJ [0,1003] [.at b 0,.at b 0,.at b 16,.bool kn] [0,1,2,3] [_,_] rfl ⟨fun _ _ _ hx hl _=>Zz Xi rfl (Zi hx (mo 0 rfl)) (hl.env 0 1 _ rfl rfl) rfl hx,fun _ _ _ hx hl _=>ZA rfl (hl.D 0 5 rfl rfl) hx,fun _ _ _ hx hl _=>Zw ZeQ rfl (hl.D 1 6 rfl rfl) hx,fun _ _ _ hx hl _=>Zz Zn9 rfl (Zi hx (mo 1 rfl)) (hl.D 2 7 rfl rfl) rfl hx,trivial⟩ ?_))
 refine cj 1 (fun hb1=>?_) fun hb1=>?_
 ·
  try simp at hb1
  have e9:(Ym d.frames d.vars f xs ⟨sk,tg,n,kn,(y1,y2),false⟩)=⟨sk,tg,n,kn,(y1,y2),false⟩:=Zd0 hb1
  refine qso tb hJ [1000] [_] [_] ?_
  refine tw ZM ?_
  refine tw (ob0 (show OB.var b (mkM d f nm xs vs vt n kn y1 y2)=OB.var b (mkC d f [.lit nm,QF xs,.lit vs,.lit vt,lI (((Ym d.frames d.vars f xs ⟨sk,tg,n,kn,(y1,y2),false⟩).n:Nat):Int),lB ((Ym d.frames d.vars f xs ⟨sk,tg,n,kn,(y1,y2),false⟩).kn),lI ((Ym d.frames d.vars f xs ⟨sk,tg,n,kn,(y1,y2),false⟩).v.1),lI ((Ym d.frames d.vars f xs ⟨sk,tg,n,kn,(y1,y2),false⟩).v.2)])from by first | (rw[e9];done) | (rw[e9];by_cases hq:n+1<xs.length<;>simp[Zb9,hq,e0]))) ?_
  refine tw (ob1 (congrArg (fun z'=>OB.row vs 22 1 ((z').map Zr)) (show sk=((Ym d.frames d.vars f xs ⟨sk,tg,n,kn,(y1,y2),false⟩).sk)from by first | (rw[e9];done) | (rw[e9];exact e2.2) | (rw[e9];unfold Zb9;split<;>rfl)))) ?_
  refine tw (ob2 (congrArg (fun z'=>OB.row vt 22 1 ((z').map Zr)) (show tg=((Ym d.frames d.vars f xs ⟨sk,tg,n,kn,(y1,y2),false⟩).tg)from by first | (rw[e9];done) | (rw[e9];exact e2.2) | (rw[e9];unfold Zb9;split<;>rfl)))) ?_
  exact Ze (fun a w h=>Ye  (m:=0) (vs,vt) rfl h rfl (eB (by first | (rw[e9];done) | (rw[e9];exact e2.2) | (rw[e9];unfold Zb9;split<;>rfl))))
 ·
  try simp at hb1
  have e0:kn=false:=by simpa using hb1
  have e1:=(hi e0).1
  have e3:=(hi e0).2
  refine Zb (nx (Zf (fun a w h=>Y0 (γ:=Nat) (fun ix'=>([.at b 0,.at b 0,.at b 12,.rd (QF xs),.at b 0,.at b 0,.at b 15,.int (n:Nat),.ptr (itC (ge xs n)),.agg (itC (ge xs n)),.any,.any]:List AV).getD ix' .any) (fun _=>true) [(1,fun(g:Nat)=>.at b1 0),(3,fun(g:Nat)=>.at g 0)] (fun(j':Nat) (g:Nat)=>match j' with | 0=>(OB.var b1 [.lit (.pointer (some ⟨b,0,none⟩))]::OB.var b (mkM d f nm xs vs vt n kn y1 y2)::OB.row vs 22 1 (sk.map Zr)::OB.row vt 22 1 (tg.map Zr)::R) | 1=>(OB.var g [lI 0,Zg ([]:List BA),lI 0,lB false]::OB.var b1 [.lit (.pointer (some ⟨b,0,none⟩))]::OB.var b (mkM d f nm xs vs vt n kn y1 y2)::OB.row vs 22 1 (sk.map Zr)::OB.row vt 22 1 (tg.map Zr)::R) | _=>(OB.var g [lI ((ge xs n).kind),Zg ((ge xs n).text),lI ((ge xs n).number),lB ((ge xs n).tagged)]::OB.var b1 [.lit (.pointer (some ⟨b,0,none⟩))]::OB.var b (mkM d f nm xs vs vt n kn y1 y2)::OB.row vs 22 1 (sk.map Zr)::OB.row vt 22 1 (tg.map Zr)::R)) (fun(k':Nat) (g:Nat)=>match k' with | 0=>(.pointer (some ⟨g,0,none⟩)) | 1=>undef | _=>undef) [10,11] 2 0 (fun _=>rfl) h hJ YC rfl rfl rfl rfl rfl rfl hsb ⟨?_,⟨?_,⟨?_,⟨?_,⟨?_,⟨?_,⟨?_,⟨?_,⟨?_,⟨?_,⟨?_,⟨?_,trivial⟩⟩⟩⟩⟩⟩⟩⟩⟩⟩⟩⟩ ⟨?e3_1_0,⟨?e3_1_1,trivial⟩⟩ ⟨.old 0 1 _ rfl rfl,⟨.eff 0 10 3 (fun g=>(.pointer (some ⟨g,0,none⟩))) rfl rfl (fun _=>rfl) (fun _=>True.intro),trivial⟩⟩ ?n3_1)))
  exact fun _ O' hO'=>⟨rfl,fun _ _ _ hx hl _=>Zz Xi rfl (Zi hx (hO' _ (mo 0 rfl))) (hl.env 0 1 _ rfl rfl) rfl hx⟩
  exact oX rfl fun hx hl=>ZA rfl (hl.D 0 9 rfl rfl) hx
  exact oX rfl fun hx hl=>Zw XL rfl (hl.D 1 10 rfl rfl) hx
  exact fun _ O' hO'=>⟨rfl,fun _ _ _ hx hl _=>Zz ZhT rfl (Zi hx (hO' _ (mo 1 rfl))) (hl.D 2 11 rfl rfl) rfl hx⟩
  exact fun _ O' hO'=>⟨rfl,fun _ _ _ hx hl _=>Zz Xi rfl (Zi hx (hO' _ (mo 0 rfl))) (hl.env 0 1 _ rfl rfl) rfl hx⟩
  exact oX rfl fun hx hl=>ZA rfl (hl.D 4 13 rfl rfl) hx
  exact oX rfl fun hx hl=>Zw Xs rfl (hl.D 5 14 rfl rfl) hx
  exact fun _ O' hO'=>⟨rfl,fun _ _ _ hx hl _=>Zz ZaW rfl (Zi hx (hO' _ (mo 1 rfl))) (hl.D 6 15 rfl rfl) rfl hx⟩
  exact oX rfl fun hx hl=>ZO (i:=(n:Int)) Zbi rfl (hl.D 3 12 rfl rfl) (hl.D 7 16 rfl rfl) (Int.natCast_nonneg _) (ZU (xs:=xs) (k:=n) sfz) rfl hx
  exact oX rfl fun hx hl=>Zao Zay rfl (hl.D 8 17 rfl rfl) (Nat.le_refl _) hx
  exact Zn rfl
  exact Zn rfl
  case e3_1_0=>exact⟨_,rfl,rfl,rfl,rfl,fun g _ w hk hx _ _=>ZB (Zbl Zba hJ rfl hk hx) fun v w' ⟨g',hv,hp⟩=>⟨g',rfl,fun k' hk'=>absurd hk' (Nat.not_lt_zero _),fun _=>hv,hp⟩⟩
  case e3_1_1=>exact⟨_,rfl,rfl,rfl,rfl,fun g _ w hk hx hl hs=>(by obtain⟨us2,hv2,hr3⟩:=Q0 (hl.D 9 18 rfl rfl);exact ZB (Xt (S':=S) (off:=0) (news:=U4) (es:=U4) (us:=us2) hJ hJ0 XP rfl hk hx (ZcM (hs 0 10 _ 3 (by omega) rfl rfl rfl)) (by rw[hv2];rfl) hr3 (lb rfl) rfl) fun v w' hp=>⟨g,rfl,fun _ _=>rfl,fun e=>(by cases e),hp⟩)⟩
  clear a w h
  intro b2
  dsimp only[List.map]
  refine nx (Zf (tsq ?_))
  refine sy (.lit (.func (.func 63) #[] #[.pointer (some ⟨b2,0,none⟩),.pointer (some ⟨b1,0,none⟩)])) (fun h=>Zhy (caps:=[(.tmp 3),(.tmp 1)]) rfl (map_cons (h.get 1 rfl).lit (map_cons (h.get 0 rfl).lit map_nil)) h.x) ?_
  refine X0 (O:=[OB.var b2 [lI ((ge xs n).kind),Zg ((ge xs n).text),lI ((ge xs n).number),lB ((ge xs n).tagged)],OB.var b1 [.lit (.pointer (some ⟨b,0,none⟩))],OB.var b (mkM d f nm xs vs vt n kn y1 y2),OB.row vs 22 1 (sk.map Zr),OB.row vt 22 1 (tg.map Zr)]) (R:=(R)) (ZuE hJ b2 b1 b d f nm xs vs vt n kn y1 y2 sk tg (ge xs n) (by exact hsk) sfz (by exact hfr) (by exact hwd) (by exact e3)) Zpn rfl rfl rfl (lb rfl) hS hJ0 Zy (fun a w h=>(Za (h.get 0 rfl) Zh)) fun z3=>?_
  refine snK 1 tb rfl ?_
  refine seK [0,3,4] U3 rfl ?_
  refine nx (qso tb hJ [0,1,2,1001] [_,_] U4 ?_)
  refine cj 3 (fun hb2=>?_) fun hb2=>?_
  ·
   try simp at hb2
   have e2:=gi_err z3 hb2
   have e9:(Ym d.frames d.vars f xs ⟨sk,tg,n,kn,(y1,y2),false⟩)=⟨sk,tg,n,true,(z3.1.1,(n:Int)),false⟩:=ZcI e0 e2.1
   refine Zf (tw pm2 ?_)
   refine fun a w h=>Y0 (γ:=Unit) (fun ix'=>([.at b 0,.int z3.1.1,.at b 0,.at b 0,.at b 15,.int (n:Nat),.any]:List AV).getD ix' .any) (fun _=>true) [] (fun(j':Nat) (g:Unit)=>match j' with | 0=>(OB.var b (mkM d f nm xs z3.1.2.1 vt n kn y1 y2)::OB.var b2 [lI ((ge xs n).kind),Zg ((ge xs n).text),lI ((ge xs n).number),lB ((ge xs n).tagged)]::OB.var b1 [.lit (.pointer (some ⟨b,0,none⟩))]::OB.row z3.1.2.1 22 1 (z3.1.2.2.map Zr)::OB.row vt 22 1 (tg.map Zr)::R) | _=>(OB.var b (mkC d f [.lit nm,QF xs,.lit z3.1.2.1,.lit vt,lI (n:Int),lB true,lI z3.1.1,lI (n:Int)])::OB.var b2 [lI ((ge xs n).kind),Zg ((ge xs n).text),lI ((ge xs n).number),lB ((ge xs n).tagged)]::OB.var b1 [.lit (.pointer (some ⟨b,0,none⟩))]::OB.row z3.1.2.1 22 1 (z3.1.2.2.map Zr)::OB.row vt 22 1 (tg.map Zr)::R)) (fun(k':Nat) (g:Unit)=>match k' with | 0=>(.tuple #[]) | _=>undef) [6] 0 () (fun _=>rfl) h hJ YC rfl rfl rfl rfl rfl rfl hsb ⟨?_,⟨?_,⟨?_,⟨?_,⟨?_,⟨?_,⟨?_,trivial⟩⟩⟩⟩⟩⟩⟩ ⟨?e6_2_0,trivial⟩ trivial ?n6_2
   exact fun _ O' hO'=>⟨rfl,fun _ _ _ hx hl _=>Zz Xi rfl (Zi hx (hO' _ (mo 2 rfl))) (hl.env 1 1 _ rfl rfl) rfl hx⟩
   exact oX rfl fun hx hl=>Z5 rfl (hl.env 0 4 _ rfl rfl) hx
   exact fun _ O' hO'=>⟨rfl,fun _ _ _ hx hl _=>Zz Xi rfl (Zi hx (hO' _ (mo 2 rfl))) (hl.env 1 1 _ rfl rfl) rfl hx⟩
   exact oX rfl fun hx hl=>ZA rfl (hl.D 2 25 rfl rfl) hx
   exact oX rfl fun hx hl=>Zw Xs rfl (hl.D 3 26 rfl rfl) hx
   exact fun _ O' hO'=>⟨rfl,fun _ _ _ hx hl _=>Zz ZaW rfl (Zi hx (hO' _ (mo 0 rfl))) (hl.D 4 27 rfl rfl) rfl hx⟩
   exact Zn rfl
   case e6_2_0=>exact⟨_,rfl,rfl,rfl,rfl,fun g _ w hk hx hl _=>ZB (d_fn (O:=[OB.var b (mkM d f nm xs z3.1.2.1 vt n kn y1 y2)]) (R:=(OB.var b2 [lI ((ge xs n).kind),Zg ((ge xs n).text),lI ((ge xs n).number),lB ((ge xs n).tagged)]::OB.var b1 [.lit (.pointer (some ⟨b,0,none⟩))]::OB.row z3.1.2.1 22 1 (z3.1.2.2.map Zr)::OB.row vt 22 1 (tg.map Zr)::R)) (ZhG hJ b d f nm xs n z3.1.2.1 vt kn y1 y2 z3.1.1 (n:Int)) Ze7 rfl hS hJ0 Zy hk hx (Za (hl.D 0 23 rfl rfl) (Za (hl.D 1 24 rfl rfl) (Za (hl.D 5 28 rfl rfl) Zh)))) fun v w' ⟨i,hp,hv⟩=>⟨g,rfl,fun _ _=>rfl,fun _=>Zgt hv,hp⟩⟩
   clear a w h
   intro _
   dsimp only[List.map]
   refine nx (qso tb hJ [1000] [_] [_] ?_)
   refine tw pm1 ?_
   refine tw ZM ?_
   refine tw pm1 ?_
   refine tw ZM ?_
   refine tw (ob0 (show OB.var b (mkC d f [.lit nm,QF xs,.lit z3.1.2.1,.lit vt,lI (n:Int),lB true,lI z3.1.1,lI (n:Int)])=OB.var b (mkC d f [.lit nm,QF xs,.lit z3.1.2.1,.lit vt,lI (((Ym d.frames d.vars f xs ⟨sk,tg,n,kn,(y1,y2),false⟩).n:Nat):Int),lB ((Ym d.frames d.vars f xs ⟨sk,tg,n,kn,(y1,y2),false⟩).kn),lI ((Ym d.frames d.vars f xs ⟨sk,tg,n,kn,(y1,y2),false⟩).v.1),lI ((Ym d.frames d.vars f xs ⟨sk,tg,n,kn,(y1,y2),false⟩).v.2)])from by first | (rw[e9];done) | (rw[e9];by_cases hq:n+1<xs.length<;>simp[Zb9,hq,e0]))) ?_
   refine tw (ob1 (congrArg (fun z'=>OB.row z3.1.2.1 22 1 ((z').map Zr)) (show z3.1.2.2=((Ym d.frames d.vars f xs ⟨sk,tg,n,kn,(y1,y2),false⟩).sk)from by first | (rw[e9];done) | (rw[e9];exact e2.2) | (rw[e9];unfold Zb9;split<;>rfl)))) ?_
   refine tw (ob2 (congrArg (fun z'=>OB.row vt 22 1 ((z').map Zr)) (show tg=((Ym d.frames d.vars f xs ⟨sk,tg,n,kn,(y1,y2),false⟩).tg)from by first | (rw[e9];done) | (rw[e9];exact e2.2) | (rw[e9];unfold Zb9;split<;>rfl)))) ?_
   exact Ze (fun a w h=>Ye  (m:=0) (z3.1.2.1,vt) rfl h rfl (eB (by first | (rw[e9];done) | (rw[e9];exact e2.2) | (rw[e9];unfold Zb9;split<;>rfl))))
  ·
   try simp at hb2
   have e2:=gi_ok z3 hb2
   have e4:=Zh1 e2
   refine Zb (nx (Zf (ZG tb hJ [1,1001] [.at b2 3,.bool ((ge xs n).tagged)] [0,1] [_,_] rfl ⟨fun _ _ _ hx hl _=>Zw Zct rfl (hl.env 2 3 _ rfl rfl) hx,fun _ _ _ hx hl _=>Zz Zn9 rfl (Zi hx (mo 0 rfl)) (hl.D 0 30 rfl rfl) rfl hx,trivial⟩ ?_)))
   refine cj 1 (fun hb3=>?_) fun hb3=>?_
   ·
    try simp at hb3
    have e9:(Ym d.frames d.vars f xs ⟨sk,tg,n,kn,(y1,y2),false⟩)=Zb9 f xs.length ⟨z3.1.2.2,tg++[ge z3.1.2.2 ((z3.1.2.2.length:Int)-1).toNat],n+1,kn,(y1,y2),true⟩:=by rw[ZcH e0 e2,if_pos hb3]
    refine tw pm2 ?_
    refine tw pm4 ?_
    refine fun a w h=>X1 (OB.var b (mkM d f nm xs z3.1.2.1 vt n kn y1 y2)::OB.var b2 [lI ((ge xs n).kind),Zg ((ge xs n).text),lI ((ge xs n).number),lB ((ge xs n).tagged)]::OB.var b1 [.lit (.pointer (some ⟨b,0,none⟩))]::OB.row z3.1.2.1 22 1 (z3.1.2.2.map Zr)::R) (γ:=Value) (fun ix'=>([.at b 0,.at b 0,.at b 0,.at b 14,.lit vt,.at b 0,.at b 0,.at b 13,.lit z3.1.2.1,.at b 0,.at b 0,.at b 13,.lit z3.1.2.1,.int (z3.1.2.2.length:Nat),.int ((z3.1.2.2.length:Int)-(1:Int)),.lit (XG z3.1.2.1 ((((z3.1.2.2.length:Int)-(1:Int)).toNat)*1)),.rd (Zg (ge z3.1.2.2 (((z3.1.2.2.length:Int)-(1:Int)).toNat))),.rd (Yg ([(ge z3.1.2.2 (((z3.1.2.2.length:Int)-(1:Int)).toNat))])),.any,.at b 0,.at b 14,.any]:List AV).getD ix' .any) (fun _=>true) [(1,fun(g:Value)=>.at b1 0)] (fun(j':Nat) (g:Value)=>match j' with | 0=>(OB.row vt 22 1 (tg.map Zr)::OB.var b (mkM d f nm xs z3.1.2.1 vt n kn y1 y2)::OB.var b2 [lI ((ge xs n).kind),Zg ((ge xs n).text),lI ((ge xs n).number),lB ((ge xs n).tagged)]::OB.var b1 [.lit (.pointer (some ⟨b,0,none⟩))]::OB.row z3.1.2.1 22 1 (z3.1.2.2.map Zr)::R) | 1=>(OB.row g 22 1 ((tg++([(ge z3.1.2.2 (((z3.1.2.2.length:Int)-(1:Int)).toNat))])).map Zr)::OB.var b (mkM d f nm xs z3.1.2.1 vt n kn y1 y2)::OB.var b2 [lI ((ge xs n).kind),Zg ((ge xs n).text),lI ((ge xs n).number),lB ((ge xs n).tagged)]::OB.var b1 [.lit (.pointer (some ⟨b,0,none⟩))]::OB.row z3.1.2.1 22 1 (z3.1.2.2.map Zr)::R) | _=>(OB.row g 22 1 ((tg++([(ge z3.1.2.2 (((z3.1.2.2.length:Int)-(1:Int)).toNat))])).map Zr)::OB.var b (mkM d f nm xs z3.1.2.1 g n kn y1 y2)::OB.var b2 [lI ((ge xs n).kind),Zg ((ge xs n).text),lI ((ge xs n).number),lB ((ge xs n).tagged)]::OB.var b1 [.lit (.pointer (some ⟨b,0,none⟩))]::OB.row z3.1.2.1 22 1 (z3.1.2.2.map Zr)::R)) (fun(k':Nat) (g:Value)=>match k' with | 0=>g | 1=>undef | _=>undef) [18,21] 1 (.slice none 0 0) (fun _=>rfl) h hJ YC rfl rfl rfl rfl rfl rfl hsb ⟨?_,⟨?_,⟨?_,⟨?_,⟨?_,⟨?_,⟨?_,⟨?_,⟨?_,⟨?_,⟨?_,⟨?_,⟨?_,⟨?_,⟨?_,⟨?_,⟨?_,⟨?_,⟨?_,⟨?_,⟨?_,⟨?_,trivial⟩⟩⟩⟩⟩⟩⟩⟩⟩⟩⟩⟩⟩⟩⟩⟩⟩⟩⟩⟩⟩⟩ ⟨?e9_3_0,⟨?e9_3_1,trivial⟩⟩ ⟨.old 0 1 _ rfl rfl,trivial⟩ ?n9_3
    exact fun _ O' hO'=>⟨rfl,fun _ _ _ hx hl _=>Zz Xi rfl (Zi hx (hO' _ (mo 2 rfl))) (hl.env 0 1 _ rfl rfl) rfl hx⟩
    exact fun _ O' hO'=>⟨rfl,fun _ _ _ hx hl _=>Zz Xi rfl (Zi hx (hO' _ (mo 2 rfl))) (hl.env 0 1 _ rfl rfl) rfl hx⟩
    exact oX rfl fun hx hl=>ZA rfl (hl.D 1 33 rfl rfl) hx
    exact oX rfl fun hx hl=>Zw Zcs rfl (hl.D 2 34 rfl rfl) hx
    exact fun _ O' hO'=>⟨rfl,fun _ _ _ hx hl _=>Zz ZaE rfl (Zi hx (hO' _ (mo 0 rfl))) (hl.D 3 35 rfl rfl) rfl hx⟩
    exact fun _ O' hO'=>⟨rfl,fun _ _ _ hx hl _=>Zz Xi rfl (Zi hx (hO' _ (mo 2 rfl))) (hl.env 0 1 _ rfl rfl) rfl hx⟩
    exact oX rfl fun hx hl=>ZA rfl (hl.D 5 37 rfl rfl) hx
    exact oX rfl fun hx hl=>Zw YQ rfl (hl.D 6 38 rfl rfl) hx
    exact fun _ O' hO'=>⟨rfl,fun _ _ _ hx hl _=>Zz ZaE rfl (Zi hx (hO' _ (mo 0 rfl))) (hl.D 7 39 rfl rfl) rfl hx⟩
    exact fun _ O' hO'=>⟨rfl,fun _ _ _ hx hl _=>Zz Xi rfl (Zi hx (hO' _ (mo 2 rfl))) (hl.env 0 1 _ rfl rfl) rfl hx⟩
    exact oX rfl fun hx hl=>ZA rfl (hl.D 9 41 rfl rfl) hx
    exact oX rfl fun hx hl=>Zw YQ rfl (hl.D 10 42 rfl rfl) hx
    exact fun _ O' hO'=>⟨rfl,fun _ _ _ hx hl _=>Zz ZaE rfl (Zi hx (hO' _ (mo 0 rfl))) (hl.D 11 43 rfl rfl) rfl hx⟩
    exact fun _ O' hO'=>⟨rfl,fun _ _ _ hx hl _=>ZcN (by rw[List.length_map]) Qy rfl (Zi hx (hO' _ (mo 3 rfl))) (hl.D 12 44 rfl rfl) hx⟩
    exact oX rfl fun hx hl=>Zcg (i:=(z3.1.2.2.length:Int)) (j:=(1:Int)) rfl (hl.D 13 45 rfl rfl) (Rel.of_lit (.int .i64 1)) sfz sfz hx
    exact fun _ O' hO'=>⟨rfl,fun _ _ _ hx hl _=>Y6 (i:=(z3.1.2.2.length:Int)-(1:Int)) ZH rfl (Zi hx (hO' _ (mo 3 rfl))) (hl.D 8 40 rfl rfl) (hl.D 14 46 rfl rfl) sfz (by rw[List.length_map];exact sfz) hx⟩
    exact fun _ O' hO'=>⟨rfl,fun _ _ _ hx hl _=>Qe (i:=((z3.1.2.2.length:Int)-(1:Int)).toNat) XI rfl (Zi hx (hO' _ (mo 3 rfl))) (hl.D 15 47 rfl rfl) (Q4 (xs:=z3.1.2.2) (k:=((z3.1.2.2.length:Int)-(1:Int)).toNat) sfz) hx⟩
    exact oY rfl fun hk hx hl=>YD ZH Za8 rfl (hl.D 16 48 rfl rfl) (Zp hS _ hk hx _ (Nat.le_refl _)) (jo hJ hx)
    exact Zn rfl
    exact oX rfl fun hx hl=>ZA rfl (hl.D 0 32 rfl rfl) hx
    exact oX rfl fun hx hl=>Zw Zcs rfl (hl.D 19 51 rfl rfl) hx
    exact Zn rfl
    case e9_3_0=>exact⟨_,rfl,rfl,rfl,rfl,fun _ _ w hk hx hl _=>ZB (Qp (f:=Zr) tg ([(ge z3.1.2.2 (((z3.1.2.2.length:Int)-(1:Int)).toNat))]) (fun _=>rfl) QZ hJ hJ0 rfl hk hx (hl.D 4 36 rfl rfl).lit (hl.D 17 49 rfl rfl) sfz sfz) fun v w' hp=>⟨v,rfl,fun k' hk'=>absurd hk' (Nat.not_lt_zero _),fun _=>rfl,hp⟩⟩
    case e9_3_1=>exact⟨_,rfl,rfl,rfl,rfl,fun g _ w hk hx hl hs=>ZB (ZgQ (off:=14) (cs:=(mkM d f nm xs z3.1.2.1 vt n kn y1 y2)) (es:=(mkM d f nm xs z3.1.2.1 g n kn y1 y2)) (c:=.lit g) hJ hJ0 ZbE rfl hk hx (hl.D 20 52 rfl rfl) (by rw[(hs 0 18 _ 50 (by omega) rfl rfl rfl)];exact Rel.of_lit _ (Zan (hx.2.1 _ (mo 0 rfl)))) (lb rfl) rfl) fun v w' hp=>⟨g,rfl,fun _ _=>rfl,fun e=>(by cases e),hp⟩⟩
    clear a w h
    intro v4
    dsimp only[List.map]
    refine nx (tsq ?_)
    refine sy (.at b 0) (fun h=>Zz Xi rfl (Zi h.x (mo 3 rfl)) (h.get 0 rfl) rfl h.x) ?_
    refine sy (.at b 0) (fun h=>ZA rfl (h.get 0 rfl) h.x) ?_
    refine sy (.at b 15) (fun h=>Zw Xs rfl (h.get 0 rfl) h.x) ?_
    refine sy (.int (n:Nat)) (fun h=>Zz ZaW rfl (Zi h.x (mo 1 rfl)) (h.get 0 rfl) rfl h.x) ?_
    refine sy (.int (n+1:Nat)) (fun h=>Zfo (i:=(n:Int)) (j:=(1:Int)) rfl (h.get 0 rfl) (Rel.of_lit (.int .i64 1)) sfz sfz h.x) ?_
    refine sy (.at b 0) (fun h=>ZA rfl (h.get 4 rfl) h.x) ?_
    refine sy (.at b 15) (fun h=>Zw Xs rfl (h.get 0 rfl) h.x) ?_
    refine kw pm1 ?_
    refine Yc (b:=b) (off:=15) (cs:=(mkM d f nm xs z3.1.2.1 v4 n kn y1 y2)) (es:=(mkC d f [.lit nm,QF xs,.lit z3.1.2.1,.lit v4,lI ((n+1:Nat):Int),lB kn,lI y1,lI y2])) hJ hJ0 ZbY rfl rfl rfl (lb rfl) rfl (fun a w h=>⟨(h.get 0 rfl),(h.get 2 rfl)⟩) ?_
    refine seK [7] [_] rfl ?_
    refine nx (tsq ?_)
    refine sy (.at b 0) (fun h=>Zz Xi rfl (Zi h.x (mo 3 rfl)) (h.get 0 rfl) rfl h.x) ?_
    refine kw pm3 ?_
    refine kw pm3 ?_
    refine kw pm3 ?_
    refine kw pm4 ?_
    refine kw pm4 ?_
    refine X0 (O:=[OB.var b (mkC d f [.lit nm,QF xs,.lit z3.1.2.1,.lit v4,lI ((n+1:Nat):Int),lB kn,lI y1,lI y2]),OB.row z3.1.2.1 22 1 (z3.1.2.2.map Zr)]) (R:=(OB.row v4 22 1 ((tg++([(ge z3.1.2.2 (((z3.1.2.2.length:Int)-(1:Int)).toNat))])).map Zr)::OB.var b2 [lI ((ge xs n).kind),Zg ((ge xs n).text),lI ((ge xs n).number),lB ((ge xs n).tagged)]::OB.var b1 [.lit (.pointer (some ⟨b,0,none⟩))]::R)) (ZuH hJ b d f nm xs z3.1.2.1 v4 (n+1) kn y1 y2 z3.1.2.2) Zjy rfl rfl rfl (lb rfl) hS hJ0 Zy (fun a w h=>(Za (h.get 0 rfl) Zh)) fun _=>?_
    refine seK [] [] rfl ?_
    refine nx (qso tb hJ [1000] [_] [_] ?_)
    refine tw pm3 ?_
    refine tw ZM ?_
    refine tw pm3 ?_
    refine tw ZM ?_
    refine tw (ob0 (show OB.var b (mkC d f [.lit nm,QF xs,.lit z3.1.2.1,.lit v4,lI (((n+1):Nat):Int),lB (kn|| !decide ((n+1)<xs.length)),lI (if(n+1)<xs.length then y1 else(Zc1 f z3.1.2.2 (n+1)).1),lI (if(n+1)<xs.length then y2 else(Zc1 f z3.1.2.2 (n+1)).2)])=OB.var b (mkC d f [.lit nm,QF xs,.lit z3.1.2.1,.lit v4,lI (((Ym d.frames d.vars f xs ⟨sk,tg,n,kn,(y1,y2),false⟩).n:Nat):Int),lB ((Ym d.frames d.vars f xs ⟨sk,tg,n,kn,(y1,y2),false⟩).kn),lI ((Ym d.frames d.vars f xs ⟨sk,tg,n,kn,(y1,y2),false⟩).v.1),lI ((Ym d.frames d.vars f xs ⟨sk,tg,n,kn,(y1,y2),false⟩).v.2)])from by first | (rw[e9];done) | (rw[e9];by_cases hq:n+1<xs.length<;>simp[Zb9,hq,e0]))) ?_
    refine tw (ob1 (congrArg (fun z'=>OB.row z3.1.2.1 22 1 ((z').map Zr)) (show z3.1.2.2=((Ym d.frames d.vars f xs ⟨sk,tg,n,kn,(y1,y2),false⟩).sk)from by first | (rw[e9];done) | (rw[e9];exact e2.2) | (rw[e9];unfold Zb9;split<;>rfl)))) ?_
    refine tw (ob2 (congrArg (fun z'=>OB.row v4 22 1 ((z').map Zr)) (show(tg++([(ge z3.1.2.2 (((z3.1.2.2.length:Int)-(1:Int)).toNat))]))=((Ym d.frames d.vars f xs ⟨sk,tg,n,kn,(y1,y2),false⟩).tg)from by first | (rw[e9];done) | (rw[e9];exact e2.2) | (rw[e9];unfold Zb9;split<;>rfl)))) ?_
    exact Ze (fun a w h=>Ye  (m:=0) (z3.1.2.1,v4) rfl h rfl (eB (by first | (rw[e9];done) | (rw[e9];exact e2.2) | (rw[e9];unfold Zb9;split<;>rfl))))
   ·
    try simp at hb3
    have e9:(Ym d.frames d.vars f xs ⟨sk,tg,n,kn,(y1,y2),false⟩)=Zb9 f xs.length ⟨z3.1.2.2,tg,n+1,kn,(y1,y2),true⟩:=by rw[ZcH e0 e2,if_neg (by simp[hb3])]
    refine Zb (nx (tsq ?_))
    refine sy (.at b 0) (fun h=>Zz Xi rfl (Zi h.x (mo 1 rfl)) (h.get 0 rfl) rfl h.x) ?_
    refine sy (.at b 0) (fun h=>ZA rfl (h.get 0 rfl) h.x) ?_
    refine sy (.at b 15) (fun h=>Zw Xs rfl (h.get 0 rfl) h.x) ?_
    refine sy (.int (n:Nat)) (fun h=>Zz ZaW rfl (Zi h.x (mo 2 rfl)) (h.get 0 rfl) rfl h.x) ?_
    refine sy (.int (n+1:Nat)) (fun h=>Zfo (i:=(n:Int)) (j:=(1:Int)) rfl (h.get 0 rfl) (Rel.of_lit (.int .i64 1)) sfz sfz h.x) ?_
    refine sy (.at b 0) (fun h=>ZA rfl (h.get 4 rfl) h.x) ?_
    refine sy (.at b 15) (fun h=>Zw Xs rfl (h.get 0 rfl) h.x) ?_
    refine kw pm2 ?_
    refine Yc (b:=b) (off:=15) (cs:=(mkM d f nm xs z3.1.2.1 vt n kn y1 y2)) (es:=(mkC d f [.lit nm,QF xs,.lit z3.1.2.1,.lit vt,lI ((n+1:Nat):Int),lB kn,lI y1,lI y2])) hJ hJ0 ZbY rfl rfl rfl (lb rfl) rfl (fun a w h=>⟨(h.get 0 rfl),(h.get 2 rfl)⟩) ?_
    refine seK [7] [_] rfl ?_
    refine nx (tsq ?_)
    refine sy (.at b 0) (fun h=>Zz Xi rfl (Zi h.x (mo 2 rfl)) (h.get 0 rfl) rfl h.x) ?_
    refine kw pm4 ?_
    refine kw pm3 ?_
    refine kw pm3 ?_
    refine kw pm4 ?_
    refine kw pm4 ?_
    refine X0 (O:=[OB.var b (mkC d f [.lit nm,QF xs,.lit z3.1.2.1,.lit vt,lI ((n+1:Nat):Int),lB kn,lI y1,lI y2]),OB.row z3.1.2.1 22 1 (z3.1.2.2.map Zr)]) (R:=(OB.var b2 [lI ((ge xs n).kind),Zg ((ge xs n).text),lI ((ge xs n).number),lB ((ge xs n).tagged)]::OB.var b1 [.lit (.pointer (some ⟨b,0,none⟩))]::OB.row vt 22 1 (tg.map Zr)::R)) (ZuH hJ b d f nm xs z3.1.2.1 vt (n+1) kn y1 y2 z3.1.2.2) Zjy rfl rfl rfl (lb rfl) hS hJ0 Zy (fun a w h=>(Za (h.get 0 rfl) Zh)) fun _=>?_
    refine seK [] [] rfl ?_
    refine nx (qso tb hJ [1000] [_] [_] ?_)
    refine tw pm2 ?_
    refine tw ZM ?_
    refine tw pm2 ?_
    refine tw ZM ?_
    refine tw (ob0 (show OB.var b (mkC d f [.lit nm,QF xs,.lit z3.1.2.1,.lit vt,lI (((n+1):Nat):Int),lB (kn|| !decide ((n+1)<xs.length)),lI (if(n+1)<xs.length then y1 else(Zc1 f z3.1.2.2 (n+1)).1),lI (if(n+1)<xs.length then y2 else(Zc1 f z3.1.2.2 (n+1)).2)])=OB.var b (mkC d f [.lit nm,QF xs,.lit z3.1.2.1,.lit vt,lI (((Ym d.frames d.vars f xs ⟨sk,tg,n,kn,(y1,y2),false⟩).n:Nat):Int),lB ((Ym d.frames d.vars f xs ⟨sk,tg,n,kn,(y1,y2),false⟩).kn),lI ((Ym d.frames d.vars f xs ⟨sk,tg,n,kn,(y1,y2),false⟩).v.1),lI ((Ym d.frames d.vars f xs ⟨sk,tg,n,kn,(y1,y2),false⟩).v.2)])from by first | (rw[e9];done) | (rw[e9];by_cases hq:n+1<xs.length<;>simp[Zb9,hq,e0]))) ?_
    refine tw (ob1 (congrArg (fun z'=>OB.row z3.1.2.1 22 1 ((z').map Zr)) (show z3.1.2.2=((Ym d.frames d.vars f xs ⟨sk,tg,n,kn,(y1,y2),false⟩).sk)from by first | (rw[e9];done) | (rw[e9];exact e2.2) | (rw[e9];unfold Zb9;split<;>rfl)))) ?_
    refine tw (ob2 (congrArg (fun z'=>OB.row vt 22 1 ((z').map Zr)) (show tg=((Ym d.frames d.vars f xs ⟨sk,tg,n,kn,(y1,y2),false⟩).tg)from by first | (rw[e9];done) | (rw[e9];exact e2.2) | (rw[e9];unfold Zb9;split<;>rfl)))) ?_
    exact Ze (fun a w h=>Ye  (m:=0) (z3.1.2.1,vt) rfl h rfl (eB (by first | (rw[e9];done) | (rw[e9];exact e2.2) | (rw[e9];unfold Zb9;split<;>rfl))))
theorem Ziu:ZbV Tryz.prog 204 2:=⟨#[.slice none 0 0,.slice none 0 0],rfl,fun i=>some (i*1,1),fun j _=>(show some (j*1,1)=some (j,1) by rw[Nat.mul_one]),fun parts=>by kernel_rfl⟩
theorem Zis:Zdf Tryz.prog 61 [.string ⟨#[]⟩,.bool false,.slice none 0 0]:=⟨fun i=>(#[(0,1),(1,1),(2,1)]:Array (Nat×Nat))[i]?,fun j hj=>by rcases j with _ | _ | _ | j<;>first | rfl | (simp at hj;omega),fun parts=>by kernel_rfl⟩
theorem Zut {J:World→Prop} (hJ:Stab J) (l:List BA)  :Fn Tryz.prog J 109 [.rd (Zg l)] (.bool (Qw l)):=by
 refine Zo (N:=19) Tryz.func109 rfl rfl (lb rfl) fun S w0 hS hJ0=>?_
 refine tw Z1 ?_
 refine ln 0 fun hl1=>?_
 refine qso tb hJ [0] [_] [_] ?_
 refine tsq ?_
 refine ZbD keyS hJ rfl rfl rfl (lb rfl) fun m1=>?_
 refine snK 1 tb rfl ?_
 refine seK [0,2] [_,_] rfl ?_
 refine nx (Zf (ZG tb hJ [0,1000,1001,1002] [_,.int (l.length:Nat),_] [1] U4 rfl ⟨Z2 Zm,trivial⟩ ?_))
 refine Zc (lpo (ι:=Nat×(List BA)) (fun(k,ys)=>(k≤l.length)∧(ys=Qv (l.take k))∧(∀ j,j<k→¬ ge l j∈l.take j)) (fun(_,ys)=>[OB.set keyS m1 ys]) (fun(k,_)=>[(9,.int (k:Nat))]) (fun(k,_)=>l.length-k) [0,1,2,3] U3 (0,([]:List BA)) ⟨Nat.zero_le _,rfl,fun j hj=>by omega⟩ ?_)
 rintro⟨k,ys⟩ ⟨f1_1,f1_2,f1_3⟩
 refine qso tb hJ [0,1,2,3,1000] [_] U5 ?_
 refine cjS 4 (fun hb1=>?_) fun hb1=>?_
 try simp at hb1
 refine Zb (nx (Zf (Zc (ZG tb hJ [0,1,2,3,1002] [.ptr [lS (ge l k)],_,_] [0] U5 rfl ⟨iIx Zd,trivial⟩ ?_))))
 refine Zf (ZG tb hJ (r5 [1002]) [_,_,.bool (decide ((ge l k)∈ys))] [2] U6 rfl ⟨fun _ _ _ hx hl _=>YE (Kd:=keyS) (xs:=ys) QD Yf (ge l k) rfl (Zi hx (mo 0 rfl)) (hl.D 0 13 rfl rfl) (hl.D 1 14 rfl rfl) hx,trivial⟩ ?_)
 refine cj 5 (fun hb2=>?_) fun hb2=>?_
 try simp at hb2
 refine qso tb hJ [1000] [_] [_] ?_
 exact Ze (Xe (m:=0) rfl rfl (eB (by rw[Zem (by omega) (by rw[f1_2]at hb2;simpa [mem_lstL]using hb2)])))
 try simp at hb2
 refine Zb (nx (ZE (snK 2 tb rfl ?_)))
 refine Zco QD hJ hJ0 (ge l k) rfl rfl (.inl rfl) (fun a w h=>⟨(h.get 1 rfl),(h.get 0 rfl),(Rel.of_lit (.bool true))⟩) ?_
 refine seK [2,3,4,5] U4 rfl ?_
 refine nx (Yu tb hJ [0,1,2,1001] [.int (k+1:Nat),_] [0] U4 rfl ⟨Ya,trivial⟩ ?_)
 exact YH (k+1,QN ys (ge l k)) [0,1,2,3] ⟨by omega,by rw[ZhX (by omega),←f1_2],ZK f1_3 (by rw[f1_2]at hb2;simpa [mem_lstL]using hb2)⟩
 try simp at hb1
 refine Zt (nx (qso tb hJ [1000] [_] [_] ?_))
 exact Ze (Xe (m:=0) rfl rfl (eB (by rw[Zgj fun j hj=>f1_3 j (by omega)])))
theorem p_Hyp {J:World→Prop} (hJ:Stab J) (f:Fr) (s:BA) (ht:∀ h∈f.hyps++f.dummies,h.text.length≤2000):Fn Tryz.prog J 140 [.agg (frC f),.str s] (.tup [.agg (hyC ((Qt f s).getD default)),.bool ((Qt f s).isSome)]):=by
 refine Zo (N:=33) Tryz.func140 rfl rfl (lb rfl) fun S w0 hS hJ0=>?_
 refine tw Z1 ?_
 refine tsq ?_
 refine sy (.ptr (frC f)) (fun h=>Yq rfl (h.get 0 rfl) (Zp hS _ h.keep h.x _ (Nat.le_refl _)) (jo hJ h.x)) ?_
 refine Z4 YJ hJ rfl rfl rfl (lb rfl) fun b1=>?_
 refine snK 1 tb rfl ?_
 refine seK [1,2,4] U3 rfl ?_
 refine nx (Zf (ZG tb hJ [0,2,1001,1003,1004,1005] [_,_,_,_,.agg [Xm f.hyps,Xm f.dummies],_] [4] U6 rfl ⟨fun a _ _ hx hl _=>Xr (us:=[a.eval (.tmp 11),a.eval (.tmp 13)]) Ziu rfl (by simp) (Zk (hl.D 1 11 rfl rfl) (Zk (hl.D 3 13 rfl rfl) ZJ)) rfl hx,trivial⟩ ?_))
 refine ln 2 fun hl1=>?_
 refine ln 3 fun hl2=>?_
 refine Zc (lpo (ι:=Nat) (fun k=>(k≤2)∧(∀ i,i<k→∀ h∈Zdm f.hyps f.dummies i,¬ h.label=s)) (fun _=>[OB.var b1 [lS (⟨#[]⟩:BA),lB false,Zg ([]:List BA)]]) (fun k=>[(15,.int (k:Nat))]) (fun k=>2-k) [0,1,4,5] U3 0 ⟨Nat.zero_le _,fun i hi=>by omega⟩ ?_)
 rintro k ⟨f1_1,f1_2⟩
 refine qso tb hJ [0,1,2,3,1000] [_] U5 ?_
 refine cjS 4 (fun hb1=>?_) fun hb1=>?_
 try simp at hb1
 refine Zb (nx (Zf (Zc (ZG tb hJ [0,1,2,3,1000,1001] [.rd (Xm (Zdm f.hyps f.dummies k)),_] [0] U6 rfl ⟨fun _ _ _ hx hl _=>Zkg (c:=Xm (Zdm f.hyps f.dummies k)) Zgi ZdK Znd rfl (hl.env 2 14 _ rfl rfl) (hl.env 3 15 _ rfl rfl) (Int.natCast_nonneg _) rfl (two_at sfz) hx,trivial⟩ ?_))))
 refine ln 4 fun hl3=>?_
 refine ZG tb hJ [0,1,2,3,1000,1001,1002] [_,.int ((Zdm f.hyps f.dummies k).length:Nat),_] [1] U7 rfl ⟨Z2 Zx,trivial⟩ ?_
 refine Zc (lpo (ι:=Nat) (fun j=>(j≤(Zdm f.hyps f.dummies k).length)∧(∀ i,i<j→¬ (ge (Zdm f.hyps f.dummies k) i).label=s)) (fun _=>[OB.var b1 [lS (⟨#[]⟩:BA),lB false,Zg ([]:List BA)]]) (fun j=>[(20,.int (j:Nat))]) (fun j=>(Zdm f.hyps f.dummies k).length-j) (r7 []) U6 0 ⟨Nat.zero_le _,fun i hi=>by omega⟩ ?_)
 rintro j ⟨f2_1,f2_2⟩
 refine qso tb hJ (r7 [1000]) [_] U8 ?_
 refine cjS 7 (fun hb2=>?_) fun hb2=>?_
 try simp at hb2
 refine Zb (nx (Zf (Zc (tsq ?_))))
 refine sy (.ptr (hyC (ge (Zdm f.hyps f.dummies k) j))) (fun h=>ZO (i:=(j:Int)) Zq rfl (h.get 4 rfl) (h.get 6 rfl) (Int.natCast_nonneg _) (ZU (xs:=(Zdm f.hyps f.dummies k)) (k:=j) sfz) rfl h.x) ?_
 refine snK 1 tb rfl ?_
 refine XZ (cs:=hyC (ge (Zdm f.hyps f.dummies k) j)) ZbX rfl rfl rfl (lb rfl) rfl rfl rfl (by decide) (m:=0) rfl rfl (fun a w h=>Zp hS _ h.keep h.x _ (Nat.le_refl _)) (fun a w h w' hk'=>Yz hJ _ _ hk' h.x) ?_
 refine seK [0,3,4,5,6,7,8,9] U8 rfl ?_
 refine nx (qso tb hJ (r8 [1003]) U4 U9 ?_)
 refine cj 8 (fun hb3=>?_) fun hb3=>?_
 try simp at hb3
 have e3:=ZeK (by omega) f1_2 hb2 f2_2 hb3
 refine tsq ?_
 refine snK 1 tb rfl ?_
 refine sy (.agg (hyC (ge (Zdm f.hyps f.dummies k) j))) (fun h=>Zbw (Zko hJ (ge (Zdm f.hyps f.dummies k) j) (by have h9:=ht _ (Zt3 (k:=k) (Zv hb2));omega)) Zph rfl (Zp hS _ h.keep h.x) (h.x.1) (Za (h.get 0 rfl) Zh) (jo hJ h.x)) ?_
 refine ZD (b:=b1) (off:=0) (es:=U3) (news:=U3) hJ hJ0 YL rfl rfl rfl (lb rfl) rfl (fun a w h=>⟨(h.get 3 rfl),(h.get 0 rfl)⟩) ?_
 refine snK 1 tb rfl ?_
 refine seK [0,4] [_,_] rfl ?_
 exact nx (Ze (fun a w h=>Q1 (m:=1) (q:=0) rfl XU h rfl rfl (show(_:List CD)=[lS (((Qt f s).getD default).label),lB (((Qt f s).getD default).floating),Zg (((Qt f s).getD default).text)]from by rw[e3];rfl) rfl (eB (by rw[e3];rfl))))
 try simp at hb3
 refine Zb (nx (Yu tb hJ [1,2,3,4,5,6,1001] [.int (j+1:Nat),_] [0] U7 rfl ⟨Ya,trivial⟩ ?_))
 exact YH (j+1) (r7 []) ⟨by omega,ZK f2_2 hb3⟩
 try simp at hb2
 refine Zt (nx (Yu tb hJ [0,1,2,1001] [.int (k+1:Nat),_] [0] U4 rfl ⟨Ya,trivial⟩ ?_))
 exact YH (k+1) [0,1,2,3] ⟨by omega,ZK f1_2 fun h hm=>by obtain⟨i,hi,rfl⟩:=Xj hm;exact f2_2 i (by omega)⟩
 try simp at hb1
 refine Zt (nx (tsq ?_))
 refine sy (.agg (hyC (⟨⟨#[]⟩,false,[]⟩:Hy))) (fun h=>Yh (ps:=[]) (us:=[.string ⟨#[]⟩,.bool false,.slice none 0 0]) Zis rfl (by simp) Zdd rfl (YB (.lit _ (Nat.zero_le _)) (YB (.lit _ True.intro) (YB (.nil _ _ (Nat.zero_le _)) ZJ))) h.x) ?_
 refine ZD (b:=b1) (off:=0) (es:=U3) (news:=U3) hJ hJ0 YL rfl rfl rfl (lb rfl) rfl (fun a w h=>⟨(h.get 1 rfl),(h.get 0 rfl)⟩) ?_
 refine snK 1 tb rfl ?_
 refine seK [0,2] [_,_] rfl ?_
 exact nx (Ze (fun a w h=>Q1 (m:=1) (q:=0) rfl XU h rfl rfl (show(_:List CD)=[lS (((Qt f s).getD default).label),lB (((Qt f s).getD default).floating),Zg (((Qt f s).getD default).text)]from by rw[ZeL fun i hi=>f1_2 i (by omega)];rfl) rfl (eB (by rw[ZeL fun i hi=>f1_2 i (by omega)];rfl))))
theorem QH:Zdf Tryz.prog 106 [.int .i64 0,.slice none 0 0,.int .i64 0,.bool false]:=⟨fun i=>(#[(0,1),(1,1),(2,1),(3,1)]:Array (Nat×Nat))[i]?,fun j hj=>by rcases j with _ | _ | _ | _ | j<;>first | rfl | (simp at hj;omega),fun parts=>by kernel_rfl⟩
theorem ZnS {J:World→Prop} (hJ:Stab J) (b:Nat) (d:Db) (f:Fr) (M:Nat) (L:List (BA×Int)) (vi:Value) (vs:Value) (vt:Value) (n:Nat) (kn:Bool) (y1:Int) (y2:Int) (s:BA) (ht:∀ h∈f.hyps++f.dummies,h.text.length≤2000):FnR Tryz.prog J 105 [OB.var b (mkR d f M vi vs vt n kn y1 y2),OB.mI M L] [.at b 0,.str s] (.agg (itC (Yn f L s))):=by
 refine Yo (N:=38) Tryz.func105 rfl rfl (lb rfl) fun S w0 hS hJ0 hH=>?_
 refine tw Z1 ?_
 refine tsq ?_
 refine Z4 Zba hJ rfl rfl rfl (lb rfl) fun b1=>?_
 refine seK [0,1,2] U3 rfl ?_
 refine nx (Zf (qso tb hJ [0,1,2,1001] [_,_] U4 ?_))
 refine cj 3 (fun hb1=>?_) fun hb1=>?_
 try simp at hb1
 refine tsq ?_
 refine sq (.agg (itC (⟨(0:Int),[],0,false⟩:Itm))) rfl rfl (lb rfl) (fun a _ h=>Yh (ps:=[(0,a.eval (.const (.int .i64 0)))]) (us:=[a.eval (.const (.int .i64 0)),.slice none 0 0,.int .i64 0,.bool false]) QH rfl (by simp) (Zcy (lb rfl) rfl Zdd) rfl (Zk (Rel.of_lit (.int .i64 0)) (YB (.nil _ _ (Nat.zero_le _)) (YB (.lit _ True.intro) (YB (.lit _ True.intro) ZJ)))) h.x) ?_
 refine ZD (b:=b1) (off:=0) (es:=U4) (news:=U4) hJ hJ0 XP rfl rfl rfl (lb rfl) rfl (fun a w h=>⟨(h.get 1 rfl),(h.get 0 rfl)⟩) ?_
 refine seK [1] [_] rfl ?_
 exact nx (Ze (fun a w h=>X3 (m:=0) rfl Zay h rfl rfl (show(_:List CD)=[lI ((Yn f L s).kind),Zg ((Yn f L s).text),lI ((Yn f L s).number),lB ((Yn f L s).tagged)]from by first | (rw[Zi7 hb1];done) | (rw[Zi7 hb1];rfl))))
 try simp at hb1
 refine Zb (nx (Zf (tsq ?_)))
 refine snK 1 tb rfl ?_
 refine sy (.at b 0) (fun h=>ZA rfl (h.get 0 rfl) h.x) ?_
 refine sy (.at b 3) (fun h=>Zw Zag rfl (h.get 0 rfl) h.x) ?_
 refine sy (.agg (frC f)) (fun h=>YP (ds:=[lS f.label,lB f.thm,Xm f.hyps,Xc f.apart,Zg f.text,Xm f.dummies,Xc f.wide,Zg f.proof]) Zhc rfl (Yr hH h.keep h.x (mo 0 rfl)) (h.get 0 rfl) rfl rfl h.x) ?_
 refine snK 1 tb rfl ?_
 refine sy (.tup [.agg (hyC ((Qt f s).getD default)),.bool ((Qt f s).isSome)]) (fun h=>Zbw (p_Hyp hJ f s sfz) Zsj rfl (Zp hS _ h.keep h.x) (h.x.1) (Za (h.get 1 rfl) (Za (h.get 0 rfl) Zh)) (jo hJ h.x)) ?_
 refine snK 3 tb rfl ?_
 refine XZ (cs:=hyC ((Qt f s).getD default)) ZbX rfl rfl rfl (lb rfl) rfl rfl rfl (by decide) (m:=1) rfl rfl (fun a w h=>Zp hS _ h.keep h.x _ (Nat.le_refl _)) (fun a w h w' hk'=>Yz hJ _ _ hk' h.x) ?_
 refine snK 1 tb rfl ?_
 refine seK [0,1,11,12,13] U5 rfl ?_
 refine nx (qso tb hJ [1,2,3,4,1000] [_] U5 ?_)
 refine cj 4 (fun hb2=>?_) fun hb2=>?_
 try simp at hb2
 refine tsq ?_
 refine snK 2 tb rfl ?_
 refine sq (.agg (itC (⟨(1:Int),((Qt f s).getD default).text,0,false⟩:Itm))) rfl rfl (lb rfl) (fun a _ h=>Yh (ps:=[(0,a.eval (.const (.int .i64 1))),(1,a.eval (.tmp 23))]) (us:=[a.eval (.const (.int .i64 1)),a.eval (.tmp 23),.int .i64 0,.bool false]) QH rfl (by simp) (Zcy (lb rfl) rfl (Zcy (lb rfl) (Rel.oneC (h.get 0 rfl)) Zdd)) rfl (Zk (Rel.of_lit (.int .i64 1)) (Zk (h.get 0 rfl) (YB (.lit _ True.intro) (YB (.lit _ True.intro) ZJ)))) h.x) ?_
 refine ZD (b:=b1) (off:=0) (es:=U4) (news:=U4) hJ hJ0 XP rfl rfl rfl (lb rfl) rfl (fun a w h=>⟨(h.get 4 rfl),(h.get 0 rfl)⟩) ?_
 refine seK [1,4] [_,_] rfl ?_
 refine nx (ln 0 fun hl1=>?_)
 exact Ze (fun a w h=>X3 (m:=1) rfl Zay h rfl rfl (show(_:List CD)=[lI ((Yn f L s).kind),Zg ((Yn f L s).text),lI ((Yn f L s).number),lB ((Yn f L s).tagged)]from by first | (rw[ZgD hb1 (by simp[hb2])];done) | (rw[ZgD hb1 (by simp[hb2])];rfl)))
 try simp at hb2
 refine Zb (nx (Zf (ZG tb hJ [1,1009,1010] [_,.at b 0,.at b 11,.lit (.map (some M)),_,.tup [.int ((ZZ L s).getD default),.bool ((ZZ L s).isSome)],_,_,_,_,_] [1,2,3,5] U3 rfl ⟨fun _ _ _ hx hl _=>ZA rfl (hl.D 0 26 rfl rfl) hx,fun _ _ _ hx hl _=>Zw ZeR rfl (hl.D 1 27 rfl rfl) hx,fun _ _ hk hx hl _=>Zz Ztt rfl (Yr hH hk hx (mo 0 rfl)) (hl.D 2 28 rfl rfl) rfl hx,fun _ _ hk hx hl _=>Ql (Kd:=keyS) (f:=(fun z':Int=>AV.int z')) (L:=L) ZeC ZiG s rfl (Yr hH hk hx (mo 1 rfl)) (hl.D 3 29 rfl rfl) (hl.D 4 30 rfl rfl) hx,trivial⟩ ?_)))
 refine qso tb hJ [0,1,1000] [_] U3 ?_
 refine cj 2 (fun hb3=>?_) fun hb3=>?_
 try simp at hb3
 refine tsq ?_
 refine snK 1 tb rfl ?_
 refine sq (.agg (itC (⟨(2:Int),[],((ZZ L s).getD default),false⟩:Itm))) rfl rfl (lb rfl) (fun a _ h=>Yh (ps:=[(0,a.eval (.const (.int .i64 2))),(2,a.eval (.tmp 35))]) (us:=[a.eval (.const (.int .i64 2)),.slice none 0 0,a.eval (.tmp 35),.bool false]) QH rfl (by simp) (Zcy (lb rfl) rfl (Zcy (lb rfl) (Rel.oneC (h.get 0 rfl)) Zdd)) rfl (Zk (Rel.of_lit (.int .i64 2)) (YB (.nil _ _ (Nat.zero_le _)) (Zk (h.get 0 rfl) (YB (.lit _ True.intro) ZJ)))) h.x) ?_
 refine ZD (b:=b1) (off:=0) (es:=U4) (news:=U4) hJ hJ0 XP rfl rfl rfl (lb rfl) rfl (fun a w h=>⟨(h.get 2 rfl),(h.get 0 rfl)⟩) ?_
 refine seK [2] [_] rfl ?_
 exact nx (Ze (fun a w h=>X3 (m:=0) rfl Zay h rfl rfl (show(_:List CD)=[lI ((Yn f L s).kind),Zg ((Yn f L s).text),lI ((Yn f L s).number),lB ((Yn f L s).tagged)]from by first | (rw[Zi6 hb1 (by simp[hb2]) (by simp[hb3])];done) | (rw[Zi6 hb1 (by simp[hb2]) (by simp[hb3])];rfl))))
 try simp at hb3
 refine Zb (nx (tsq ?_))
 refine sq (.agg (itC (⟨(3:Int),[],0,false⟩:Itm))) rfl rfl (lb rfl) (fun a _ h=>Yh (ps:=[(0,a.eval (.const (.int .i64 3)))]) (us:=[a.eval (.const (.int .i64 3)),.slice none 0 0,.int .i64 0,.bool false]) QH rfl (by simp) (Zcy (lb rfl) rfl Zdd) rfl (Zk (Rel.of_lit (.int .i64 3)) (YB (.nil _ _ (Nat.zero_le _)) (YB (.lit _ True.intro) (YB (.lit _ True.intro) ZJ)))) h.x) ?_
 refine ZD (b:=b1) (off:=0) (es:=U4) (news:=U4) hJ hJ0 XP rfl rfl rfl (lb rfl) rfl (fun a w h=>⟨(h.get 1 rfl),(h.get 0 rfl)⟩) ?_
 refine seK [1] [_] rfl ?_
 exact nx (Ze (fun a w h=>X3 (m:=0) rfl Zay h rfl rfl (show(_:List CD)=[lI ((Yn f L s).kind),Zg ((Yn f L s).text),lI ((Yn f L s).number),lB ((Yn f L s).tagged)]from by first | (rw[Zi5 hb1 (by simp[hb2]) (by simp[hb3])];done) | (rw[Zi5 hb1 (by simp[hb2]) (by simp[hb3])];rfl))))
end Go.Proofs.YtneapgbkkkjagaaGreatDoor
