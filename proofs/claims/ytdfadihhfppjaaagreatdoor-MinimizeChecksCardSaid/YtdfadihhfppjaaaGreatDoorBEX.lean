/-
  Part of the proof that MinimizeChecks returns true. Conditions: none.
-/
import Derived.Shelf.SlSortCmp.WholeK
import Derived.Shelf.SlSortCmp.NoneTotal
import Derived.Ground.SlsfProg
import Derived.Test.YtdfadihhfppjaaaGreatDoorBEW
set_option maxRecDepth 100000
set_option maxHeartbeats 8000000
open List (ext_getElem? flatten_cons length_map)
namespace Go.Proofs
open Go.Shelf
def Tryz.sortP_ren:Go.Shelf.Ren:=⟨fun | 6=>145 | 15=>151 | 14=>188 | 28=>197 | 29=>198 | 20=>221 | 21=>222 | 22=>223 | 23=>224 | 24=>225 | 25=>226 | 26=>227 | 27=>228 | 46=>249 | 47=>230 | 48=>231 | 49=>250 | 50=>251 | 57=>262 | n=>n,fun | 22=>70 | 24=>162 | 25=>202 | 3=>3 | 39=>230 | 0=>0 | 53=>266 | 55=>268 | 4=>4 | 46=>260 | 45=>259 | 50=>172 | 5=>5 | 9=>9 | 66=>294 | 70=>298 | 76=>313 | 77=>314 | n=>n,fun | n=>n⟩
theorem Tryz.sortP:Go.Proofs.SlLaysF0.n6 Tryz.prog Tryz.sortP_ren:= {
 mixed:=by kernel_rfl
 f6:=⟨Tryz.f145.name,by decide,Tryz.func145.trans (congrArg some (by kernel_rfl))⟩
 f14:=⟨Tryz.f188.name,by decide,Tryz.func188.trans (congrArg some (by kernel_rfl))⟩
 f15:=Tryz.func151.trans (congrArg some (by kernel_rfl))
 f20:=⟨Tryz.f221.name,by decide,Tryz.func221.trans (congrArg some (by kernel_rfl))⟩
 f21:=⟨Tryz.f222.name,by decide,Tryz.func222.trans (congrArg some (by kernel_rfl))⟩
 f22:=⟨Tryz.f223.name,by decide,Tryz.func223.trans (congrArg some (by kernel_rfl))⟩
 f23:=⟨Tryz.f224.name,by decide,Tryz.func224.trans (congrArg some (by kernel_rfl))⟩
 f24:=⟨Tryz.f225.name,by decide,Tryz.func225.trans (congrArg some (by kernel_rfl))⟩
 f25:=⟨Tryz.f226.name,by decide,Tryz.func226.trans (congrArg some (by kernel_rfl))⟩
 f26:=⟨Tryz.f227.name,by decide,Tryz.func227.trans (congrArg some (by kernel_rfl))⟩
 f27:=⟨Tryz.f228.name,by decide,Tryz.func228.trans (congrArg some (by kernel_rfl))⟩
 f28:=Tryz.func197.trans (congrArg some (by kernel_rfl))
 f29:=Tryz.func198.trans (congrArg some (by kernel_rfl))
 f46:=⟨Tryz.f249.name,by decide,Tryz.func249.trans (congrArg some (by kernel_rfl))⟩
 f47:=Tryz.func230.trans (congrArg some (by kernel_rfl))
 f48:=Tryz.func231.trans (congrArg some (by kernel_rfl))
 f49:=⟨Tryz.f250.name,by decide,Tryz.func250.trans (congrArg some (by kernel_rfl))⟩
 f50:=⟨Tryz.f251.name,by decide,Tryz.func251.trans (congrArg some (by kernel_rfl))⟩
 f57:=⟨Tryz.f262.name,by decide,Tryz.func262.trans (congrArg some (by kernel_rfl))⟩
 t0:=Tryz.underlying0
 a0:=Tryz.isAgg0
 z0:=Tryz.sizeOf0
 v0:=Tryz.zeroValue0
 t3:=Tryz.underlying3
 a3:=Tryz.isAgg3
 z3:=Tryz.sizeOf3
 v3:=Tryz.zeroValue3
 t4:=Tryz.underlying4
 a4:=Tryz.isAgg4
 z4:=Tryz.sizeOf4
 v4:=Tryz.zeroValue4
 t5:=Tryz.underlying5
 a5:=Tryz.isAgg5
 z5:=Tryz.sizeOf5
 v5:=Tryz.zeroValue5
 t9:=Tryz.underlying9
 a9:=Tryz.isAgg9
 z9:=Tryz.sizeOf9
 v9:=Tryz.zeroValue9
 t22:=Tryz.underlying70
 a22:=Tryz.isAgg70
 z22:=Tryz.sizeOf70
 v22:=Tryz.zeroValue70
 t25:=Tryz.underlying202
 a25:=Tryz.isAgg202
 z25:=Tryz.sizeOf202
 v25:=Tryz.zeroValue202
 t39:=Tryz.underlying230
 a39:=Tryz.isAgg230
 z39:=Tryz.sizeOf230
 v39:=Tryz.zeroValue230
 t45:=Tryz.underlying259
 a45:=Tryz.isAgg259
 z45:=Tryz.sizeOf259
 v45:=Tryz.zeroValue259
 t46:=Tryz.underlying260
 a46:=Tryz.isAgg260
 z46:=Tryz.sizeOf260
 v46:=Tryz.zeroValue260
 t50:=Tryz.underlying172
 a50:=Tryz.isAgg172
 z50:=Tryz.sizeOf172
 v50:=Tryz.zeroValue172
 t53:=Tryz.underlying266
 a53:=Tryz.isAgg266
 z53:=Tryz.sizeOf266
 v53:=Tryz.zeroValue266
 t55:=Tryz.underlying268
 a55:=Tryz.isAgg268
 z55:=Tryz.sizeOf268
 v55:=Tryz.zeroValue268
 t66:=Tryz.underlying294
 a66:=Tryz.isAgg294
 z66:=Tryz.sizeOf294
 v66:=Tryz.zeroValue294
 t70:=Tryz.underlying298
 a70:=Tryz.isAgg298
 z70:=Tryz.sizeOf298
 v70:=Tryz.zeroValue298
 t76:=Tryz.underlying313
 a76:=Tryz.isAgg313
 z76:=Tryz.sizeOf313
 v76:=Tryz.zeroValue313
 t77:=Tryz.underlying314
 a77:=Tryz.isAgg314
 z77:=Tryz.sizeOf314
 v77:=Tryz.zeroValue314 }
end Go.Proofs
namespace Go.Proofs.YtdfadihhfppjaaaGreatDoor
open Go.RowKit
def yy (P:Program) (t e:TypeId) (kc bytes:Nat) (z:Value):Prop:=
 P.underlying t=some (.slice e)/\(∃ i,P.info? e=some i/\i.zero=some z/\i.size=kc/\i.bytes=bytes)
theorem Q6 {P:Program} {t e:TypeId} {kc bytes:Nat} {z:Value} (h1:P.underlying t=some (.slice e)) (hinfo:(P.info? e).map (λi=>(i.zero,i.size,i.bytes))=some (some z,kc,bytes)):yy P t e kc bytes z:=by
 refine⟨h1,?_⟩
 cases hi:P.info? e with
 | none=>rw[hi]at hinfo;cases hinfo
 | some i=>
  rw[hi]at hinfo
  simp only[Option.map_some,Option.some.injEq,Prod.mk.injEq]at hinfo
  exact⟨i,rfl,hinfo.1,hinfo.2.1,hinfo.2.2⟩
theorem Ew {α:Type} {l:List α} (h0:0<l.length):∀(k i:Nat),i<k*l.length->(List.replicate k l).flatten[i]?=l[i%l.length]?
 | 0,i,h=>by omega
 | k+1,i,h=>by
  rw[List.replicate_succ,flatten_cons]
  rcases Nat.lt_or_ge i l.length with h1 | h1
  ·rw[List.getElem?_append_left h1,Nat.mod_eq_of_lt h1]
  ·rw[List.getElem?_append_right h1,Ew h0 k (i-l.length) (by rw[Nat.succ_mul]at h;omega),Nat.mod_eq_sub_mod h1]
theorem Q4 {c:Array Value} (h0:0<c.size) (k:Nat):(madeCells c (k*c.size)).toList=(List.replicate k c.toList).flatten:=by
 apply ext_getElem?
 intro i
 have hl:c.toList.length=c.size:=by simp
 rcases Nat.lt_or_ge i (k*c.size)with h | h
 ·rw[Ew (by rw[hl];exact h0) k i (by rw[hl];exact h),hl]
  have hm:i%c.size<c.size:=Nat.mod_lt _ h0
  simp[madeCells,h,hm]
 ·rw[List.getElem?_eq_none (by simp[madeCells];exact h),List.getElem?_eq_none]
  simp only[List.length_flatten,List.map_replicate,List.sum_replicate_nat,hl]
  exact h
theorem Ie {cs:List CD} {vs:List Value} {S:Nat->Prop} {w:World} (h:bE S w cs vs):∀ k,bE S w ((List.replicate k cs).flatten) ((List.replicate k vs).flatten)
 | 0=>trivial
 | k+1=>by
  rw[List.replicate_succ,flatten_cons,List.replicate_succ,flatten_cons]
  exact h.append (Ie h k)
section
variable {n:Rn} {N:Nat} {P:Program} {J X:WP} {S S' gK:Nat->Prop} {O:List OB} {w0:World} {env:List (Nat×AV)} {Q:Exit->Act->WP}
theorem VF {ops:Array Oper} {o:Oper} {rest:List Oper} {t e:TypeId} {kc bytes d k:Nat} {z:Value} {x y:Operand} {α:Type} {f:α->List CD} (a0:α) (ht:yy P t e kc bytes z) (hf:∀(S:Nat->Prop) (w:World),bE S w (f a0) z.cells.toList) (wS:z.cells.size=kc) (XN:0<kc) (V:aR J) (hg:o.guard=none) (hop:o.op= .makeSlice t x y) (hd:o.dst=some d) (hN:d<N)
 (h1:∀ a w,So J S w0 N O env a w->Rel (SO S O) w (.int (k:Int)) (a.eval x)/\Rel (SO S O) w (.int (k:Int)) (a.eval y)) (hb:bytes*k<=281474976710656) (h63:k<=9223372036854775807)
 (next:∀ v a w,So J S w0 N (OB.row v e kc ((List.replicate k a0).map f)::O) ((d,.lit v)::dP d env) a w->wpListIn n.F n.d P ops Q rest a w):
 ∀ a w,So J S w0 N O env a w->wpListIn n.F n.d P ops Q (o::rest) a w:=by
 refine kK (O2:=λv=>OB.row v e kc ((List.replicate k a0).map f)::O) (av:=λv=>.lit v) hg hd hN (λa w h=>?_) next
 obtain⟨rS,i,hi,hz,hs,nV⟩:=ht
 obtain⟨g1,g2⟩:=h1 a w h
 have hb':(i.bytes:Int)*(k:Int)<=281474976710656:=by
  rw[nV]
  have h:((bytes*k:Nat):Int)<=281474976710656:=by omega
  rwa [Int.natCast_mul]at h
 have hrun:=run_make (P:=P) w t e i z rS hi hz .i64 .i64 (k:Int) (k:Int) oz (Int.le_refl _) hb' oz
 rw[hs,Int.toNat_natCast]at hrun
 have hk:Keeps All w (w.alloc (.cells (madeCells z.cells (k*kc)) e)):=(Keeps.refl _ _).alloc _
 have Pt:(madeCells z.cells (k*kc)).toList=(List.replicate k z.cells.toList).flatten:=by rw[<-wS];exact Q4 oz k
 have hrows:((List.replicate k a0).map f).flatten=(List.replicate k (f a0)).flatten:=by rw[List.map_replicate]
 have fe:(f a0).length=kc:=by rw[<-(hf S w).length];simpa using wS
 have tS:(madeCells z.cells (k*kc)).toList.length=k*kc:=by simp[madeCells]
 refine en (v:=.slice (some ⟨w.heap.size,0,none⟩) k k) (w':=w.alloc (.cells (madeCells z.cells (k*kc)) e)) ?_ ⟨.slice (some ⟨w.heap.size,0,none⟩) k k,lh V h.keep h.x hk (λb hb=>?_) ?_,Rel.aH _⟩
 ·simp only[execOp,hop,g1.lit,g2.lit,Sem.run_bind,hrun]
  rfl
 ·simp[OB.row,Value.ownBlock]at hb
  omega
 ·refine⟨(madeCells z.cells (k*kc)).toList,⟨by rw[tS];simp,.inr ⟨w.heap.size,k,madeCells z.cells (k*kc),by simp,h.keep.size,heap_alloc_new w _,by simp,by unfold maxLen;omega,by simp[madeCells],?_⟩⟩,?_,λr hr=>?_⟩
  ·exact List.take_of_length_le (by rw[tS];simp)
  ·rw[hrows,Pt];exact Ie (hf _ _) k
  ·rw[List.map_replicate]at hr
   rw[(List.mem_replicate.1 hr).2];exact fe
end
section
variable {N:Nat} {P:Program} {J:WP} {S:Nat->Prop} {O:List OB} {w0 w:World} {env:List (Nat×AV)} {a:Act} {b b2:Nat} {cs:List CD} {c2:CD} {t t2:TypeId}
theorem F3 {fn:Func} {d m q u:Nat} {k:Nat} {cs':List CD} {r2:AV} (hr:fn.results= #[.cell d t,.cell u t2]) (h1:fY P t k) (h2:eu P t2) (h:So J S w0 N (OB.var b cs::OB.var b2 [c2]::O) env a w) (he:env[m]?=some (d,.at b 0)) (k4:env[q]?=some (u,.at b2 0)) (hl:cs.length=k) (hE:cs=cs') (nS:AV.rd c2=r2):
 bodyPost P fn (λe w'=>∃ v,e= .returned v/\Rel S w' (.bF [.agg cs',r2]) v/\Keeps All w0 w'/\J w') .ret a w:=by
 subst hE
 subst nS
 obtain⟨h0,us,e,hb,hrd⟩:=h.x.2.1 (OB.var b cs) yz
 obtain⟨g0,vs,e',gb,grd⟩:=h.x.2.1 (OB.var b2 [c2]) yz
 match vs,grd with
 | [v2],grd=>
  have hd:a.tmps.getD d undef= .pointer (some ⟨b,0,none⟩):=(h.get m he).lit
  have hu:a.tmps.getD u undef= .pointer (some ⟨b2,0,none⟩):=(h.get q k4).lit
  have hrun:=mq (P:=P) b 0 w us 0 #[] λj u hj=>by rw[Nat.zero_add];simp[World.cell?,hb,hj]
  rw[show us.length=k by rw[hrd.length,hl]]at hrun
  have hd':a.tmps[d]?.getD undef= .pointer (some ⟨b,0,none⟩):=by rw[<-Array.getD_eq_getD_getElem?];exact hd
  have hu':a.tmps[u]?.getD undef= .pointer (some ⟨b2,0,none⟩):=by rw[<-Array.getD_eq_getD_getElem?];exact hu
  have hcell:w.cell? ⟨b2,0,none⟩=some v2:=by simp[World.cell?,gb]
  refine⟨h.defs,.tuple #[.agg us.toArray,v2],by simp[results,hr,hd',hu',asAddr,Sem.run_bind,loadVar,loadCells,h1.1 w,h1.2 w,h2 w,hrun,hcell],_,rfl,?_,h.keep,h.x.1⟩
  simp only[Rel,bi]
  exact⟨_,rfl,_,_,rfl,⟨us,rfl,hrd.sub λ_ _ hk=>hk.1⟩,_,_,rfl,grd.1.sub λ_ _ hk=>hk.1,rfl⟩
theorem V2 {T:Nat->Prop} {us:List BA} {v:Value} (h:Rd T w (ai us) v):∀ s∈us,s.size<=maxLen:=by
 unfold ai at h
 generalize hr:us.map dO=rows at h
 cases h with
 | nil a cap hm=>simp at hr;subst hr;simp
 | sl b off cap n rows vs hl hm hb hS hn hc hrd=>
  subst hr
  intro s hs
  obtain⟨i,hi,rfl⟩:=List.getElem_of_mem hs
  have h1:=hrd i 0 (dO us[i]) (.lit (.string us[i])) (by simp[hi]) rfl
  generalize vs i 0=u at h1
  cases h1 with
  | lit _ hv=>exact hv
theorem QM {fid:FuncId} {K:Nat->Prop} {X:WP} {c:Code} {Q:Exit->Act->WP} {us:List BA} {s:Nat} (m:Nat) (h:(∀ x∈us,x.size<=maxLen)->ka fid P (St K S w0 N env X) c Q) (he:env[m]?=some (s,.rd (ai us)):=by exact rfl):ka fid P (St K S w0 N env X) c Q:=λa w ha=>h (V2 (by have:=ha.get m he;simpa only[Rel]using this)) a w ha
end
end Go.Proofs.YtdfadihhfppjaaaGreatDoor
namespace Go.Proofs.YtdfadihhfppjaaaGreatDoor
open Go.RowKit
open Go.Sort Go.Shelf
abbrev oA:Type:= {p:Pr // p.a.size<=maxLen/\p.b.size<=maxLen}
instance instInhPrB:Inhabited oA:=⟨⟨⟨⟨#[]⟩,⟨#[]⟩⟩,aI,aI⟩⟩
def jF (p:oA):List Value:=lT p.1
def sY (p q:oA):Int:=iL p.1 q.1
theorem w5 (p q:oA):ltOf sY p q=cI p.1 q.1:=by
 unfold ltOf sY
 by_cases h:cI p.1 q.1=true
 ·rw[decide_eq_true (vN.2 h),h]
 ·rw[decide_eq_false (λh2=>h (vN.1 h2))]
  simpa using h
theorem Wb:Go.Sort.SWO (ltOf sY) where
 irrefl x:=by rw[w5];exact w6 _
 trans x y z h1 h2:=by rw[w5]at*;exact rX h1 h2
 ntrans x y z h1 h2:=by
  rw[w5]at*
  cases h3:cI x.1 z.1 with
  | false=>rfl
  | true=>
   cases h4:cI y.1 x.1 with
   | true=>rw[rX h4 h3]at h2;cases h2
   | false=>rw[AZ h1 h4,h2]at h3;cases h3
theorem LF (blk off size:Nat) (w:World):CmpLays Tryz.prog 123 #[] jF 2 sY blk off size w:=λm os dk _ x y=>by
 have:=LQ x.1 y.1 x.2 y.2 (sortWorldK jF 2 w blk off m dk os)
 rw[Array.append_empty]
 exact this
theorem Eu {α:Type} [Inhabited α] {enc:α->List Value} {k:Nat} (hk:∀ x,(enc x).length=k) (h0:0<k):∀(l:List α) (t:Nat),t<l.length*k->(l.flatMap enc)[t]?=(enc (G l (t/k)))[t%k]?
 | [],t,h=>by simp at h
 | x::l,t,h=>by
  rw[List.flatMap_cons]
  rcases Nat.lt_or_ge t k with h1 | h1
  ·rw[List.getElem?_append_left (by rw[hk];exact h1),Nat.div_eq_of_lt h1,Nat.mod_eq_of_lt h1]
   rfl
  ·have e:t=(t-k)+k:=by omega
   rw[List.getElem?_append_right (by rw[hk];exact h1),hk,Eu hk h0 l (t-k) (by simp only[List.length_cons,Nat.succ_mul]at h;omega)]
   rw[show t/k=(t-k)/k+1 from by rw[Nat.div_eq_sub_div h0 h1],Nat.mod_eq_sub_mod h1]
   simp[G]
theorem Et {α:Type} [Inhabited α] {enc:α->List Value} {k:Nat} (hk:∀ x,(enc x).length=k) (h0:0<k) (d:Array α):(flatK enc k d).toList=d.toList.flatMap enc:=by
 apply ext_getElem?
 intro t
 have hl:d.toList.length=d.size:=by simp
 rcases Nat.lt_or_ge t (d.size*k)with h | h
 ·rw[Eu hk h0 d.toList t (by rw[hl];exact h)]
  have h1:=get_flatK enc k d t h
  have Fc:t/k<d.size:=Nat.div_lt_of_lt_mul (by rw[Nat.mul_comm];exact h)
  have hm:t%k<k:=Nat.mod_lt _ h0
  have h2:(flatK enc k d).toList[t]?=some ((flatK enc k d)[t]!):=by
   rw[Array.getElem?_toList,Array.getElem?_eq_getElem (by simpa using h),getElem!_pos _ t (by simpa using h)]
  rw[h2,h1]
  have e1:G d.toList (t/k)=d[t/k]!:=by
   rw[cF (by rw[hl];exact Fc),getElem!_pos d (t/k) Fc];simp
  rw[e1,List.getElem?_eq_getElem (show t%k< (enc d[t/k]!).length by rw[hk];exact hm),getElem!_pos (enc d[t/k]!) (t%k) (by rw[hk];exact hm)]
 ·rw[List.getElem?_eq_none (by simpa using h),List.getElem?_eq_none]
  rw[List.length_flatMap]
  simp only[hk,List.map_const',List.sum_replicate_nat]
  simpa using h
theorem I3 (cur F:Array Value) (h:F.size<=cur.size):(putCells id 0 F cur).toList.take F.size=F.toList:=by
 apply ext_getElem?
 intro t
 rw[List.getElem?_take]
 split
 ·rename_i h1
  have h2:t<cur.size:=by omega
  simp[putCells,h1,h2]
 ·rename_i h1
  rw[List.getElem?_eq_none (by simpa using h1)]
theorem Hz {S:Nat->Prop} {w:World}:∀ {ps:List Pr} {us:List Value},bE S w (ps.map aS).flatten us->us=ps.flatMap lT/\∀ p∈ps,p.a.size<=maxLen/\p.b.size<=maxLen
 | [],us,h=>by
  have:=h.length
  simp at this
  exact⟨by simpa using this,by simp⟩
 | p::ps,us,h=>by
  match us,h with
  | u1::u2::us,⟨h1,h2,h3⟩=>
   obtain⟨e,hb⟩:=Hz (ps:=ps) h3
   have ok1:p.a.size<=maxLen:=by cases h1 with | lit _ hv=>exact hv
   have Bi:p.b.size<=maxLen:=by cases h2 with | lit _ hv=>exact hv
   refine⟨by rw[h1.aH,h2.aH,e];rfl,λq hq=>?_⟩
   rcases List.mem_cons.1 hq with rfl | hq
   ·exact⟨ok1,Bi⟩
   ·exact hb q hq
theorem HB {S:Nat->Prop} {w:World}:∀ {ps:List Pr},(∀ p∈ps,p.a.size<=maxLen/\p.b.size<=maxLen)->bE S w (ps.map aS).flatten (ps.flatMap lT)
 | [],_=>trivial
 | p::ps,h=>⟨.lit _ (h p yz).1,.lit _ (h p yz).2,HB λq hq=>h q (by simp[hq])⟩
theorem SW {J:WP} (V:aR J) (v:Value) (ps:List Pr) (hn:ps.length<=140737488355328):fc (ι:= {qs:List Pr // qs.Perm ps/\pG qs}) Tryz.prog J 145 [] [.lit v,.fn 123 []] [OB.row v 162 2 (ps.map aS)] (λ_=>.bF []) (λi=>[OB.row v 162 2 (i.1.map aS)]):=by
 intro S w0 R w vs hS hJ0 hH hk Z ha
 simp only[bi]at ha
 obtain⟨u,_,rfl,h1,u2,_,rfl,h2,rfl⟩:=ha
 obtain rfl:=h1.lit
 obtain rfl:u2= .func (.func 123) #[] #[]:=by
  simp only[Rel,bi]at h2
  obtain⟨_,rfl,rfl⟩:=h2
  rfl
 have hi:=Z.2.1 (OB.row u 162 2 (ps.map aS)) yz
 obtain⟨us,⟨kE,hrow⟩,hrd,h3⟩:=hi
 rcases hrow with⟨rfl,hz⟩ | ⟨g,cap,cur,rfl,hb,hg,er,dg,iP,ht⟩
 ·have Av:ps=[]:=by simpa using hz
  subst Av
  refine(AnyF.slices_SortFunc_none Tryz.sortP none 0 _ w).mono ?_
  rintro e w' ⟨rfl,rfl⟩
  exact⟨⟨[],.refl _,.nil⟩,_,Y,by simp only[Rel,bi];exact⟨[],Y,Y⟩,hk,Z⟩
 ·obtain⟨rT,bw⟩:=Hz hrd
  have hlen:(ps.map aS).length=ps.length:=length_map _
  rw[hlen]at er ht kE
  obtain⟨d,hd⟩:∃ d:Array oA,d.toList.map (·.1)=ps:=⟨(ps.pmap (λp h=>(⟨p,h⟩:oA)) bw).toArray,by simp[List.map_pmap]⟩
  have l4:d.size=ps.length:=by rw[<-hd];simp
  have hkB:∀ x:oA,(jF x).length=2:=λ_=>Y
  have fe:∀ e:Array oA,(flatK jF 2 e).toList=(e.toList.map (·.1)).flatMap lT:=λe=>by
   rw[Et hkB oz,List.flatMap_map]
   rfl
  have l6:g<w.heap.size:=(Array.getElem?_eq_some_iff.1 hg).1
  have wG:∀ j,w.frozen? ⟨g,j,none⟩=false:=λj=>by simp[World.frozen?,hg]
  have hH:HoldsK jF 2 w g 0 d:=λj hj=>by
   refine⟨?_,wG _⟩
   have Ak:j<ps.length*2:=by rw[size_flatK,l4]at hj;exact hj
   have e1:cur.toList[j]?=some ((flatK jF 2 d)[j]!):=by
    have e2:(cur.toList.take (ps.length*2))[j]?=cur.toList[j]?:=by rw[List.getElem?_take,if_pos Ak]
    rw[<-e2,ht,rT,<-hd,<-fe d,Array.getElem?_toList,Array.getElem?_eq_getElem hj,getElem!_pos _ j hj]
   rw[Nat.zero_add]
   simp only[World.cell?,hg]
   simpa using e1
  have hcall:=AnyQ.slices_SortFunc Tryz.sortP 2 Tryz.isAgg162 Tryz.sizeOf162 jF hkB (λx v hv=>by simp[jF,lT]at hv;rcases hv with rfl | rfl<;>rfl) sY Wb 123 #[] g 0 cap d w (enters_of Tryz.func123 yq rfl) (LF g 0 d.size w) hH l6 oz
  rw[l4]at hcall
  rw[hlen]
  refine hcall.mono ?_
  rintro e w' ⟨rfl,d',n,os,hperm,Ay,rfl⟩
  have nW:d'.size=ps.length:=by rw[hperm.1,l4]
  have wN:(d'.toList.map (·.1)).Perm ps:=by
   have h9:=hperm.2.2
   rw[show d'.extract 0 ps.length=d' by rw[<-nW];exact Array.extract_size,show d.extract 0 ps.length=d by rw[<-l4];exact Array.extract_size]at h9
   rw[<-hd]
   exact h9.map _
  have AC:pG (d'.toList.map (·.1)):=by
   unfold pG
   rw[List.pairwise_map,List.pairwise_iff_getElem]
   intro i j hi hj gR
   have h9:=Ay i j aI gR (by rw[<-nW];simpa using hj)
   rw[w5,getElem!_pos _ j (by simpa using hj),getElem!_pos _ i (by simpa using hi)]at h9
   simpa using h9
  have hheap:(sortWorldK jF 2 w g 0 n d' os).heap[g]?=some (.cells (putCells id 0 (flatK jF 2 d') cur) 162):=by
   show(grow (putRow id (Sort.ahead w n) g 0 (flatK jF 2 d')) os).heap[g]?=_
   rw[heap_grow_old _ _ (by simpa [Sort.ahead]using l6)]
   show((Sort.ahead w n).heap.modify g _)[g]?=_
   rw[Array.getElem?_modify,if_pos Y]
   show(w.heap[g]?).map _=_
   rw[hg]
   rfl
  have hkk:Keeps (λk=>k≠g) w (sortWorldK jF 2 w g 0 n d' os):=by
   refine⟨?_,?_,?_,?_,?_⟩
   ·simp[sortWorldK,putRowK,grow,putRow,mapBlock,Sort.ahead]
   ·simp[sortWorldK,putRowK,grow,putRow,mapBlock,Sort.ahead]
   ·simp[sortWorldK,putRowK,grow,putRow,mapBlock,Sort.ahead]
   ·simp[sortWorldK,putRowK,grow,putRow,mapBlock,Sort.ahead]
   ·intro k hk hne
    show(grow (putRow id (Sort.ahead w n) g 0 (flatK jF 2 d')) os).heap[k]?=_
    rw[heap_grow_old _ _ (by simpa [Sort.ahead]using hk)]
    show((Sort.ahead w n).heap.modify g _)[k]?=_
    rw[Array.getElem?_modify,if_neg (λe=>hne e.symm)]
    rfl
  have qc:(flatK jF 2 d').size=ps.length*2:=by rw[size_flatK,nW]
  have hk0:Keeps All w0 (sortWorldK jF 2 w g 0 n d' os):=hk.yk hkk λk hk0 e=>by subst e;omega
  have hok':∀ p∈d'.toList.map (·.1),p.a.size<=maxLen/\p.b.size<=maxLen:=λp hp=>bw p (wN.mem_iff.1 hp)
  have hinv:(OB.row (.slice (some ⟨g,0,none⟩) ps.length cap) 162 2 ((d'.toList.map (·.1)).map aS)).inv w0.heap.size (SO S ([OB.row (.slice (some ⟨g,0,none⟩) ps.length cap) 162 2 ((d'.toList.map (·.1)).map aS)]++R)) (sortWorldK jF 2 w g 0 n d' os):=by
   have hl2:((d'.toList.map (·.1)).map aS).length=ps.length:=by simp[nW]
   refine⟨(d'.toList.map (·.1)).flatMap lT,⟨?_,.inr ⟨g,cap,putCells id 0 (flatK jF 2 d') cur,by rw[hl2],hb,hheap,by rw[hl2];exact er,dg,by simpa [putCells]using iP,?_⟩⟩,HB hok',λr hr=>by obtain⟨p,_,rfl⟩:=List.mem_map.1 hr;rfl⟩
   ·rw[hl2,<-fe d',Array.length_toList,qc]
   ·rw[hl2,<-fe d',<-qc]
    exact I3 cur _ (by rw[qc,iP];exact Nat.mul_le_mul_right _ er)
  refine⟨⟨d'.toList.map (·.1),wN,AC⟩,_,Y,by simp only[Rel,bi];exact⟨[],Y,Y⟩,hk0,?_⟩
  have hx1:=Z
  rw[hlen]at hx1
  have:=uY (o':=OB.row (.slice (some ⟨g,0,none⟩) ps.length cap) 162 2 ((d'.toList.map (·.1)).map aS)) hx1 (V _ _ hk0 hJ0) (hkk.sub λk _ hk=>λe=>hk (by show(OB.row (.slice (some ⟨g,0,none⟩) ps.length cap) 162 2 (ps.map aS)).blk k;rw[e];rfl)) (λk hk=>.inl hk) hinv
  exact this.1
end Go.Proofs.YtdfadihhfppjaaaGreatDoor
namespace Go.Proofs.YtdfadihhfppjaaaGreatDoor
open Go.RowKit
theorem Q7:yy Tryz.prog 70 162 2 32 (.agg #[.string ⟨#[]⟩,.string ⟨#[]⟩]):=Q6 yq yq
theorem SX {J:WP} (V:aR J) (l:List Pr) (qn:l.length*32<=140737488351232):fc (ι:= {qs:List Pr // yx l qs}) Tryz.prog J 120 [] [.rd (bM l)] [] (λi'=>.rd (bM (i'.1))) (λ_=>[]):=by
 refine ji Tryz.func120 λS w0 R hS hJ0 hH=>?_
 refine g5 (B:=So J S w0 26 (R) [(0,.rd (bM l))]) ?_ λa w h=>h
 refine ln 0 λ_=>?_
 refine aj tb V [0] [_] [_] ?_
 refine aL (ao 1 tb Y (sy (.int (l.length:Nat)) (λh=>kq fQ Y (h.get 0 Y) h.x) ?_))
 refine VF (f:=aS) (k:=l.length) (⟨⟨#[]⟩,⟨#[]⟩⟩:Pr) Q7 (λ_ _=>⟨.lit _ aI,.lit _ aI,U⟩) Y dz V Y Y Y (lb Y) (λa w h=>⟨(h.get 0 Y),(h.get 0 Y)⟩) ay ay λv1=>ao 1 tb Y (aA [0,4] U2 Y (nx (af (au tb V [0,1000,1001,1002] [_,.int (l.length:Nat),_] [1] U4 Y ⟨aC fQ,U⟩ ?_))))
 refine ax (lpo (ι:=Nat×(List Pr)) (λ(k,rs)=>(k<=l.length)/\(rs.length=l.length)/\(∀ i,i<k->G rs i=da (G l i))) (λ(_,rs)=>(OB.row v1 162 2 (rs.map aS)::R)) (λ(k,_)=>[(11,.int (k:Nat))]) (λ(k,_)=>l.length-k) [0,1,2,3] U3 (0,List.replicate l.length (⟨⟨#[]⟩,⟨#[]⟩⟩:Pr)) ⟨aI,List.length_replicate,λi hi=>by omega⟩ ?_)
 rintro⟨k,rs⟩ ⟨aQ,ah,bh⟩
 refine aj tb V [0,1,2,3,1000] [_] U5 ?_
 refine cE 4 ?_ ?_<;>intro hb1<;>try simp at hb1
 ·refine ak (nx (af (ax (aL (ao 1 tb Y (sy (.ptr (aS (G l k))) (λh=>cb (i:=(k:Int)) df Y (h.get 2 Y) (h.get 4 Y) bK (cl (xs:=l) (k:=k) ay) Y h.x) ?_))))))
  refine ao 1 tb Y (cx nw V Y Y Y (lb Y) λb2=>ao 1 tb Y (ce (b:=b2) (off:=0) (es:=U2) (news:=U2) V hJ0 j6 Y Y Y (lb Y) Y (λa w h=>⟨(h.get 1 Y),(h.get 2 Y)⟩) (kw (λh=>fB hS h (m:=1) (s:=5) Y) (aA [0,1,5,6,7,8] U6 Y (nx (cC (ao 3 tb Y (sy (.agg (aS (da (G l k)))) (λh=>cV (Hn V (G l k)) (cO Tryz.func144) Y (aK hS _ h.keep h.x) (h.x.1) (aq (h.get 0 Y) aN) (jo V h.x)) ?_))))))))
  refine sy (.lit (cG v1 (k*2))) (λh=>eZ (i:=(k:Int)) df Y (aG h.x (mo 0 Y)) (h.get 3 Y) (h.get 2 Y) bK (by rw[length_map];exact Int.ofNat_lt.2 ay) h.x) ?_
  refine xZ (i:=k) V hJ0 j6 Y Y Y (by rw[length_map];exact ay) Y (λa w h=>⟨(h.get 0 Y),(h.get 1 Y)⟩) ?_
  rw[show(rs.map aS).set k (aS (da (G l k)))=(rs.set k (da (G l k))).map aS from List.map_set.symm]
  refine aA [7,8,9,10] U4 Y (nx (aT tb V [0,1,2,1001] [.int (k+1:Nat),_] [0] U4 Y ⟨aM,U⟩ ?_))
  exact br (k+1,rs.set k (da (G l k))) [0,1,2,3] ⟨oz,by rw[List.length_set];exact ah,λi hi=>by rw[zX oz];by_cases h9:i=k;(· simp[h9]);rw[if_neg h9];exact bh i oz⟩
 ·have e9:rs=l.map da:=Q8 ah λi hi=>bh i oz
  refine aW (nx (aL (ao 1 tb Y (iI (O:=[OB.row v1 162 2 (rs.map aS)]) (R:=(R)) (SW V v1 rs ay) (cO Tryz.func145) Y Y Y (lb Y) hS hJ0 b8 (λa w h=>(aq (h.get 0 Y) (aq (np 123) aN))) λz3=>aA [2] [_] Y (nx (aL (ao 1 tb Y (iI (O:=[OB.row v1 162 2 (z3.1.map aS)]) (R:=(R)) (Sv V v1 z3.1 (by have h9:=z3.2.1.length_eq;omega)) (cO Tryz.func146) Y Y Y (lb Y) hS hJ0 b8 (λa w h=>(aq (h.get 0 Y) aN)) λz4=>ao 1 tb Y (aA [0] [_] Y (nx (tw (λh=>dU hS h (m:=0) (s:=2) Y) (aX (λa w h=>dx  (m:=0) ⟨(fL z3.1 z3.1.length),VK (e9▸z3.2.1) z3.2.2⟩ Y h Y Y)))))))))))))
theorem De:oy Tryz.prog 162 [.string ⟨#[]⟩,.string ⟨#[]⟩]:=⟨λi=>(#[(0,1),(1,1)]:Array (Nat×Nat))[i]?,λj hj=>by rcases j with _ | _ | j<;>first | rfl | (simp at hj;omega) | simp at hj,λparts=>by kernel_rfl⟩
theorem vx {l:List Bd} {ap:List Pr} {us:List BA} {wd:List Pr} {q:Pr} (h:jS l ap us wd=some q):fJ l ap us wd=q:=by unfold fJ;rw[h];rfl
theorem vt {l:List Bd} {ap:List Pr} {us:List BA} {wd:List Pr} {q:Pr} (h:jS l ap us wd=some q):eQ l ap us wd=true:=by unfold eQ;rw[h];rfl
theorem vv {l:List Bd} {ap:List Pr} {us:List BA} {wd:List Pr} (h:jS l ap us wd=none):fJ l ap us wd=⟨⟨#[]⟩,⟨#[]⟩⟩:=by unfold fJ;rw[h];rfl
theorem vr {l:List Bd} {ap:List Pr} {us:List BA} {wd:List Pr} (h:jS l ap us wd=none):eQ l ap us wd=false:=by unfold eQ;rw[h];rfl
theorem Ty {J:WP} (V:aR J) (bl:List Bd) (us:List BA) (ap:List Pr)  :Fn Tryz.prog J 121 [.rd (fq bl),.rd (bM ap),.rd (ai us)] (.fn 147 [.ptr [fq bl],.ptr [ai us],.ptr [bM ap]]):=by
 refine fE Tryz.func121 λS w0 hS hJ0=>?_
 clear hJ0
 refine ln 0 λ_=>?_
 refine ln 1 λ_=>?_
 refine ln 2 λ_=>?_
 refine aJ tb V [1000,1001,1002] [.ptr [fq bl],.ptr [bM ap],.ptr [ai us],_] [0,1,2] U3 Y ⟨λ_ _ hk Z hl _=>ld Y (hl.env 0 0 _ Y Y) (hS _ hk.size) (js V Z),λ_ _ hk Z hl _=>ld Y (hl.env 1 1 _ Y Y) (hS _ hk.size) (js V Z),λ_ _ hk Z hl _=>ld Y (hl.env 2 2 _ Y Y) (hS _ hk.size) (js V Z),U⟩ ?_
 refine aJ tb V [1001] [.fn 147 [.ptr [fq bl],.ptr [ai us],.ptr [bM ap]],_] [0] [_] Y ⟨λ_ _ _ Z hl _=>lf (caps:=[(.tmp 3),(.tmp 5),(.tmp 4)]) Y (aq (hl.env 0 3 _ Y Y) (aq (hl.env 2 5 _ Y Y) (aq (hl.env 1 4 _ Y Y) aN))) Z,U⟩ ?_
 exact aU 0 (hE:=Y)
theorem GY {J:WP} (V:aR J) (bl:List Bd) (ap:List Pr) (us:List BA) (wd:List Pr) (rK:∀ b∈bl,b.ac.length<=2000) (qn:wd.length*32<=140737488351232):Fn Tryz.prog J 95 [.rd (fq bl),.rd (bM ap),.rd (ai us),.rd (bM wd)] (.bF [.agg (aS (fJ bl ap us wd)),.bool (eQ bl ap us wd)]):=by
 refine zL (N:=38) Tryz.func95 Y Y (lb Y) λS w0 hS hJ0=>oH cc (mf 0 λ_=>?_)
 refine mf 1 λ_=>?_
 refine mf 2 λ_=>?_
 refine mf 3 λ_=>?_
 refine QM 2 λrT=>?_
 refine im (m:=5) (cC (cx nw V Y Y Y (lb Y) λb1=>cx WY V Y Y Y (lb Y) λb2=>aA (r6 []) U6 Y (iC (im (m:=5) (cC (ao 1 tb Y (iI (O:=[]) (R:=[OB.var b2 [lB false],OB.var b1 [lS (⟨#[]⟩:BA),lS (⟨#[]⟩:BA)]]) (SX V wd ay) (cO Tryz.func120) Y Y Y (lb Y) hS hJ0 b8 (λa w h=>(aq (h.get 0 Y) aN)) λz3=>cx WZ V Y Y Y (lb Y) λb4=>gI (b:=b4) (off:=0) (es:=[_]) V hJ0 Vy Y Y Y (lb Y) Y (λa w h=>⟨(h.get 0 Y),(h.get 1 Y)⟩) (kw (λh=>fB hS h (m:=0) (s:=10) Y) (aA [0,1,3,4,5,6,7] U7 Y (iC (mf 1 λ_=>?_)))))))))))
 refine ve (im (m:=5) (aT tb V [0,2,3,1003] (V3 [.fn 147 [.ptr [fq bl],.ptr [ai us],.ptr [bM ap]]]) [3] U4 Y ⟨bJ hS V (Ty V bl us ap) (cO Tryz.func121),U⟩ ?_))
 refine iC (vd (oH (λh=>oq (p:=(∀ x∈([]:List Pr),gM wd x=false)) (λx Z=>by cases Z) h) ?_))
 refine Uq (m:=5) (κ:=Unit) (μ:=Empty) (σ:= {q:Pr // jS bl ap us wd=some q}) (Tz V bl us ap rK) (cO Tryz.func147) V hS hJ0 b8 (λpre _=>[OB.mO (∀ x∈pre,gM wd x=false),OB.var b2 [lB false],OB.var b1 [lS (⟨#[]⟩:BA),lS (⟨#[]⟩:BA)]]) (λq':Empty=>undef) (λq'=>[]) (λs'=>[OB.var b1 (aS (s'.1)),OB.var b2 [lB true]]) () (λx9=>[(11,.ptr (aS x9)),(10,.ptr [bM z3.1]),(9,.at b2 0),(8,.at b1 0)]) (lb Y) Tryz.func95 ?_ ?_ ?_ ?_ ?_ ?_ ?_
 ·exact λa w h=>xJ (h.get 3 Y)
 rintro m9 l9 R' pre x9 _ K9 qd
 refine cC (iX (cs:=aS x9) ym Y Y Y (lb Y) Y Y Y dz (m:=0) Y Y (λa w h=>aK hS _ h.keep h.x _ aV) (λa w h w' hk'=>fo V _ _ hk' h.x) (aA [0,2,3,4] U4 Y (qd)))
 rintro m9 l9 R' pre x9 _ hpre
 refine ye λhF=>?_
 have ir:∀ x∈pre,gM wd x=false:=hF
 refine ax (au tb V [0,1,2,3,1007] [_,_,.bF [.int (vy z3.1 x9:Nat),.bool (decide (x9∈z3.1))],_,_,_,_,_] [2] U5 Y ⟨bJ hS V (S4 V z3.1 x9 123 [] (λx' y'=>(Tb V x' y').r) ((cO Tryz.func123)) (z3.2.1) (by have:=z3.2.2.2;omega)) (cO Tryz.func122),U⟩ ?_)
 refine aj tb V [0,1,2,3,1008] U9 U5 ?_
 refine cj 4 ?_ ?_<;>intro hb1
 have e8:gM wd x9=true:=(C5 z3.2).symm.trans hb1
 refine aL (ao 1 tb Y (kw bO (ce (b:=b1) (off:=0) (es:=U2) (news:=U2) V hJ0 j6 Y Y Y (lb Y) Y (λa w h=>⟨(h.get 4 Y),(h.get 0 Y)⟩) (kw bO (gI (b:=b2) (off:=0) (es:=[_]) V hJ0 qO Y Y Y (lb Y) Y (λa w h=>⟨(h.get 3 Y),(Rel.aH (.bool true))⟩) (aA [3,4] U2 Y (nx (aX (kw bO (λa w h=>⟨⟨x9,Kt hpre ir e8⟩,h.keep,h.x⟩))))))))))
 have e8:gM wd x9=false:=(C5 z3.2).symm.trans hb1
 exact ak (kw (λh=>oq (p:=(∀ x∈(pre++[x9]),gM wd x=false)) (TN ir e8) h) (λa w h=>⟨(),h.keep,h.x⟩))
 rintro fe _ D
 refine kw bO (ya λhF=>?_)
 have ir:∀ x∈(fi bl ap us),gM wd x=false:=hF
 have e9:jS bl ap us wd=none:=Ku ir
 refine sd (m:=5) (s8 (mM (sy (.agg (aS (⟨⟨#[]⟩,⟨#[]⟩⟩:Pr))) (λh=>gr (ps:=[]) (us:=[.string ⟨#[]⟩,.string ⟨#[]⟩]) De Y yz gn Y (dT (.lit _ aI) (dT (.lit _ aI) cM)) h.x) ?_)))
 refine kw du (ce (b:=b1) (off:=0) (es:=U2) (news:=U2) V hJ0 j6 Y Y Y (lb Y) Y (λa w h=>⟨(h.get 3 Y),(h.get 0 Y)⟩) (kw du (gI (b:=b2) (off:=0) (es:=[_]) V hJ0 qO Y Y Y (lb Y) Y (λa w h=>⟨(h.get 2 Y),(Rel.aH (.bool false))⟩) (aA [2,3] U2 Y (uh (Ma du (vT (xn V hJ0 (kw bO (λa w h=>F3 (m:=1) (q:=0) Y jE xl h Y Y Y (show(_:List CD)=[lS ((fJ bl ap us wd).a),lS ((fJ bl ap us wd).b)]from by(first | rw[vv e9] | rw[vr e9] | rw[vx s'.2] | rw[vt s'.2])<;>rfl) (eB (by first | rw[vv e9] | rw[vr e9] | rw[vx s'.2] | rw[vt s'.2]))))))))))))
 rintro s' D
 refine xn V hJ0 (λa w h=>F3 (m:=2) (q:=1) Y jE xl h Y Y Y (show(_:List CD)=[lS ((fJ bl ap us wd).a),lS ((fJ bl ap us wd).b)]from by(first | rw[vv e9] | rw[vr e9] | rw[vx s'.2] | rw[vt s'.2])<;>rfl) (eB (by first | rw[vv e9] | rw[vr e9] | rw[vx s'.2] | rw[vt s'.2])))
 ·exact λv h=>by cases h
 ·exact λq=>q.elim
section
variable {n:Rn} {P:Program} {l:List Oper} {Q:Exit->Act->WP}
end
section
variable {n:Rn} {P:Program} {l:List Oper} {Q:Exit->Act->WP}
variable {N:Nat} {J:WP} {S:Nat->Prop} {O:List OB} {w0:World} {env:List (Nat×AV)} {am:Nat->AV} {conds:Nat->Bool} {T:Array Value} {γ:Type}
theorem Does.toP {n:Rn} {P:Program} {o:Oper} {a:Act} {w:World} {post:Value->WP} {fl:List PanicEntry->WP} (h:Does n P o a w post):nA n P o a w post fl:=λK Q hK _=>h K Q hK
end
section
variable {n:Rn} {N:Nat} {P:Program} {S:Nat->Prop} {w0:World} {env:List (Nat×AV)} {X:WP} {l:List Oper} {Q:Exit->Act->WP}
end
theorem KB:lN Tryz.prog 179 2:=⟨#[.slice none 0 0,.slice none 0 0],Y,λi=>some (i*1,1),λj _=>(show some (j*1,1)=some (j,1) by rw[Nat.mul_one]),λparts=>by kernel_rfl⟩
theorem yL:oy Tryz.prog 119 [.string ⟨#[]⟩,.bool false,.slice none 0 0]:=⟨λi=>(#[(0,1),(1,1),(2,1)]:Array (Nat×Nat))[i]?,λj hj=>by rcases j with _ | _ | _ | j<;>first | rfl | (simp at hj;omega) | simp at hj,λparts=>by kernel_rfl⟩
theorem SK {J:WP} (V:aR J) (f:Fr) (s:BA) (ht:∀ h∈f.aa++f.bB,h.ac.length<=2000):Fn Tryz.prog J 86 [.agg (a8 f),.str s] (.bF [.agg (aP ((cA f s).getD default)),.bool ((cA f s).isSome)]):=by
 refine fE Tryz.func86 λS w0 hS hJ0=>?_
 refine tw cc (aL (sy (.ptr (a8 f)) (λh=>fk Y (h.get 0 Y) (aK hS _ h.keep h.x _ aV) (jo V h.x)) ?_))
 refine cx kR V Y Y Y (lb Y) λb1=>ao 1 tb Y (aA [1,2,4] U3 Y (nx (af (au tb V [0,2,1001,1003,1004,1005] (V4 [.agg [bX f.aa,bX f.bB],_]) [4] U6 Y ⟨λa _ _ Z hl _=>gq (us:=[a.eval (.tmp 11),a.eval (.tmp 13)]) KB Y yz (b6 (hl.D 1 11 Y Y) (b6 (hl.D 3 13 Y Y) cM)) Y Z,U⟩ ?_))))
 refine ln 2 λ_=>?_
 refine ln 3 λ_=>?_
 refine ax (lpo (ι:=Nat) (λk=>(k<=2)/\(∀ i,i<k->∀ h∈fX f.aa f.bB i,¬ h.ae=s)) (λ_=>[OB.var b1 [lS (⟨#[]⟩:BA),lB false,ai ([]:List BA)]]) (λk=>[(15,.int (k:Nat))]) (λk=>2-k) [0,1,4,5] U3 0 ⟨aI,λi hi=>by omega⟩ ?_)
 rintro k ⟨aQ,ah⟩
 refine aj tb V [0,1,2,3,1000] [_] U5 ?_
 refine cE 4 ?_ ?_<;>intro hb1<;>try simp at hb1
 ·refine ak (nx (af (ax (au tb V [0,1,2,3,1000,1001] [.rd (bX (fX f.aa f.bB k)),_] [0] U6 Y ⟨λ_ _ _ Z hl _=>Uc (c:=bX (fX f.aa f.bB k)) WB si IH Y (hl.env 2 14 _ Y Y) (hl.env 3 15 _ Y Y) bK Y (Wu ay) Z,U⟩ ?_))))
  refine ln 4 λ_=>?_
  refine au tb V [0,1,2,3,1000,1001,1002] [_,.int ((fX f.aa f.bB k).length:Nat),_] [1] U7 Y ⟨aC cW,U⟩ ?_
  refine ax (lpo (ι:=Nat) (λj=>(j<=(fX f.aa f.bB k).length)/\(∀ i,i<j->¬ (G (fX f.aa f.bB k) i).ae=s)) (λ_=>[OB.var b1 [lS (⟨#[]⟩:BA),lB false,ai ([]:List BA)]]) (λj=>[(20,.int (j:Nat))]) (λj=>(fX f.aa f.bB k).length-j) (r7 []) U6 0 ⟨aI,λi hi=>by omega⟩ ?_)
  rintro j ⟨fD,bu⟩
  refine aj tb V (r7 [1000]) [_] U8 ?_
  refine cE 7 ?_ ?_<;>intro hb2<;>try simp at hb2
  ·refine ak (nx (af (ax (aL (sy (.ptr (aP (G (fX f.aa f.bB k) j))) (λh=>cb (i:=(j:Int)) cL Y (h.get 4 Y) (h.get 6 Y) bK (cl (xs:=(fX f.aa f.bB k)) (k:=j) ay) Y h.x) ?_)))))
   refine ao 1 tb Y (iX (cs:=aP (G (fX f.aa f.bB k) j)) sJ Y Y Y (lb Y) Y Y Y dz (m:=0) Y Y (λa w h=>aK hS _ h.keep h.x _ aV) (λa w h w' hk'=>fo V _ _ hk' h.x) (aA [0,3,4,5,6,7,8,9] U8 Y (nx (aj tb V (r8 [1003]) U4 U9 ?_))))
   refine cj 8 ?_ ?_<;>intro aD<;>try simp at aD
   ·have e3:=AE oz ah hb2 bu aD
    refine aL (ao 1 tb Y (sy (.agg (aP (G (fX f.aa f.bB k) j))) (λh=>cV (Hd V (G (fX f.aa f.bB k) j) (by have h9:=ht _ (Wv (k:=k) (aE hb2));omega)) (cO Tryz.func113) Y (aK hS _ h.keep h.x) (h.x.1) (aq (h.get 0 Y) aN) (jo V h.x)) ?_))
    refine ce (b:=b1) (off:=0) (es:=U3) (news:=U3) V hJ0 jx Y Y Y (lb Y) Y (λa w h=>⟨(h.get 3 Y),(h.get 0 Y)⟩) (ao 1 tb Y (aA [0,4] U2 Y (nx (aX (λa w h=>ja (m:=1) (q:=0) Y nF h Y Y (show(_:List CD)=[lS (((cA f s).getD default).ae),lB (((cA f s).getD default).bn),ai (((cA f s).getD default).ac)]from by(rw[e3];rfl)<;>rfl) Y (eB (by rw[e3];rfl)))))))
   ·refine ak (nx (aT tb V [1,2,3,4,5,6,1001] [.int (j+1:Nat),_] [0] U7 Y ⟨aM,U⟩ ?_))
    exact br (j+1) (r7 []) ⟨oz,cB bu aD⟩
  ·refine aW (nx (aT tb V [0,1,2,1001] [.int (k+1:Nat),_] [0] U4 Y ⟨aM,U⟩ ?_))
   exact br (k+1) [0,1,2,3] ⟨oz,cB ah λh hm=>by obtain⟨i,hi,rfl⟩:=ej hm;exact bu i oz⟩
 ·refine aW (nx (aL (sy (.agg (aP (⟨⟨#[]⟩,false,[]⟩:Hy))) (λh=>gr (ps:=[]) (us:=[.string ⟨#[]⟩,.bool false,.slice none 0 0]) yL Y yz gn Y (dT (.lit _ aI) (dT (.lit _ True.intro) (dT (.nil _ _ aI) cM))) h.x) ?_)))
  refine ce (b:=b1) (off:=0) (es:=U3) (news:=U3) V hJ0 jx Y Y Y (lb Y) Y (λa w h=>⟨(h.get 1 Y),(h.get 0 Y)⟩) (ao 1 tb Y (aA [0,2] U2 Y (nx (aX (λa w h=>ja (m:=1) (q:=0) Y nF h Y Y (show(_:List CD)=[lS (((cA f s).getD default).ae),lB (((cA f s).getD default).bn),ai (((cA f s).getD default).ac)]from by(rw[AD λi hi=>ah i oz];rfl)<;>rfl) Y (eB (by rw[AD λi hi=>ah i oz];rfl)))))))
end Go.Proofs.YtdfadihhfppjaaaGreatDoor
