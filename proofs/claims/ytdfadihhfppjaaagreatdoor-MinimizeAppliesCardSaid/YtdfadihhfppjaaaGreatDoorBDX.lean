/-
  Part of the proof that MinimizeApplies returns true. Conditions: none.
-/
import Derived.Shelf.SlSortCmp.WholeK
import Derived.Shelf.SlSortCmp.NoneTotal
import Derived.Ground.SlsfProg
import Derived.Test.YtdfadihhfppjaaaGreatDoorBDW
set_option maxRecDepth 100000
set_option maxHeartbeats 8000000
open List (ext_getElem? flatten_cons length_map)
namespace Go.Proofs
open Go.Shelf
def Tryz.sortP_ren:Go.Shelf.Ren:=⟨fun | 6=>145 | 15=>151 | 14=>188 | 28=>197 | 29=>198 | 20=>221 | 21=>222 | 22=>223 | 23=>224 | 24=>225 | 25=>226 | 26=>227 | 27=>228 | 46=>249 | 47=>230 | 48=>231 | 49=>250 | 50=>251 | 57=>262 | n=>n,fun | 22=>70 | 24=>162 | 25=>202 | 3=>3 | 39=>230 | 0=>0 | 53=>266 | 55=>268 | 4=>4 | 46=>260 | 45=>259 | 50=>172 | 5=>5 | 9=>9 | 66=>294 | 70=>298 | 76=>313 | 77=>314 | n=>n,fun | n=>n⟩
theorem Tryz.sortP:Go.Proofs.SlLaysF0.n6 Tryz.prog Tryz.sortP_ren:= {
 mixed:=by kernel_rfl
 f6:=⟨Tryz.f145.name,by decide,Tryz.func145.trans (congrArg some (by kernel_rfl))⟩
 f14:=⟨Tryz.f188.name,by decide,Tryz.func188.trans (congrArg some (by kernel_rfl))⟩
 f15:=Tryz.func151.trans (congrArg some (by kernel_rfl))
 f20:=⟨Tryz.f221.name,by decide,Tryz.func221.trans (congrArg some (by kernel_rfl))⟩
 f21:=⟨Tryz.f222.name,by decide,Tryz.func222.trans (congrArg some (by kernel_rfl))⟩
 f22:=⟨Tryz.f223.name,by decide,Tryz.func223.trans (congrArg some (by kernel_rfl))⟩
 f23:=⟨Tryz.f224.name,by decide,Tryz.func224.trans (congrArg some (by kernel_rfl))⟩
 f24:=⟨Tryz.f225.name,by decide,Tryz.func225.trans (congrArg some (by kernel_rfl))⟩
 f25:=⟨Tryz.f226.name,by decide,Tryz.func226.trans (congrArg some (by kernel_rfl))⟩
 f26:=⟨Tryz.f227.name,by decide,Tryz.func227.trans (congrArg some (by kernel_rfl))⟩
 f27:=⟨Tryz.f228.name,by decide,Tryz.func228.trans (congrArg some (by kernel_rfl))⟩
 f28:=Tryz.func197.trans (congrArg some (by kernel_rfl))
 f29:=Tryz.func198.trans (congrArg some (by kernel_rfl))
 f46:=⟨Tryz.f249.name,by decide,Tryz.func249.trans (congrArg some (by kernel_rfl))⟩
 f47:=Tryz.func230.trans (congrArg some (by kernel_rfl))
 f48:=Tryz.func231.trans (congrArg some (by kernel_rfl))
 f49:=⟨Tryz.f250.name,by decide,Tryz.func250.trans (congrArg some (by kernel_rfl))⟩
 f50:=⟨Tryz.f251.name,by decide,Tryz.func251.trans (congrArg some (by kernel_rfl))⟩
 f57:=⟨Tryz.f262.name,by decide,Tryz.func262.trans (congrArg some (by kernel_rfl))⟩
 t0:=Tryz.underlying0
 a0:=Tryz.isAgg0
 z0:=Tryz.sizeOf0
 v0:=Tryz.zeroValue0
 t3:=Tryz.underlying3
 a3:=Tryz.isAgg3
 z3:=Tryz.sizeOf3
 v3:=Tryz.zeroValue3
 t4:=Tryz.underlying4
 a4:=Tryz.isAgg4
 z4:=Tryz.sizeOf4
 v4:=Tryz.zeroValue4
 t5:=Tryz.underlying5
 a5:=Tryz.isAgg5
 z5:=Tryz.sizeOf5
 v5:=Tryz.zeroValue5
 t9:=Tryz.underlying9
 a9:=Tryz.isAgg9
 z9:=Tryz.sizeOf9
 v9:=Tryz.zeroValue9
 t22:=Tryz.underlying70
 a22:=Tryz.isAgg70
 z22:=Tryz.sizeOf70
 v22:=Tryz.zeroValue70
 t25:=Tryz.underlying202
 a25:=Tryz.isAgg202
 z25:=Tryz.sizeOf202
 v25:=Tryz.zeroValue202
 t39:=Tryz.underlying230
 a39:=Tryz.isAgg230
 z39:=Tryz.sizeOf230
 v39:=Tryz.zeroValue230
 t45:=Tryz.underlying259
 a45:=Tryz.isAgg259
 z45:=Tryz.sizeOf259
 v45:=Tryz.zeroValue259
 t46:=Tryz.underlying260
 a46:=Tryz.isAgg260
 z46:=Tryz.sizeOf260
 v46:=Tryz.zeroValue260
 t50:=Tryz.underlying172
 a50:=Tryz.isAgg172
 z50:=Tryz.sizeOf172
 v50:=Tryz.zeroValue172
 t53:=Tryz.underlying266
 a53:=Tryz.isAgg266
 z53:=Tryz.sizeOf266
 v53:=Tryz.zeroValue266
 t55:=Tryz.underlying268
 a55:=Tryz.isAgg268
 z55:=Tryz.sizeOf268
 v55:=Tryz.zeroValue268
 t66:=Tryz.underlying294
 a66:=Tryz.isAgg294
 z66:=Tryz.sizeOf294
 v66:=Tryz.zeroValue294
 t70:=Tryz.underlying298
 a70:=Tryz.isAgg298
 z70:=Tryz.sizeOf298
 v70:=Tryz.zeroValue298
 t76:=Tryz.underlying313
 a76:=Tryz.isAgg313
 z76:=Tryz.sizeOf313
 v76:=Tryz.zeroValue313
 t77:=Tryz.underlying314
 a77:=Tryz.isAgg314
 z77:=Tryz.sizeOf314
 v77:=Tryz.zeroValue314 }
end Go.Proofs
namespace Go.Proofs.YtdfadihhfppjaaaGreatDoor
open Go.RowKit
def yh (P:Program) (t e:TypeId) (kc bytes:Nat) (z:Value):Prop:=
 P.underlying t=some (.slice e)/\(∃ i,P.info? e=some i/\i.zero=some z/\i.size=kc/\i.bytes=bytes)
theorem Qy {P:Program} {t e:TypeId} {kc bytes:Nat} {z:Value} (h1:P.underlying t=some (.slice e)) (hinfo:(P.info? e).map (λi=>(i.zero,i.size,i.bytes))=some (some z,kc,bytes)):yh P t e kc bytes z:=by
 refine⟨h1,?_⟩
 cases hi:P.info? e with
 | none=>rw[hi]at hinfo;cases hinfo
 | some i=>
  rw[hi]at hinfo
  simp only[Option.map_some,Option.some.injEq,Prod.mk.injEq]at hinfo
  exact⟨i,rfl,hinfo.1,hinfo.2.1,hinfo.2.2⟩
theorem Eb {α:Type} {l:List α} (h0:0<l.length):∀(k i:Nat),i<k*l.length->(List.replicate k l).flatten[i]?=l[i%l.length]?
 | 0,i,h=>by omega
 | k+1,i,h=>by
  rw[List.replicate_succ,flatten_cons]
  rcases Nat.lt_or_ge i l.length with h1 | h1
  · rw[List.getElem?_append_left h1,Nat.mod_eq_of_lt h1]
  · rw[List.getElem?_append_right h1,Eb h0 k (i-l.length) (by rw[Nat.succ_mul]at h;omega),Nat.mod_eq_sub_mod h1]
theorem Qw {c:Array Value} (h0:0<c.size) (k:Nat):(madeCells c (k*c.size)).toList=(List.replicate k c.toList).flatten:=by
 apply ext_getElem?
 intro i
 have hl:c.toList.length=c.size:=by simp
 rcases Nat.lt_or_ge i (k*c.size)with h | h
 · rw[Eb (by rw[hl];exact h0) k i (by rw[hl];exact h),hl]
   have hm:i%c.size<c.size:=Nat.mod_lt _ h0
   simp[madeCells,h,hm]
 · rw[List.getElem?_eq_none (by simp[madeCells];exact h),List.getElem?_eq_none]
   simp only[List.length_flatten,List.map_replicate,List.sum_replicate_nat,hl]
   exact h
theorem HO {cs:List CD} {vs:List Value} {S:Nat->Prop} {w:World} (h:bD S w cs vs):∀ k,bD S w ((List.replicate k cs).flatten) ((List.replicate k vs).flatten)
 | 0=>trivial
 | k+1=>by
  rw[List.replicate_succ,flatten_cons,List.replicate_succ,flatten_cons]
  exact h.append (HO h k)
section
variable {n:Rn} {N:Nat} {P:Program} {J X:WP} {S S' gB:Nat->Prop} {O:List OB} {w0:World} {env:List (Nat×AV)} {Q:Exit->Act->WP}
theorem UV {ops:Array Oper} {o:Oper} {rest:List Oper} {t e:TypeId} {kc bytes d k:Nat} {z:Value} {x y:Operand} {α:Type} {f:α->List CD} (a0:α) (ht:yh P t e kc bytes z) (hf:∀(S:Nat->Prop) (w:World),bD S w (f a0) z.cells.toList) (wC:z.cells.size=kc) (W7:0<kc) (V:aS J) (hg:o.guard=none) (hop:o.op= .makeSlice t x y) (hd:o.dst=some d) (hN:d<N)
 (h1:∀ a w,So J S w0 N O env a w->Rel (SO S O) w (.int (k:Int)) (a.eval x)/\Rel (SO S O) w (.int (k:Int)) (a.eval y)) (hb:bytes*k<=281474976710656) (h63:k<=9223372036854775807)
 (next:∀ v a w,So J S w0 N (OB.row v e kc ((List.replicate k a0).map f)::O) ((d,.lit v)::dK d env) a w->wpListIn n.F n.d P ops Q rest a w):
 ∀ a w,So J S w0 N O env a w->wpListIn n.F n.d P ops Q (o::rest) a w:=by
 refine kD (O2:=λv=>OB.row v e kc ((List.replicate k a0).map f)::O) (av:=λv=>.lit v) hg hd hN (λa w h=>?_) next
 obtain⟨rI,i,hi,hz,hs,nI⟩:=ht
 obtain⟨g1,g2⟩:=h1 a w h
 have hb':(i.bytes:Int)*(k:Int)<=281474976710656:=by
  rw[nI]
  have h:((bytes*k:Nat):Int)<=281474976710656:=by omega
  rwa [Int.natCast_mul]at h
 have hrun:=run_make (P:=P) w t e i z rI hi hz .i64 .i64 (k:Int) (k:Int) oz (Int.le_refl _) hb' oz
 rw[hs,Int.toNat_natCast]at hrun
 have hk:Keeps All w (w.alloc (.cells (madeCells z.cells (k*kc)) e)):=(Keeps.refl _ _).alloc _
 have OP:(madeCells z.cells (k*kc)).toList=(List.replicate k z.cells.toList).flatten:=by rw[<-wC];exact Qw oz k
 have hrows:((List.replicate k a0).map f).flatten=(List.replicate k (f a0)).flatten:=by rw[List.map_replicate]
 have fa:(f a0).length=kc:=by rw[<-(hf S w).length];simpa using wC
 have tG:(madeCells z.cells (k*kc)).toList.length=k*kc:=by simp[madeCells]
 refine eh (v:=.slice (some ⟨w.heap.size,0,none⟩) k k) (w':=w.alloc (.cells (madeCells z.cells (k*kc)) e)) ?_ ⟨.slice (some ⟨w.heap.size,0,none⟩) k k,k7 V h.keep h.x hk (λb hb=>?_) ?_,Rel.aG _⟩
 · simp only[execOp,hop,g1.lit,g2.lit,Sem.run_bind,hrun]
   rfl
 · simp[OB.row,Value.ownBlock]at hb
   omega
 · refine⟨(madeCells z.cells (k*kc)).toList,⟨by rw[tG];simp,.inr ⟨w.heap.size,k,madeCells z.cells (k*kc),by simp,h.keep.size,heap_alloc_new w _,by simp,by unfold maxLen;omega,by simp[madeCells],?_⟩⟩,?_,λr hr=>?_⟩
   · exact List.take_of_length_le (by rw[tG];simp)
   · rw[hrows,OP];exact HO (hf _ _) k
   · rw[List.map_replicate]at hr
     rw[(List.mem_replicate.1 hr).2];exact fa
end
section
variable {N:Nat} {P:Program} {J:WP} {S:Nat->Prop} {O:List OB} {w0 w:World} {env:List (Nat×AV)} {a:Act} {b b2:Nat} {cs:List CD} {c2:CD} {t t2:TypeId}
theorem FI {fn:Func} {d m q u:Nat} {k:Nat} {cs':List CD} {r2:AV} (hr:fn.results= #[.cell d t,.cell u t2]) (h1:fR P t k) (h2:eq P t2) (h:So J S w0 N (OB.var b cs::OB.var b2 [c2]::O) env a w) (he:env[m]?=some (d,.at b 0)) (kU:env[q]?=some (u,.at b2 0)) (hl:cs.length=k) (hE:cs=cs') (nF:AV.rd c2=r2):
 bodyPost P fn (λe w'=>∃ v,e= .returned v/\Rel S w' (.bJ [.agg cs',r2]) v/\Keeps All w0 w'/\J w') .ret a w:=by
 subst hE
 subst nF
 obtain⟨h0,us,e,hb,hrd⟩:=h.x.2.1 (OB.var b cs) yz
 obtain⟨g0,vs,e',gb,grd⟩:=h.x.2.1 (OB.var b2 [c2]) yz
 match vs,grd with
 | [v2],grd=>
  have hd:a.tmps.getD d undef= .pointer (some ⟨b,0,none⟩):=(h.get m he).lit
  have hu:a.tmps.getD u undef= .pointer (some ⟨b2,0,none⟩):=(h.get q kU).lit
  have hrun:=md (P:=P) b 0 w us 0 #[] λj u hj=>by rw[Nat.zero_add];simp[World.cell?,hb,hj]
  rw[show us.length=k by rw[hrd.length,hl]]at hrun
  have hd':a.tmps[d]?.getD undef= .pointer (some ⟨b,0,none⟩):=by rw[<-Array.getD_eq_getD_getElem?];exact hd
  have hu':a.tmps[u]?.getD undef= .pointer (some ⟨b2,0,none⟩):=by rw[<-Array.getD_eq_getD_getElem?];exact hu
  have hcell:w.cell? ⟨b2,0,none⟩=some v2:=by simp[World.cell?,gb]
  refine⟨h.defs,.tuple #[.agg us.toArray,v2],by simp[results,hr,hd',hu',asAddr,Sem.run_bind,loadVar,loadCells,h1.1 w,h1.2 w,h2 w,hrun,hcell],_,rfl,?_,h.keep,h.x.1⟩
  simp only[Rel,bd]
  exact⟨_,rfl,_,_,rfl,⟨us,rfl,hrd.sub λ_ _ hk=>hk.1⟩,_,_,rfl,grd.1.sub λ_ _ hk=>hk.1,rfl⟩
theorem Vn {T:Nat->Prop} {us:List BA} {v:Value} (h:Rd T w (ai us) v):∀ s∈us,s.size<=maxLen:=by
 unfold ai at h
 generalize hr:us.map dJ=rows at h
 cases h with
 | nil a cap hm=>simp at hr;subst hr;simp
 | sl b off cap n rows vs hl hm hb hS hn hc hrd=>
  subst hr
  intro s hs
  obtain⟨i,hi,rfl⟩:=List.getElem_of_mem hs
  have h1:=hrd i 0 (dJ us[i]) (.lit (.string us[i])) (by simp[hi]) rfl
  generalize vs i 0=u at h1
  cases h1 with
  | lit _ hv=>exact hv
theorem Qe {fid:FuncId} {K:Nat->Prop} {X:WP} {c:Code} {Q:Exit->Act->WP} {us:List BA} {s:Nat} (m:Nat) (h:(∀ x∈us,x.size<=maxLen)->j3 fid P (St K S w0 N env X) c Q) (he:env[m]?=some (s,.rd (ai us)):=by exact rfl):j3 fid P (St K S w0 N env X) c Q:=λa w ha=>h (Vn (by have:=ha.get m he;simpa only[Rel]using this)) a w ha
end
end Go.Proofs.YtdfadihhfppjaaaGreatDoor
namespace Go.Proofs.YtdfadihhfppjaaaGreatDoor
open Go.RowKit
open Go.Sort Go.Shelf
abbrev om:Type:= {p:Pr // p.a.size<=maxLen/\p.b.size<=maxLen}
instance instInhPrB:Inhabited om:=⟨⟨⟨⟨#[]⟩,⟨#[]⟩⟩,aI,aI⟩⟩
def jv (p:om):List Value:=lK p.1
def sM (p q:om):Int:=ix p.1 q.1
theorem wL (p q:om):ltOf sM p q=cB p.1 q.1:=by
 unfold ltOf sM
 by_cases h:cB p.1 q.1=true
 · rw[decide_eq_true (vy.2 h),h]
 · rw[decide_eq_false (λh2=>h (vy.1 h2))]
   simpa using h
theorem Vp:Go.Sort.SWO (ltOf sM) where
 irrefl x:=by rw[wL];exact wM _
 trans x y z h1 h2:=by rw[wL]at*;exact rN h1 h2
 ntrans x y z h1 h2:=by
  rw[wL]at*
  cases h3:cB x.1 z.1 with
  | false=>rfl
  | true=>
   cases h4:cB y.1 x.1 with
   | true=>rw[rN h4 h3]at h2;cases h2
   | false=>rw[AF h1 h4,h2]at h3;cases h3
theorem La (blk off size:Nat) (w:World):CmpLays Tryz.prog 123 #[] jv 2 sM blk off size w:=λm os dk _ x y=>by
 have:=Lm x.1 y.1 x.2 y.2 (sortWorldK jv 2 w blk off m dk os)
 rw[Array.append_empty]
 exact this
theorem D9 {α:Type} [Inhabited α] {enc:α->List Value} {k:Nat} (hk:∀ x,(enc x).length=k) (h0:0<k):∀(l:List α) (t:Nat),t<l.length*k->(l.flatMap enc)[t]?=(enc (G l (t/k)))[t%k]?
 | [],t,h=>by simp at h
 | x::l,t,h=>by
  rw[List.flatMap_cons]
  rcases Nat.lt_or_ge t k with h1 | h1
  · rw[List.getElem?_append_left (by rw[hk];exact h1),Nat.div_eq_of_lt h1,Nat.mod_eq_of_lt h1]
    rfl
  · have e:t=(t-k)+k:=by omega
    rw[List.getElem?_append_right (by rw[hk];exact h1),hk,D9 hk h0 l (t-k) (by simp only[List.length_cons,Nat.succ_mul]at h;omega)]
    rw[show t/k=(t-k)/k+1 from by rw[Nat.div_eq_sub_div h0 h1],Nat.mod_eq_sub_mod h1]
    simp[G]
theorem D8 {α:Type} [Inhabited α] {enc:α->List Value} {k:Nat} (hk:∀ x,(enc x).length=k) (h0:0<k) (d:Array α):(flatK enc k d).toList=d.toList.flatMap enc:=by
 apply ext_getElem?
 intro t
 have hl:d.toList.length=d.size:=by simp
 rcases Nat.lt_or_ge t (d.size*k)with h | h
 · rw[D9 hk h0 d.toList t (by rw[hl];exact h)]
   have h1:=get_flatK enc k d t h
   have ES:t/k<d.size:=Nat.div_lt_of_lt_mul (by rw[Nat.mul_comm];exact h)
   have hm:t%k<k:=Nat.mod_lt _ h0
   have h2:(flatK enc k d).toList[t]?=some ((flatK enc k d)[t]!):=by
    rw[Array.getElem?_toList,Array.getElem?_eq_getElem (by simpa using h),getElem!_pos _ t (by simpa using h)]
   rw[h2,h1]
   have e1:G d.toList (t/k)=d[t/k]!:=by
    rw[cV (by rw[hl];exact ES),getElem!_pos d (t/k) ES];simp
   rw[e1,List.getElem?_eq_getElem (show t%k< (enc d[t/k]!).length by rw[hk];exact hm),getElem!_pos (enc d[t/k]!) (t%k) (by rw[hk];exact hm)]
 · rw[List.getElem?_eq_none (by simpa using h),List.getElem?_eq_none]
   rw[List.length_flatMap]
   simp only[hk,List.map_const',List.sum_replicate_nat]
   simpa using h
theorem Iz (cur F:Array Value) (h:F.size<=cur.size):(putCells id 0 F cur).toList.take F.size=F.toList:=by
 apply ext_getElem?
 intro t
 rw[List.getElem?_take]
 split
 · rename_i h1
   have h2:t<cur.size:=by omega
   simp[putCells,h1,h2]
 · rename_i h1
   rw[List.getElem?_eq_none (by simpa using h1)]
theorem G8 {S:Nat->Prop} {w:World}:∀ {ps:List Pr} {us:List Value},bD S w (ps.map aR).flatten us->us=ps.flatMap lK/\∀ p∈ps,p.a.size<=maxLen/\p.b.size<=maxLen
 | [],us,h=>by
  have:=h.length
  simp at this
  exact⟨by simpa using this,by simp⟩
 | p::ps,us,h=>by
  match us,h with
  | u1::u2::us,⟨h1,h2,h3⟩=>
   obtain⟨e,hb⟩:=G8 (ps:=ps) h3
   have ok1:p.a.size<=maxLen:=by cases h1 with | lit _ hv=>exact hv
   have A3:p.b.size<=maxLen:=by cases h2 with | lit _ hv=>exact hv
   refine⟨by rw[h1.aG,h2.aG,e];rfl,λq hq=>?_⟩
   rcases List.mem_cons.1 hq with rfl | hq
   · exact⟨ok1,A3⟩
   · exact hb q hq
theorem G9 {S:Nat->Prop} {w:World}:∀ {ps:List Pr},(∀ p∈ps,p.a.size<=maxLen/\p.b.size<=maxLen)->bD S w (ps.map aR).flatten (ps.flatMap lK)
 | [],_=>trivial
 | p::ps,h=>⟨.lit _ (h p yz).1,.lit _ (h p yz).2,G9 λq hq=>h q (by simp[hq])⟩
theorem Sg {J:WP} (V:aS J) (v:Value) (ps:List Pr) (hn:ps.length<=140737488355328):eX (ι:= {qs:List Pr // qs.Perm ps/\pq qs}) Tryz.prog J 145 [] [.lit v,.fn 123 []] [OB.row v 162 2 (ps.map aR)] (λ_=>.bJ []) (λi=>[OB.row v 162 2 (i.1.map aR)]):=by
 intro S w0 R w vs hS hJ0 hH hk Z ha
 simp only[bd]at ha
 obtain⟨u,_,rfl,h1,u2,_,rfl,h2,rfl⟩:=ha
 obtain rfl:=h1.lit
 obtain rfl:u2= .func (.func 123) #[] #[]:=by
  simp only[Rel,bd]at h2
  obtain⟨_,rfl,rfl⟩:=h2
  rfl
 have hi:=Z.2.1 (OB.row u 162 2 (ps.map aR)) yz
 obtain⟨us,⟨ku,hrow⟩,hrd,h3⟩:=hi
 rcases hrow with⟨rfl,hz⟩ | ⟨g,cap,cur,rfl,hb,hg,en,df,iB,ht⟩
 · have Ag:ps=[]:=by simpa using hz
   subst Ag
   refine(AnyF.slices_SortFunc_none Tryz.sortP none 0 _ w).mono ?_
   rintro e w' ⟨rfl,rfl⟩
   exact⟨⟨[],.refl _,.nil⟩,_,Y,by simp only[Rel,bd];exact⟨[],Y,Y⟩,hk,Z⟩
 · obtain⟨rJ,bv⟩:=G8 hrd
   have hlen:(ps.map aR).length=ps.length:=length_map _
   rw[hlen]at en ht ku
   obtain⟨d,hd⟩:∃ d:Array om,d.toList.map (·.1)=ps:=⟨(ps.pmap (λp h=>(⟨p,h⟩:om)) bv).toArray,by simp[List.map_pmap]⟩
   have lV:d.size=ps.length:=by rw[<-hd];simp
   have hkB:∀ x:om,(jv x).length=2:=λ_=>Y
   have fa:∀ e:Array om,(flatK jv 2 e).toList=(e.toList.map (·.1)).flatMap lK:=λe=>by
    rw[D8 hkB oz,List.flatMap_map]
    rfl
   have lX:g<w.heap.size:=(Array.getElem?_eq_some_iff.1 hg).1
   have wi:∀ j,w.frozen? ⟨g,j,none⟩=false:=λj=>by simp[World.frozen?,hg]
   have hH:HoldsK jv 2 w g 0 d:=λj hj=>by
    refine⟨?_,wi _⟩
    have zW:j<ps.length*2:=by rw[size_flatK,lV]at hj;exact hj
    have e1:cur.toList[j]?=some ((flatK jv 2 d)[j]!):=by
     have e2:(cur.toList.take (ps.length*2))[j]?=cur.toList[j]?:=by rw[List.getElem?_take,if_pos zW]
     rw[<-e2,ht,rJ,<-hd,<-fa d,Array.getElem?_toList,Array.getElem?_eq_getElem hj,getElem!_pos _ j hj]
    rw[Nat.zero_add]
    simp only[World.cell?,hg]
    simpa using e1
   have hcall:=AnyQ.slices_SortFunc Tryz.sortP 2 Tryz.isAgg162 Tryz.sizeOf162 jv hkB (λx v hv=>by simp[jv,lK]at hv;rcases hv with rfl | rfl<;>rfl) sM Vp 123 #[] g 0 cap d w (enters_of Tryz.func123 yq rfl) (La g 0 d.size w) hH lX oz
   rw[lV]at hcall
   rw[hlen]
   refine hcall.mono ?_
   rintro e w' ⟨rfl,d',n,os,hperm,Aj,rfl⟩
   have nJ:d'.size=ps.length:=by rw[hperm.1,lV]
   have wr:(d'.toList.map (·.1)).Perm ps:=by
    have h9:=hperm.2.2
    rw[show d'.extract 0 ps.length=d' by rw[<-nJ];exact Array.extract_size,show d.extract 0 ps.length=d by rw[<-lV];exact Array.extract_size]at h9
    rw[<-hd]
    exact h9.map _
   have An:pq (d'.toList.map (·.1)):=by
    unfold pq
    rw[List.pairwise_map,List.pairwise_iff_getElem]
    intro i j hi hj gH
    have h9:=Aj i j aI gH (by rw[<-nJ];simpa using hj)
    rw[wL,getElem!_pos _ j (by simpa using hj),getElem!_pos _ i (by simpa using hi)]at h9
    simpa using h9
   have hheap:(sortWorldK jv 2 w g 0 n d' os).heap[g]?=some (.cells (putCells id 0 (flatK jv 2 d') cur) 162):=by
    show(grow (putRow id (Sort.ahead w n) g 0 (flatK jv 2 d')) os).heap[g]?=_
    rw[heap_grow_old _ _ (by simpa [Sort.ahead]using lX)]
    show((Sort.ahead w n).heap.modify g _)[g]?=_
    rw[Array.getElem?_modify,if_pos Y]
    show(w.heap[g]?).map _=_
    rw[hg]
    rfl
   have hkk:Keeps (λk=>k≠g) w (sortWorldK jv 2 w g 0 n d' os):=by
    refine⟨?_,?_,?_,?_,?_⟩
    · simp[sortWorldK,putRowK,grow,putRow,mapBlock,Sort.ahead]
    · simp[sortWorldK,putRowK,grow,putRow,mapBlock,Sort.ahead]
    · simp[sortWorldK,putRowK,grow,putRow,mapBlock,Sort.ahead]
    · simp[sortWorldK,putRowK,grow,putRow,mapBlock,Sort.ahead]
    · intro k hk hne
      show(grow (putRow id (Sort.ahead w n) g 0 (flatK jv 2 d')) os).heap[k]?=_
      rw[heap_grow_old _ _ (by simpa [Sort.ahead]using hk)]
      show((Sort.ahead w n).heap.modify g _)[k]?=_
      rw[Array.getElem?_modify,if_neg (λe=>hne e.symm)]
      rfl
   have pT:(flatK jv 2 d').size=ps.length*2:=by rw[size_flatK,nJ]
   have hk0:Keeps All w0 (sortWorldK jv 2 w g 0 n d' os):=hk.xU hkk λk hk0 e=>by subst e;omega
   have hok':∀ p∈d'.toList.map (·.1),p.a.size<=maxLen/\p.b.size<=maxLen:=λp hp=>bv p (wr.mem_iff.1 hp)
   have hinv:(OB.row (.slice (some ⟨g,0,none⟩) ps.length cap) 162 2 ((d'.toList.map (·.1)).map aR)).inv w0.heap.size (SO S ([OB.row (.slice (some ⟨g,0,none⟩) ps.length cap) 162 2 ((d'.toList.map (·.1)).map aR)]++R)) (sortWorldK jv 2 w g 0 n d' os):=by
    have hl2:((d'.toList.map (·.1)).map aR).length=ps.length:=by simp[nJ]
    refine⟨(d'.toList.map (·.1)).flatMap lK,⟨?_,.inr ⟨g,cap,putCells id 0 (flatK jv 2 d') cur,by rw[hl2],hb,hheap,by rw[hl2];exact en,df,by simpa [putCells]using iB,?_⟩⟩,G9 hok',λr hr=>by obtain⟨p,_,rfl⟩:=List.mem_map.1 hr;rfl⟩
    · rw[hl2,<-fa d',Array.length_toList,pT]
    · rw[hl2,<-fa d',<-pT]
      exact Iz cur _ (by rw[pT,iB];exact Nat.mul_le_mul_right _ en)
   refine⟨⟨d'.toList.map (·.1),wr,An⟩,_,Y,by simp only[Rel,bd];exact⟨[],Y,Y⟩,hk0,?_⟩
   have hx1:=Z
   rw[hlen]at hx1
   have:=uK (o':=OB.row (.slice (some ⟨g,0,none⟩) ps.length cap) 162 2 ((d'.toList.map (·.1)).map aR)) hx1 (V _ _ hk0 hJ0) (hkk.sub λk _ hk=>λe=>hk (by show(OB.row (.slice (some ⟨g,0,none⟩) ps.length cap) 162 2 (ps.map aR)).blk k;rw[e];rfl)) (λk hk=>.inl hk) hinv
   exact this.1
end Go.Proofs.YtdfadihhfppjaaaGreatDoor
namespace Go.Proofs.YtdfadihhfppjaaaGreatDoor
open Go.RowKit
theorem Qz:yh Tryz.prog 70 162 2 32 (.agg #[.string ⟨#[]⟩,.string ⟨#[]⟩]):=Qy yq yq
theorem Sh {J:WP} (V:aS J) (l:List Pr) (p8:l.length*32<=140737488351232):eX (ι:= {qs:List Pr // yg l qs}) Tryz.prog J 120 [] [.rd (bI l)] [] (λi'=>.rd (bI (i'.1))) (λ_=>[]):=by
 refine i7 Tryz.func120 λS w0 R hS hJ0 hH=>?_
 refine gQ (B:=So J S w0 26 (R) [(0,.rd (bI l))]) ?_ λa w h=>h
 refine ln 0 λ_=>?_
 refine ak tb V [0] [_] [_] ?_
 refine aL (ao 1 tb Y (sy (.int (l.length:Nat)) (λh=>kh fH Y (h.get 0 Y) h.x) ?_))
 refine UV (f:=aR) (k:=l.length) (⟨⟨#[]⟩,⟨#[]⟩⟩:Pr) Qz (λ_ _=>⟨.lit _ aI,.lit _ aI,U⟩) Y dz V Y Y Y (lb Y) (λa w h=>⟨(h.get 0 Y),(h.get 0 Y)⟩) az az λv1=>?_
 refine ao 1 tb Y (aA [0,4] U2 Y ?_)
 refine nx (af (au tb V [0,1000,1001,1002] [_,.int (l.length:Nat),_] [1] U4 Y ⟨aD fH,U⟩ ?_))
 refine ax (lpo (ι:=Nat×(List Pr)) (λ(k,rs)=>(k<=l.length)/\(rs.length=l.length)/\(∀ i,i<k->G rs i=c8 (G l i))) (λ(_,rs)=>(OB.row v1 162 2 (rs.map aR)::R)) (λ(k,_)=>[(11,.int (k:Nat))]) (λ(k,_)=>l.length-k) [0,1,2,3] U3 (0,List.replicate l.length (⟨⟨#[]⟩,⟨#[]⟩⟩:Pr)) ⟨aI,List.length_replicate,λi hi=>by omega⟩ ?_)
 rintro⟨k,rs⟩ ⟨aQ,ah,bp⟩
 refine ak tb V [0,1,2,3,1000] [_] U5 ?_
 refine cI 4 ?_ ?_<;>intro hb1<;>try simp at hb1
 ·
  refine aj (nx (af (ax (aL (ao 1 tb Y (sy (.ptr (aR (G l k))) (λh=>cb (i:=(k:Int)) de Y (h.get 2 Y) (h.get 4 Y) bM (cq (xs:=l) (k:=k) az) Y h.x) ?_))))))
  refine ao 1 tb Y (cz na V Y Y Y (lb Y) λb2=>?_)
  refine ao 1 tb Y (ck (b:=b2) (off:=0) (es:=U2) (news:=U2) V hJ0 jZ Y Y Y (lb Y) Y (λa w h=>⟨(h.get 1 Y),(h.get 2 Y)⟩) ?_)
  refine kw (λh=>fg hS h (m:=1) (s:=5) Y) (aA [0,1,5,6,7,8] U6 Y ?_)
  refine nx (cG (ao 3 tb Y (sy (.agg (aR (c8 (G l k)))) (λh=>cQ (GY V (G l k)) (cO Tryz.func144) Y (aK hS _ h.keep h.x) (h.x.1) (aq (h.get 0 Y) aP) (jo V h.x)) ?_)))
  refine sy (.lit (cA v1 (k*2))) (λh=>eQ (i:=(k:Int)) de Y (aH h.x (mo 0 Y)) (h.get 3 Y) (h.get 2 Y) bM (by rw[length_map];exact Int.ofNat_lt.2 az) h.x) ?_
  refine xF (i:=k) V hJ0 jZ Y Y Y (by rw[length_map];exact az) Y (λa w h=>⟨(h.get 0 Y),(h.get 1 Y)⟩) ?_
  rw[show(rs.map aR).set k (aR (c8 (G l k)))=(rs.set k (c8 (G l k))).map aR from List.map_set.symm]
  refine aA [7,8,9,10] U4 Y (nx (aT tb V [0,1,2,1001] [.int (k+1:Nat),_] [0] U4 Y ⟨aM,U⟩ ?_))
  exact bq (k+1,rs.set k (c8 (G l k))) [0,1,2,3] ⟨oz,by rw[List.length_set];exact ah,λi hi=>by rw[zG oz];by_cases h9:i=k;(· simp[h9]);rw[if_neg h9];exact bp i oz⟩
 ·
  have e9:rs=l.map c8:=QA ah λi hi=>bp i oz
  refine aW (nx (aL (ao 1 tb Y (iI (O:=[OB.row v1 162 2 (rs.map aR)]) (R:=(R)) (Sg V v1 rs az) (cO Tryz.func145) Y Y Y (lb Y) hS hJ0 b9 (λa w h=>(aq (h.get 0 Y) (aq (pc 123) aP))) λz3=>?_))))
  refine aA [2] [_] Y (nx (aL ?_))
  refine ao 1 tb Y (iI (O:=[OB.row v1 162 2 (z3.1.map aR)]) (R:=(R)) (RS V v1 z3.1 (by have h9:=z3.2.1.length_eq;omega)) (cO Tryz.func146) Y Y Y (lb Y) hS hJ0 b9 (λa w h=>(aq (h.get 0 Y) aP)) λz4=>?_)
  refine ao 1 tb Y (aA [0] [_] Y ?_)
  exact nx (tw (λh=>dV hS h (m:=0) (s:=2) Y) (aZ (λa w h=>dt  (m:=0) ⟨(fC z3.1 z3.1.length),U0 (e9▸z3.2.1) z3.2.2⟩ Y h Y Y)))
theorem CX:ol Tryz.prog 162 [.string ⟨#[]⟩,.string ⟨#[]⟩]:=⟨λi=>(#[(0,1),(1,1)]:Array (Nat×Nat))[i]?,λj hj=>by rcases j with _ | _ | j<;>first | rfl | (simp at hj;omega) | simp at hj,λparts=>by kernel_rfl⟩
theorem vf {l:List Bd} {ap:List Pr} {us:List BA} {wd:List Pr} {q:Pr} (h:jL l ap us wd=some q):fB l ap us wd=q:=by unfold fB;rw[h];rfl
theorem vd {l:List Bd} {ap:List Pr} {us:List BA} {wd:List Pr} {q:Pr} (h:jL l ap us wd=some q):eL l ap us wd=true:=by unfold eL;rw[h];rfl
theorem ve {l:List Bd} {ap:List Pr} {us:List BA} {wd:List Pr} (h:jL l ap us wd=none):fB l ap us wd=⟨⟨#[]⟩,⟨#[]⟩⟩:=by unfold fB;rw[h];rfl
theorem vc {l:List Bd} {ap:List Pr} {us:List BA} {wd:List Pr} (h:jL l ap us wd=none):eL l ap us wd=false:=by unfold eL;rw[h];rfl
theorem SU {J:WP} (V:aS J) (bl:List Bd) (us:List BA) (ap:List Pr)  :Fn Tryz.prog J 121 [.rd (fj bl),.rd (bI ap),.rd (ai us)] (.fn 147 [.ptr [fj bl],.ptr [ai us],.ptr [bI ap]]):=by
 refine fE Tryz.func121 λS w0 hS hJ0=>?_
 clear hJ0
 refine ln 0 λ_=>?_
 refine ln 1 λ_=>?_
 refine ln 2 λ_=>?_
 refine aJ tb V [1000,1001,1002] [.ptr [fj bl],.ptr [bI ap],.ptr [ai us],_] [0,1,2] U3 Y ⟨λ_ _ hk Z hl _=>k4 Y (hl.env 0 0 _ Y Y) (hS _ hk.size) (js V Z),λ_ _ hk Z hl _=>k4 Y (hl.env 1 1 _ Y Y) (hS _ hk.size) (js V Z),λ_ _ hk Z hl _=>k4 Y (hl.env 2 2 _ Y Y) (hS _ hk.size) (js V Z),U⟩ ?_
 refine aJ tb V [1001] [.fn 147 [.ptr [fj bl],.ptr [ai us],.ptr [bI ap]],_] [0] [_] Y ⟨λ_ _ _ Z hl _=>k5 (caps:=[(.tmp 3),(.tmp 5),(.tmp 4)]) Y (aq (hl.env 0 3 _ Y Y) (aq (hl.env 2 5 _ Y Y) (aq (hl.env 1 4 _ Y Y) aP))) Z,U⟩ ?_
 exact aU 0 (hE:=Y)
theorem Gz {J:WP} (V:aS J) (bl:List Bd) (ap:List Pr) (us:List BA) (wd:List Pr) (rz:∀ b∈bl,b.ac.length<=2000) (p8:wd.length*32<=140737488351232):Fn Tryz.prog J 95 [.rd (fj bl),.rd (bI ap),.rd (ai us),.rd (bI wd)] (.bJ [.agg (aR (fB bl ap us wd)),.bool (eL bl ap us wd)]):=by
 refine zw (N:=38) Tryz.func95 Y Y (lb Y) λS w0 hS hJ0=>?_
 refine ox cc ?_
 refine l4 0 λ_=>?_
 refine l4 1 λ_=>?_
 refine l4 2 λ_=>?_
 refine l4 3 λ_=>?_
 refine Qe 2 λrJ=>?_
 refine hU (m:=5) ?_
 refine cG (cz na V Y Y Y (lb Y) λb1=>?_)
 refine cz Wj V Y Y Y (lb Y) λb2=>?_
 refine aA (r6 []) U6 Y (ip ?_)
 refine hU (m:=5) ?_
 refine cG (ao 1 tb Y (iI (O:=[]) (R:=[OB.var b2 [lB false],OB.var b1 [lS (⟨#[]⟩:BA),lS (⟨#[]⟩:BA)]]) (Sh V wd az) (cO Tryz.func120) Y Y Y (lb Y) hS hJ0 b9 (λa w h=>(aq (h.get 0 Y) aP)) λz3=>?_))
 refine cz Wk V Y Y Y (lb Y) λb4=>?_
 refine gz (b:=b4) (off:=0) (es:=[_]) V hJ0 UO Y Y Y (lb Y) Y (λa w h=>⟨(h.get 0 Y),(h.get 1 Y)⟩) ?_
 refine kw (λh=>fg hS h (m:=0) (s:=10) Y) (aA [0,1,3,4,5,6,7] U7 Y ?_)
 refine ip ?_
 refine l4 1 λ_=>?_
 refine uT ?_
 refine hU (m:=5) ?_
 refine aT tb V [0,2,3,1003] (V3 [.fn 147 [.ptr [fj bl],.ptr [ai us],.ptr [bI ap]]]) [3] U4 Y ⟨bN hS V (SU V bl us ap) (cO Tryz.func121),U⟩ ?_
 refine ip ?_
 refine uS ?_
 refine ox (λh=>oa (p:=(∀ x∈([]:List Pr),gC wd x=false)) (λx Z=>by cases Z) h) ?_
 refine TO (m:=5) (κ:=Unit) (μ:=Empty) (σ:= {q:Pr // jL bl ap us wd=some q}) (SV V bl us ap rz) (cO Tryz.func147) V hS hJ0 b9 (λpre _=>[OB.mA (∀ x∈pre,gC wd x=false),OB.var b2 [lB false],OB.var b1 [lS (⟨#[]⟩:BA),lS (⟨#[]⟩:BA)]]) (λq':Empty=>undef) (λq'=>[]) (λs'=>[OB.var b1 (aR (s'.1)),OB.var b2 [lB true]]) () (λx9=>[(11,.ptr (aR x9)),(10,.ptr [bI z3.1]),(9,.at b2 0),(8,.at b1 0)]) (lb Y) Tryz.func95 ?_ ?_ ?_ ?_ ?_ ?_ ?_
 · exact λa w h=>xl (h.get 3 Y)
 rintro m9 l9 R' pre x9 _ K9 pU
 refine cG (iJ (cs:=aR x9) xX Y Y Y (lb Y) Y Y Y dz (m:=0) Y Y (λa w h=>aK hS _ h.keep h.x _ aV) (λa w h w' hk'=>fi V _ _ hk' h.x) ?_)
 exact aA [0,2,3,4] U4 Y (pU)
 rintro m9 l9 R' pre x9 _ hpre
 refine xL λhF=>?_
 have ic:∀ x∈pre,gC wd x=false:=hF
 refine ax (au tb V [0,1,2,3,1007] [_,_,.bJ [.int (vg z3.1 x9:Nat),.bool (decide (x9∈z3.1))],_,_,_,_,_] [2] U5 Y ⟨bN hS V (Sp V z3.1 x9 123 [] (λx' y'=>(Sx V x' y').r) ((cO Tryz.func123)) (z3.2.1) (by have:=z3.2.2.2;omega)) (cO Tryz.func122),U⟩ ?_)
 refine ak tb V [0,1,2,3,1008] U9 U5 ?_
 refine cj 4 ?_ ?_<;>intro hb1
 have e8:gC wd x9=true:=(CP z3.2).symm.trans hb1
 refine aL (ao 1 tb Y (kw bQ ?_))
 refine ck (b:=b1) (off:=0) (es:=U2) (news:=U2) V hJ0 jZ Y Y Y (lb Y) Y (λa w h=>⟨(h.get 4 Y),(h.get 0 Y)⟩) ?_
 refine kw bQ (gz (b:=b2) (off:=0) (es:=[_]) V hJ0 qB Y Y Y (lb Y) Y (λa w h=>⟨(h.get 3 Y),(Rel.aG (.bool true))⟩) ?_)
 refine aA [3,4] U2 Y (nx (aZ (kw bQ ?_)))
 exact λa w h=>⟨⟨x9,J2 hpre ic e8⟩,h.keep,h.x⟩
 have e8:gC wd x9=false:=(CP z3.2).symm.trans hb1
 exact aj (kw (λh=>oa (p:=(∀ x∈(pre++[x9]),gC wd x=false)) (Ta ic e8) h) (λa w h=>⟨(),h.keep,h.x⟩))
 rintro fa _ D
 refine kw bQ (xG λhF=>?_)
 have ic:∀ x∈(fe bl ap us),gC wd x=false:=hF
 have e9:jL bl ap us wd=none:=J3 ic
 refine rS (m:=5) ?_
 refine sR ?_
 refine my ?_
 refine sy (.agg (aR (⟨⟨#[]⟩,⟨#[]⟩⟩:Pr))) (λh=>gg (ps:=[]) (us:=[.string ⟨#[]⟩,.string ⟨#[]⟩]) CX Y yz f9 Y (dP (.lit _ aI) (dP (.lit _ aI) cE)) h.x) ?_
 refine kw dq (ck (b:=b1) (off:=0) (es:=U2) (news:=U2) V hJ0 jZ Y Y Y (lb Y) Y (λa w h=>⟨(h.get 3 Y),(h.get 0 Y)⟩) ?_)
 refine kw dq (gz (b:=b2) (off:=0) (es:=[_]) V hJ0 qB Y Y Y (lb Y) Y (λa w h=>⟨(h.get 2 Y),(Rel.aG (.bool false))⟩) ?_)
 refine aA [2,3] U2 Y (tZ ?_)
 refine LH dq ?_
 refine vE ?_
 refine w5 V hJ0 ?_
 exact kw bQ (λa w h=>FI (m:=1) (q:=0) Y ju wZ h Y Y Y (show(_:List CD)=[lS ((fB bl ap us wd).a),lS ((fB bl ap us wd).b)]from by(first | rw[ve e9] | rw[vc e9] | rw[vf s'.2] | rw[vd s'.2])<;>rfl) (eB (by first | rw[ve e9] | rw[vc e9] | rw[vf s'.2] | rw[vd s'.2])))
 rintro s' D
 refine w5 V hJ0 ?_
 exact λa w h=>FI (m:=2) (q:=1) Y ju wZ h Y Y Y (show(_:List CD)=[lS ((fB bl ap us wd).a),lS ((fB bl ap us wd).b)]from by(first | rw[ve e9] | rw[vc e9] | rw[vf s'.2] | rw[vd s'.2])<;>rfl) (eB (by first | rw[ve e9] | rw[vc e9] | rw[vf s'.2] | rw[vd s'.2]))
 · exact λv h=>by cases h
 · exact λq=>q.elim
section
variable {n:Rn} {P:Program} {l:List Oper} {Q:Exit->Act->WP}
end
section
variable {n:Rn} {P:Program} {l:List Oper} {Q:Exit->Act->WP}
variable {N:Nat} {J:WP} {S:Nat->Prop} {O:List OB} {w0:World} {env:List (Nat×AV)} {am:Nat->AV} {conds:Nat->Bool} {T:Array Value} {γ:Type}
theorem Does.toP {n:Rn} {P:Program} {o:Oper} {a:Act} {w:World} {post:Value->WP} {fl:List PanicEntry->WP} (h:Does n P o a w post):nc n P o a w post fl:=λK Q hK _=>h K Q hK
end
section
variable {n:Rn} {N:Nat} {P:Program} {S:Nat->Prop} {w0:World} {env:List (Nat×AV)} {X:WP} {l:List Oper} {Q:Exit->Act->WP}
end
theorem Ka:lE Tryz.prog 179 2:=⟨#[.slice none 0 0,.slice none 0 0],Y,λi=>some (i*1,1),λj _=>(show some (j*1,1)=some (j,1) by rw[Nat.mul_one]),λparts=>by kernel_rfl⟩
theorem yv:ol Tryz.prog 119 [.string ⟨#[]⟩,.bool false,.slice none 0 0]:=⟨λi=>(#[(0,1),(1,1),(2,1)]:Array (Nat×Nat))[i]?,λj hj=>by rcases j with _ | _ | _ | j<;>first | rfl | (simp at hj;omega) | simp at hj,λparts=>by kernel_rfl⟩
theorem R6 {J:WP} (V:aS J) (f:Fr) (s:BA) (ht:∀ h∈f.aa++f.bA,h.ac.length<=2000):Fn Tryz.prog J 86 [.agg (aY f),.str s] (.bJ [.agg (aN ((cy f s).getD default)),.bool ((cy f s).isSome)]):=by
 refine fE Tryz.func86 λS w0 hS hJ0=>?_
 refine tw cc (aL ?_)
 refine sy (.ptr (aY f)) (λh=>gc Y (h.get 0 Y) (aK hS _ h.keep h.x _ aV) (jo V h.x)) ?_
 refine cz kK V Y Y Y (lb Y) λb1=>?_
 refine ao 1 tb Y (aA [1,2,4] U3 Y ?_)
 refine nx (af (au tb V [0,2,1001,1003,1004,1005] (V4 [.agg [bW f.aa,bW f.bA],_]) [4] U6 Y ⟨λa _ _ Z hl _=>gd (us:=[a.eval (.tmp 11),a.eval (.tmp 13)]) Ka Y yz (bX (hl.D 1 11 Y Y) (bX (hl.D 3 13 Y Y) cE)) Y Z,U⟩ ?_))
 refine ln 2 λ_=>?_
 refine ln 3 λ_=>?_
 refine ax (lpo (ι:=Nat) (λk=>(k<=2)/\(∀ i,i<k->∀ h∈fQ f.aa f.bA i,¬ h.ae=s)) (λ_=>[OB.var b1 [lS (⟨#[]⟩:BA),lB false,ai ([]:List BA)]]) (λk=>[(15,.int (k:Nat))]) (λk=>2-k) [0,1,4,5] U3 0 ⟨aI,λi hi=>by omega⟩ ?_)
 rintro k ⟨aQ,ah⟩
 refine ak tb V [0,1,2,3,1000] [_] U5 ?_
 refine cI 4 ?_ ?_<;>intro hb1<;>try simp at hb1
 ·
  refine aj (nx (af (ax (au tb V [0,1,2,3,1000,1001] [.rd (bW (fQ f.aa f.bA k)),_] [0] U6 Y ⟨λ_ _ _ Z hl _=>TA (c:=bW (fQ f.aa f.bA k)) VP rW Ig Y (hl.env 2 14 _ Y Y) (hl.env 3 15 _ Y Y) bM Y (VI az) Z,U⟩ ?_))))
  refine ln 4 λ_=>?_
  refine au tb V [0,1,2,3,1000,1001,1002] [_,.int ((fQ f.aa f.bA k).length:Nat),_] [1] U7 Y ⟨aD cT,U⟩ ?_
  refine ax (lpo (ι:=Nat) (λj=>(j<=(fQ f.aa f.bA k).length)/\(∀ i,i<j->¬ (G (fQ f.aa f.bA k) i).ae=s)) (λ_=>[OB.var b1 [lS (⟨#[]⟩:BA),lB false,ai ([]:List BA)]]) (λj=>[(20,.int (j:Nat))]) (λj=>(fQ f.aa f.bA k).length-j) (r7 []) U6 0 ⟨aI,λi hi=>by omega⟩ ?_)
  rintro j ⟨fx,bi⟩
  refine ak tb V (r7 [1000]) [_] U8 ?_
  refine cI 7 ?_ ?_<;>intro hb2<;>try simp at hb2
  ·
   refine aj (nx (af (ax (aL (sy (.ptr (aN (G (fQ f.aa f.bA k) j))) (λh=>cb (i:=(j:Int)) cD Y (h.get 4 Y) (h.get 6 Y) bM (cq (xs:=(fQ f.aa f.bA k)) (k:=j) az) Y h.x) ?_)))))
   refine ao 1 tb Y (iJ (cs:=aN (G (fQ f.aa f.bA k) j)) su Y Y Y (lb Y) Y Y Y dz (m:=0) Y Y (λa w h=>aK hS _ h.keep h.x _ aV) (λa w h w' hk'=>fi V _ _ hk' h.x) ?_)
   refine aA [0,3,4,5,6,7,8,9] U8 Y (nx (ak tb V (r8 [1003]) U4 U9 ?_))
   refine cj 8 ?_ ?_<;>intro aE<;>try simp at aE
   ·
    have e3:=Ap oz ah hb2 bi aE
    refine aL (ao 1 tb Y (sy (.agg (aN (G (fQ f.aa f.bA k) j))) (λh=>cQ (GO V (G (fQ f.aa f.bA k) j) (by have h9:=ht _ (VJ (k:=k) (aC hb2));omega)) (cO Tryz.func113) Y (aK hS _ h.keep h.x) (h.x.1) (aq (h.get 0 Y) aP) (jo V h.x)) ?_))
    refine ck (b:=b1) (off:=0) (es:=U3) (news:=U3) V hJ0 jn Y Y Y (lb Y) Y (λa w h=>⟨(h.get 3 Y),(h.get 0 Y)⟩) ?_
    refine ao 1 tb Y (aA [0,4] U2 Y ?_)
    exact nx (aZ (λa w h=>iS (m:=1) (q:=0) Y nk h Y Y (show(_:List CD)=[lS (((cy f s).getD default).ae),lB (((cy f s).getD default).be),ai (((cy f s).getD default).ac)]from by(rw[e3];rfl)<;>rfl) Y (eB (by rw[e3];rfl))))
   ·
    refine aj (nx (aT tb V [1,2,3,4,5,6,1001] [.int (j+1:Nat),_] [0] U7 Y ⟨aM,U⟩ ?_))
    exact bq (j+1) (r7 []) ⟨oz,cF bi aE⟩
  ·
   refine aW (nx (aT tb V [0,1,2,1001] [.int (k+1:Nat),_] [0] U4 Y ⟨aM,U⟩ ?_))
   exact bq (k+1) [0,1,2,3] ⟨oz,cF ah λh hm=>by obtain⟨i,hi,rfl⟩:=ee hm;exact bi i oz⟩
 ·
  refine aW (nx (aL (sy (.agg (aN (⟨⟨#[]⟩,false,[]⟩:Hy))) (λh=>gg (ps:=[]) (us:=[.string ⟨#[]⟩,.bool false,.slice none 0 0]) yv Y yz f9 Y (dP (.lit _ aI) (dP (.lit _ True.intro) (dP (.nil _ _ aI) cE))) h.x) ?_)))
  refine ck (b:=b1) (off:=0) (es:=U3) (news:=U3) V hJ0 jn Y Y Y (lb Y) Y (λa w h=>⟨(h.get 1 Y),(h.get 0 Y)⟩) ?_
  refine ao 1 tb Y (aA [0,2] U2 Y ?_)
  exact nx (aZ (λa w h=>iS (m:=1) (q:=0) Y nk h Y Y (show(_:List CD)=[lS (((cy f s).getD default).ae),lB (((cy f s).getD default).be),ai (((cy f s).getD default).ac)]from by(rw[Ao λi hi=>ah i oz];rfl)<;>rfl) Y (eB (by rw[Ao λi hi=>ah i oz];rfl))))
end Go.Proofs.YtdfadihhfppjaaaGreatDoor
