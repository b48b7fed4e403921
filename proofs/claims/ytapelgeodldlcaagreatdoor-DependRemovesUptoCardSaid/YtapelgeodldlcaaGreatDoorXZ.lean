/-
  THE ENGINE: worlds that are grown of one world: draws, and blocks behind it (what a sort asks of its comparison).
  THE ENGINE: a row of structs that is made; two results out of variables; texts of a row.
  THE ENGINE: rows of structs from given parts; a struct of a row and a verdict; verdicts compared.
  THE ENGINE: a machine is built.
  WHAT THE STACK MACHINE KEEPS (plain).
  WHAT IS READ CAN BE WORKED (plain).
  WHAT A RIGHT DATABASE GIVES THE STACK MACHINE (plain).
  THE LAW's SAMPLE of verdicts, and its bounds (plain).
  VERDICTS WITHOUT WHAT IS NOT NEEDED (plain).
-/
import Derived.Test.YtapelgeodldlcaaGreatDoorXX
import Derived.Sort.Grow
import Derived.Test.YtapelgeodldlcaaGreatDoorXY
namespace Go.Proofs.YtapelgeodldlcaaGreatDoor
open Go.RowKit Go.Sort
def Ex (W w:World):Prop:=∃ q os,w=grow (W.drewN q) os
theorem ZtG (W:World):Ex W W:=⟨0, #[],by rw[grow_empty];rfl⟩
theorem ZjG {W w:World} (h:Ex W w) (o:Obj):Ex W (w.alloc o):=by
 obtain⟨q,os,rfl⟩:=h
 exact⟨q,os++ #[o],by rw[alloc_eq_grow,grow_grow]⟩
theorem ZtH {W w:World} (h:Ex W w):Ex W w.drew:=by
 obtain⟨q,os,rfl⟩:=h
 exact⟨q+1,os,rfl⟩
section
variable {P:Program} {n:Rn} {S:Nat→Prop} {W:World} {o:Oper} {a:Act} {w:World} {x:Operand} {t e:TypeId}
theorem x_box {cs:List CD} (hop:o.op= .box t x) (h:Rel S w (.agg cs) (a.eval x)) (hS:S w.heap.size) (hx:Ex W w):Z5 n P o a w (Yu S (Ex W) (.ptr cs) w):=by
 simp only[Rel]at h
 obtain⟨us,hv,hr⟩:=h
 have hk:Keeps All w (w.alloc (.cells us.toArray t)):=(Keeps.refl _ _).alloc _
 refine ZL (v:=.pointer (some ⟨w.heap.size,0,none⟩)) (w':=w.alloc (.cells us.toArray t)) ?_ ⟨?_,hk,ZjG hx _⟩
 · simp[execOp,hop,hv,Instr.box,newVar,newRow,newObj,Sem.run,Value.cells]
 · simp only[Rel]
   exact⟨w.heap.size,0,us,rfl,by simp,hS,hr.keep hk fun _ _ _=>trivial,fun j u hj=>Qv j u hj⟩
theorem Zoz {k:Nat} {cs:List CD} {parts:Array (Nat×Operand)} {us:List Value} (ht:Yl P t e 1) (hz:Zez P e 1) (hop:o.op= .buildSlice t k parts) (hp:(parts.map fun(i,x)=>(i,a.eval x)).toList=us.zipIdx.map fun p=>(p.2,p.1)) (h:RdL S w cs us) (hk:us.length=k) (hk0:0<k) (hk1:k≤1000) (hS:S w.heap.size) (hx:Ex W w):
 Z5 n P o a w (Yu S (Ex W) (.rd (.sl (cs.map fun c=>[c]))) w):=by
 obtain⟨z,hz,hzs,_⟩:=hz
 have hk':Keeps All w (w.alloc (.cells us.toArray e)):=(Keeps.refl _ _).alloc _
 have hf:=Zcg (k:=k) (place:=fun i=>some (i*1,1)) (fun j _=>by simp) us 0 ((Array.range (k*1)).map (z.cells[· %z.cells.size]!)) (by simp) (by omega) h.one
 refine ZL (v:=.slice (some ⟨w.heap.size,0,none⟩) k k) (w':=w.alloc (.cells us.toArray e)) ?_ ⟨?_,hk',ZjG hx _⟩
 · have hpl:(parts.map fun(i,x)=>(i,a.eval x)).toList=us.zipIdx.map fun p=>(p.2,p.1):=hp
   have hd:((Array.range (k*1)).map (z.cells[· %z.cells.size]!)).toList.drop (0+us.length)=[]:=by
    apply List.drop_of_length_le;simp;omega
   rw[hd]at hf
   simp only[List.take_zero,List.nil_append,List.append_nil]at hf
   rw[execOp,hop]
   have hn:¬ (k*1>2^24):=by omega
   have hn0:¬ (k*1=0):=by omega
   simp only[Sem.run_bind,Instr.buildSlice,run_underlying ht.1,Result.andThen_ok,ht.2 w,if_neg hn,if_neg hn0,hz w,hpl]
   simp only[Nat.mul_one]at hf ⊢
   simp[newRow,newObj,Sem.run,hf]
 · simp only[Rel]
   have hlen:(cs.map fun c=>[c]).length=k:=by rw[List.length_map,←hk,h.length]
   rw[←hlen]
   refine Rd.of_cells (n:=1) (us:=us) (Nat.le_refl _) (by rw[hlen];simp only[maxLen];omega) (by simp) hS (fun r hr=>by obtain⟨c,_,rfl⟩:=List.mem_map.1 hr;rfl) ?_ fun j u hj=>Qv j u hj
   have:(cs.map fun c=>[c]).flatten=cs:=by
    clear hlen hf h hp
    induction cs with
    | nil=>rfl
    | cons c cs ih=>simp only[List.map_cons,List.flatten_cons,ih];rfl
   rw[this]
   exact h.keep hk' fun _ _ _=>trivial
theorem Zlk {f:FuncId} {args:List Operand} {ts:Array TypeId} {vs:List Value} {r:Value} (h1:Zl P f) (hop:o.op= .call { callee:=.value (.func f),args:=args.toArray,argTypes:=ts }) (hv:args.map a.eval=vs) (hc:Calls P f vs.toArray w fun e w'=>e= .returned r∧w'=w) (hr:okLit r) (hx:Ex W w):Z5 n P o a w (Yu S (Ex W) (.lit r) w):=by
 refine Zme h1 hop ?_
 rw[List.map_toArray,hv]
 refine hc.mono fun e w' ⟨he,hw⟩=>⟨r,he,Rel.of_lit _ hr,hw▸Keeps.refl _ _,hw▸hx⟩
end
section
variable {P:Program} {n:Rn} {S S':Nat→Prop} {X:World→Prop} {o:Oper} {a:Act} {w:World} {x y:Operand} {t u s d:TypeId}
theorem r_toU {k:Nat} (hs:P.underlying s=some (.int .i64)) (hd:P.underlying d=some (.int .u64)) (hop:o.op= .convert s d x) (h:Rel S' w (.int (k:Int)) (a.eval x)) (hk:k<18446744073709551616) (hx:X w):Z5 n P o a w (Yu S X (.lit (.int .u64 (k:Int))) w):=by
 refine Zt (v:=.int .u64 (k:Int)) ?_ (Rel.of_lit _) hx
 have hw:IntKind.u64.wrap (k:Int)=k:=by simp[IntKind.wrap,IntKind.bits,IntKind.signed];omega
 simp[execOp,hop,h.lit,convert,Conv.intToInt,Sem.run_bind,run_underlying hs,run_underlying hd,hw]
theorem r_ofU {k:Nat} (hs:P.underlying s=some (.int .u64)) (hd:P.underlying d=some (.int .i64)) (hop:o.op= .convert s d x) (h:Rel S' w (.lit (.int .u64 (k:Int))) (a.eval x)) (hk:k≤9223372036854775807) (hx:X w):Z5 n P o a w (Yu S X (.int (k:Int)) w):=by
 refine Zt (v:=.int .i64 (k:Int)) ?_ (Rel.of_lit _) hx
 have hw:IntKind.i64.wrap (k:Int)=k:=IntWalk.i64_in (k:Int) ⟨by omega,by omega⟩
 simp[execOp,hop,h.lit,convert,Conv.intToInt,Sem.run_bind,run_underlying hs,run_underlying hd,hw]
theorem r_half {k:Nat} (hop:o.op= .binOp .shr t x y u) (h:Rel S w (.lit (.int .u64 (k:Int))) (a.eval x)) (hy:Rel S w (.lit (.int .u64 1)) (a.eval y)) (hx:X w):Z5 n P o a w (Yu S X (.lit (.int .u64 ((k/2:Nat):Int))) w):=by
 have hrun:(binOp .shr t (.int .u64 (k:Int)) (.int .u64 1)).run P w= .ok (.int .u64 ((k/2:Nat):Int)) w:=by
  have h2:(k:Int).fdiv (2^ (min (Int.toNat 1) 64))=((k/2:Nat):Int):=by
   rw[show(2:Int)^ (min (Int.toNat 1) 64)=2 from by decide,Int.fdiv_eq_ediv_of_nonneg _ (by omega)]
   omega
  show(Op.shift .shr .u64 (k:Int) .u64 1).run P w=_
  unfold Op.shift
  rw[if_neg (by omega)]
  show Result.ok (Value.int .u64 ((k:Int).fdiv (2^ (min (Int.toNat 1) 64)))) w=_
  rw[h2]
 exact ZaG True.intro (Xb ..) hrun hop h hy hx
end
section
variable {P:Program} {n:Rn} {S S':Nat→Prop} {X:World→Prop} {o:Oper} {a:Act} {w:World} {x:Operand} {t e:TypeId} {k:Nat} {v:Value} {rows:List (List CD)}
theorem Zo5 {lo m:Nat} (hm:rows.length-lo=m) (h1:P.underlying t=some (.slice e)) (hop:o.op= .call { callee:=.builtin .len,args:= #[x],argTypes:= #[t] }) (hi:∃ l,(OB.row v e k rows).inv l S w) (h:Rel S' w (.lit (ZeF v lo k)) (a.eval x)) (hx:X w):
 Z5 n P o a w (Yu S X (.int m) w):=by
 subst hm
 obtain⟨l,us,g1,_⟩:=hi
 refine Zt (v:=.int .i64 ((rows.length-lo:Nat):Int)) ?_ (Rel.of_lit _) hx
 rcases g1.2 with⟨hv,h4⟩ | ⟨g,cap,cur,hv,_⟩
 · simp[execOp,hop,h.lit,hv,ZeF,resolve,invoke,builtin,Builtin.len_,Sem.run_bind,run_underlying h1,goInt,h4]
 · simp[execOp,hop,h.lit,hv,ZeF,resolve,invoke,builtin,Builtin.len_,Sem.run_bind,run_underlying h1,goInt]
end
end Go.Proofs.YtapelgeodldlcaaGreatDoor
namespace Go.Proofs.YtapelgeodldlcaaGreatDoor
open Go.RowKit
def ZuN (P:Program) (t e:TypeId) (kc bytes:Nat) (z:Value):Prop:=
 P.underlying t=some (.slice e)∧(∃ i,P.info? e=some i∧i.zero=some z∧i.size=kc∧i.bytes=bytes)
theorem makeN {P:Program} {t e:TypeId} {kc bytes:Nat} {z:Value} (h1:P.underlying t=some (.slice e)) (hinfo:(P.info? e).map (fun i=>(i.zero,i.size,i.bytes))=some (some z,kc,bytes)):ZuN P t e kc bytes z:=by
 refine⟨h1,?_⟩
 cases hi:P.info? e with
 | none=>rw[hi]at hinfo;cases hinfo
 | some i=>
  rw[hi]at hinfo
  simp only[Option.map_some,Option.some.injEq,Prod.mk.injEq]at hinfo
  exact⟨i,rfl,hinfo.1,hinfo.2.1,hinfo.2.2⟩
theorem Zd3 {α:Type} {l:List α} (h0:0<l.length):∀(k i:Nat),i<k*l.length→(List.replicate k l).flatten[i]?=l[i%l.length]?
 | 0,i,h=>by omega
 | k+1,i,h=>by
  rw[List.replicate_succ,List.flatten_cons]
  rcases Nat.lt_or_ge i l.length with h1 | h1
  · rw[List.getElem?_append_left h1,Nat.mod_eq_of_lt h1]
  · rw[List.getElem?_append_right h1,Zd3 h0 k (i-l.length) (by rw[Nat.succ_mul]at h;omega),Nat.mod_eq_sub_mod h1]
theorem made_N {c:Array Value} (h0:0<c.size) (k:Nat):(madeCells c (k*c.size)).toList=(List.replicate k c.toList).flatten:=by
 apply List.ext_getElem?
 intro i
 have hl:c.toList.length=c.size:=by simp
 rcases Nat.lt_or_ge i (k*c.size)with h | h
 · rw[Zd3 (by rw[hl];exact h0) k i (by rw[hl];exact h),hl]
   have hm:i%c.size<c.size:=Nat.mod_lt _ h0
   simp[madeCells,h,hm]
 · rw[List.getElem?_eq_none (by simp[madeCells];exact h),List.getElem?_eq_none]
   simp only[List.length_flatten,List.map_replicate,List.sum_replicate_nat,hl]
   exact h
theorem Zi0 {cs:List CD} {vs:List Value} {S:Nat→Prop} {w:World} (h:RdL S w cs vs):∀ k,RdL S w ((List.replicate k cs).flatten) ((List.replicate k vs).flatten)
 | 0=>trivial
 | k+1=>by
  rw[List.replicate_succ,List.flatten_cons,List.replicate_succ,List.flatten_cons]
  exact h.append (Zi0 h k)
section
variable {n:Rn} {N:Nat} {P:Program} {J X:World→Prop} {S S' S'':Nat→Prop} {O:List OB} {w0:World} {env:List (Nat×AV)} {Q:Exit→Act→World→Prop}
theorem ZhC {ops:Array Oper} {o:Oper} {rest:List Oper} {t e:TypeId} {kc bytes d k:Nat} {z:Value} {x y:Operand} {α:Type} {f:α→List CD} (a0:α) (ht:ZuN P t e kc bytes z) (hf:∀(S:Nat→Prop) (w:World),RdL S w (f a0) z.cells.toList) (hzc:z.cells.size=kc) (hkc:0<kc) (hJ:Stab J) (hg:o.guard=none) (hop:o.op= .makeSlice t x y) (hd:o.dst=some d) (hN:d<N)
 (h1:∀ a w,St All (SO S O) w0 N env (XO J S w0.heap.size O) a w→Rel (SO S O) w (.int (k:Int)) (a.eval x)∧Rel (SO S O) w (.int (k:Int)) (a.eval y)) (hb:bytes*k≤281474976710656) (h63:k≤9223372036854775807)
 (next:∀ v a w,St All (SO S (OB.row v e kc ((List.replicate k a0).map f)::O)) w0 N ((d,.lit v)::YA d env) (XO J S w0.heap.size (OB.row v e kc ((List.replicate k a0).map f)::O)) a w→wpListIn n.F n.d P ops Q rest a w):
 ∀ a w,St All (SO S O) w0 N env (XO J S w0.heap.size O) a w→wpListIn n.F n.d P ops Q (o::rest) a w:=by
 refine Zcv (O2:=fun v=>OB.row v e kc ((List.replicate k a0).map f)::O) (av:=fun v=>.lit v) hg hd hN (fun a w h=>?_) next
 obtain⟨ht1,i,hi,hz,hs,hbb⟩:=ht
 obtain⟨g1,g2⟩:=h1 a w h
 have hb':(i.bytes:Int)*(k:Int)≤281474976710656:=by
  rw[hbb]
  have h:((bytes*k:Nat):Int)≤281474976710656:=by omega
  rwa [Int.natCast_mul]at h
 have hrun:=run_make (P:=P) w t e i z ht1 hi hz .i64 .i64 (k:Int) (k:Int) (by omega) (Int.le_refl _) hb' (by omega)
 rw[hs,Int.toNat_natCast]at hrun
 have hk:Keeps All w (w.alloc (.cells (madeCells z.cells (k*kc)) e)):=(Keeps.refl _ _).alloc _
 have hmade:(madeCells z.cells (k*kc)).toList=(List.replicate k z.cells.toList).flatten:=by rw[←hzc];exact made_N (by omega) k
 have hrows:((List.replicate k a0).map f).flatten=(List.replicate k (f a0)).flatten:=by rw[List.map_replicate]
 have hfl:(f a0).length=kc:=by rw[←(hf S w).length];simpa using hzc
 have hml:(madeCells z.cells (k*kc)).toList.length=k*kc:=by simp[madeCells]
 refine ZL (v:=.slice (some ⟨w.heap.size,0,none⟩) k k) (w':=w.alloc (.cells (madeCells z.cells (k*kc)) e)) ?_ ⟨.slice (some ⟨w.heap.size,0,none⟩) k k,XW hJ h.keep h.x hk (fun b hb=>?_) ?_,Rel.of_lit _⟩
 · simp only[execOp,hop,g1.lit,g2.lit,Sem.run_bind,hrun]
   rfl
 · simp[OB.row,Value.ownBlock]at hb
   omega
 · refine⟨(madeCells z.cells (k*kc)).toList,⟨by rw[hml];simp,.inr ⟨w.heap.size,k,madeCells z.cells (k*kc),by simp,h.keep.size,heap_alloc_new w _,by simp,by unfold maxLen;omega,by simp[madeCells],?_⟩⟩,?_,fun r hr=>?_⟩
   · exact List.take_of_length_le (by rw[hml];simp)
   · rw[hrows,hmade];exact Zi0 (hf _ _) k
   · rw[List.map_replicate]at hr
     rw[(List.mem_replicate.1 hr).2];exact hfl
end
section
variable {N:Nat} {P:Program} {J:World→Prop} {S:Nat→Prop} {O:List OB} {w0 w:World} {env:List (Nat×AV)} {a:Act} {b b2:Nat} {cs:List CD} {c2:CD} {t t2:TypeId}
theorem Zna {fn:Func} {d m q u:Nat} {k:Nat} {cs':List CD} {r2:AV} (hr:fn.results= #[.cell d t,.cell u t2]) (h1:X4 P t k) (h2:XV P t2) (h:St All (SO S (OB.var b cs::OB.var b2 [c2]::O)) w0 N env (XO J S w0.heap.size (OB.var b cs::OB.var b2 [c2]::O)) a w) (he:env[m]?=some (d,.at b 0)) (he2:env[q]?=some (u,.at b2 0)) (hl:cs.length=k) (hE:cs=cs') (hE2:AV.rd c2=r2):
 bodyPost P fn (fun e w'=>∃ v,e= .returned v∧Rel S w' (.tup [.agg cs',r2]) v∧Keeps All w0 w'∧J w') .ret a w:=by
 subst hE
 subst hE2
 obtain⟨h0,us,e,hb,hrd⟩:=h.x.2.1 (OB.var b cs) (by simp)
 obtain⟨g0,vs,e',gb,grd⟩:=h.x.2.1 (OB.var b2 [c2]) (by simp)
 match vs,grd with
 | [v2],grd=>
  have hd:a.tmps.getD d undef= .pointer (some ⟨b,0,none⟩):=(h.get m he).lit
  have hu:a.tmps.getD u undef= .pointer (some ⟨b2,0,none⟩):=(h.get q he2).lit
  have hrun:=YN (P:=P) b 0 w us 0 #[] fun j u hj=>by rw[Nat.zero_add];simp[World.cell?,hb,hj]
  rw[show us.length=k by rw[hrd.length,hl]]at hrun
  have hd':a.tmps[d]?.getD undef= .pointer (some ⟨b,0,none⟩):=by rw[←Array.getD_eq_getD_getElem?];exact hd
  have hu':a.tmps[u]?.getD undef= .pointer (some ⟨b2,0,none⟩):=by rw[←Array.getD_eq_getD_getElem?];exact hu
  have hcell:w.cell? ⟨b2,0,none⟩=some v2:=by simp[World.cell?,gb]
  refine⟨h.defs,.tuple #[.agg us.toArray,v2],by simp[results,hr,hd',hu',asAddr,Sem.run_bind,loadVar,loadCells,h1.1 w,h1.2 w,h2 w,hrun,hcell],_,rfl,?_,h.keep,h.x.1⟩
  simp only[Rel,RelL]
  exact⟨_,rfl,_,_,rfl,⟨us,rfl,hrd.sub fun _ _ hk=>hk.1⟩,_,_,rfl,grd.1.sub fun _ _ hk=>hk.1,rfl⟩
theorem Zsn {T:Nat→Prop} {us:List ByteArray} {v:Value} (h:Rd T w (Zb us) v):∀ s∈us,s.size≤maxLen:=by
 unfold Zb at h
 generalize hr:us.map Q5=rows at h
 cases h with
 | nil a cap hm=>simp at hr;subst hr;simp
 | sl b off cap n rows vs hl hm hb hS hn hc hrd=>
  subst hr
  intro s hs
  obtain⟨i,hi,rfl⟩:=List.getElem_of_mem hs
  have h1:=hrd i 0 (Q5 us[i]) (.lit (.string us[i])) (by simp[hi]) rfl
  generalize vs i 0=u at h1
  cases h1 with
  | lit _ hv=>exact hv
theorem lnStrA {fid:FuncId} {K:Nat→Prop} {X:World→Prop} {c:Code} {Q:Exit→Act→World→Prop} {us:List ByteArray} {s:Nat} (m:Nat) (h:(∀ x∈us,x.size≤maxLen)→TrA fid P (St K S w0 N env X) c Q) (he:env[m]?=some (s,.rd (Zb us)):=by exact rfl):TrA fid P (St K S w0 N env X) c Q:=fun a w ha=>h (Zsn (by have:=ha.get m he;simpa only[Rel]using this)) a w ha
end
theorem Zmk:∀(r:List Value) (s off:Nat) (pre old post:List Value),pre.length=off+s→old.length=r.length→
 (r.zipIdx s).foldl (fun(cs:Array Value) (x:Value×Nat)=>cs.setIfInBounds (off+x.2) x.1) (pre++old++post).toArray=(pre++r++post).toArray
 | [],s,off,pre,old,post,_,h2=>by
  have:old=[]:=List.length_eq_zero_iff.1 (by simpa using h2)
  subst this
  rfl
 | v::r,s,off,pre,old,post,h1,h2=>by
  match old,h2 with
  | u::old,h2=>
   rw[List.zipIdx_cons,List.foldl_cons]
   have e:((pre++u::old++post).toArray.setIfInBounds (off+s) v)=((pre++[v])++old++post).toArray:=by
    rw[List.setIfInBounds_toArray]
    congr 1
    rw[List.append_assoc,List.set_append_right _ _ (by omega),h1.symm,Nat.sub_self]
    simp
   rw[e,Zmk r (s+1) off (pre++[v]) old post (by simp;omega) (by simpa using h2)]
   simp
theorem Zg5 {k:Nat}:∀(rows:List (List Value)) (i:Nat) (pre z:List Value),pre.length=i*k→z.length=rows.length*k→(∀ r∈rows,r.length=k)→
 Instr.fill (fun i=>some (i*k,k)) (pre++z).toArray ((rows.zipIdx i).map fun p=>(p.2,Value.agg p.1.toArray))=some (pre++rows.flatten).toArray
 | [],i,pre,z,_,h2,_=>by
  have:z=[]:=List.length_eq_zero_iff.1 (by simpa using h2)
  subst this
  simp[Instr.fill]
 | r::rows,i,pre,z,h1,h2,h3=>by
  have hr:=h3 r (by simp)
  have hz:z.length=k+rows.length*k:=by rw[h2,List.length_cons,Nat.succ_mul,Nat.add_comm]
  have hcell:(Value.agg r.toArray).cells=r.toArray:=rfl
  simp only[List.zipIdx_cons,List.map_cons,Instr.fill,hcell]
  rw[if_neg (by simp[hr];omega)]
  have e:(Array.foldl (fun cs (x:Value×Nat)=>cs.setIfInBounds (i*k+x.snd) x.fst) (pre++z).toArray r.toArray.zipIdx)=((pre++r)++z.drop k).toArray:=by
   have:=Zmk r 0 (i*k) pre (z.take k) (z.drop k) h1 (by rw[List.length_take];omega)
   rw[List.append_assoc pre,List.take_append_drop]at this
   rw[←this]
   simp
  rw[e,Zg5 rows (i+1) (pre++r) (z.drop k) (by rw[List.length_append,h1,hr,Nat.succ_mul]) (by rw[List.length_drop];omega) fun q hq=>h3 q (by simp[hq])]
  simp
section
variable {n:Rn} {N:Nat} {P:Program} {J X:World→Prop} {S S' S'':Nat→Prop} {O:List OB} {w0:World} {env:List (Nat×AV)} {Q:Exit→Act→World→Prop}
variable {o:Oper} {a:Act} {w:World} {t e u:TypeId} {x y:Operand}
theorem ZlZ {k:Nat}:∀ {cs:List (List CD)} {vs:List Value},RelL S w (cs.map AV.agg) vs→(∀ r∈cs,r.length=k)→
 ∃ us:List (List Value),vs=us.map (fun r=>Value.agg r.toArray)∧us.length=cs.length∧(∀ r∈us,r.length=k)∧RdL S w cs.flatten us.flatten
 | [],vs,h,_=>by
  simp only[List.map_nil,RelL]at h
  subst h
  exact⟨[],rfl,rfl,by simp,trivial⟩
 | c::cs,vs,h,hk=>by
  simp only[List.map_cons,RelL]at h
  obtain⟨v,vs',rfl,h1,h2⟩:=h
  simp only[Rel]at h1
  obtain⟨u,rfl,hr⟩:=h1
  obtain⟨us,rfl,hl,hk2,hr2⟩:=ZlZ (cs:=cs) h2 fun r hr=>hk r (by simp[hr])
  refine⟨u::us,rfl,by simp[hl],fun r hr3=>?_,?_⟩
  · rcases List.mem_cons.1 hr3 with rfl | hr3
    · rw[hr.length];exact hk c (by simp)
    · exact hk2 r hr3
  · rw[List.flatten_cons,List.flatten_cons]
    exact hr.append hr2
theorem r_rowK {k m:Nat} {cs:List (List CD)} {vs:List Value} {z:Array Value} {parts:Array (Nat×Operand)} (ht:Yl P t e k) (hz:∀ w,(zeroValue e).run P w= .ok (.agg z) w) (hop:o.op= .buildSlice t m parts) (hp:(parts.map fun(i,x)=>(i,a.eval x)).toList=vs.zipIdx.map fun p=>(p.2,p.1)) (h:RelL S w (cs.map AV.agg) vs) (hk:∀ r∈cs,r.length=k) (hl:cs.length=m) (h1:1≤k) (hm:1≤m*k) (hm2:m*k≤16777216)
 (hS:S w.heap.size) (hx:∀ w',Keeps All w w'→X w'):Z5 n P o a w (Yu S X (.rd (.sl cs)) w):=by
 obtain⟨us,rfl,hul,huk,hall⟩:=ZlZ h hk
 have hfl:us.flatten.length=m*k:=by
  have:∀ us:List (List Value),(∀ r∈us,r.length=k)→us.flatten.length=us.length*k:=by
   intro us
   induction us with
   | nil=>simp
   | cons r us ih=>intro h;rw[List.flatten_cons,List.length_append,h r (by simp),ih fun q hq=>h q (by simp[hq]),List.length_cons,Nat.succ_mul,Nat.add_comm]
  rw[this us huk,hul,hl]
 have hf:=Zg5 us 0 [] ((List.range (m*k)).map (z[· %z.size]!)) (by simp) (by simp[hul,hl]) huk
 have hf2:Instr.fill (fun i=>some (i*k,k)) ((Array.range (m*k)).map (z[· %z.size]!)) (parts.map fun(i,x)=>(i,a.eval x)).toList=some us.flatten.toArray:=by
  rw[hp,List.zipIdx_map,List.map_map]
  have e:(Array.range (m*k)).map (z[· %z.size]!)=([]++(List.range (m*k)).map (z[· %z.size]!)).toArray:=by
   apply Array.ext'
   simp[Array.toList_range]
  rw[e]
  exact hf
 have hk':Keeps All w (w.alloc (.cells us.flatten.toArray e)):=(Keeps.refl _ _).alloc _
 refine ZL (v:=.slice (some ⟨w.heap.size,0,none⟩) m m) (w':=w.alloc (.cells us.flatten.toArray e)) ?_ ⟨?_,hk',hx _ hk'⟩
 · have hcz:(Value.agg z).cells=z:=rfl
   rw[execOp,hop]
   simp only[Sem.run_bind,Instr.buildSlice,run_underlying ht.1,Result.andThen_ok,ht.2 w]
   simp[newRow,newObj]
   rw[hz w]
   simp only[Result.andThen_ok,hcz]
   have hf3:=hf2
   simp only[Array.toList_map]at hf3
   simp only[hf3]
   rw[if_neg (by omega),if_neg (by omega)]
   rfl
 · simp only[Rel]
   rw[show(m:Nat)=cs.length from hl.symm]
   refine Rd.of_cells (n:=k) (us:=us.flatten) (Nat.le_refl _) (by rw[hl];exact Nat.le_trans (Nat.le_mul_of_pos_right m h1) (Nat.le_trans hm2 (by decide))) (by simp) hS hk (hall.keep hk' fun _ _ _=>trivial) fun j u hj=>Qv j u hj
theorem Zj0 {c d:Int} {v:Value} (h:Rel S w (.agg [.lit (.int .i64 c),.lit (.int .i64 d)]) v):v= .agg #[.int .i64 c,.int .i64 d]:=by
 simp only[Rel]at h
 obtain⟨us,rfl,hr⟩:=h
 match us,hr with
 | [p,q],hr=>
  obtain rfl:=hr.1.of_lit
  obtain rfl:=hr.2.1.of_lit
  rfl
def EqVd (P:Program) (t:TypeId):Prop:=∀(a b c d:Int) (w:World) (x y:Operand),(eqGuard .eql t x y (.agg #[.int .i64 a,.int .i64 b]) (.agg #[.int .i64 c,.int .i64 d])).run P w= .ok () w∧(eqGuard .neq t x y (.agg #[.int .i64 a,.int .i64 b]) (.agg #[.int .i64 c,.int .i64 d])).run P w= .ok () w∧
 (Op.equal t (.agg #[.int .i64 a,.int .i64 b]) (.agg #[.int .i64 c,.int .i64 d])).run P w= .ok (decide (a=c)&&decide (b=d)) w
theorem r_neqV {c d c' d':Int} (ht:EqVd P t) (hop:o.op= .binOp .neq t x y u) (h1:Rel S w (.agg [.lit (.int .i64 c),.lit (.int .i64 d)]) (a.eval x)) (h2:Rel S w (.agg [.lit (.int .i64 c'),.lit (.int .i64 d')]) (a.eval y)) (hx:X w):
 Z5 n P o a w (Yu S X (.bool (!(decide (c=c')&&decide (d=d')))) w):=by
 obtain⟨_,g1,g3⟩:=ht c d c' d' w x y
 refine Zt (v:=.bool (!(decide (c=c')&&decide (d=d')))) ?_ (Rel.of_lit _) hx
 rw[execOp,hop]
 simp only[Zj0 h1,Zj0 h2,Sem.run_bind,g1,Result.andThen_ok,binOp,g3]
 rfl
end
def ZrY (P:Program) (t:TypeId):Prop:=∀(x1 x2 x3 y1 y2 y3 y4 y5 y6 y7 y8:Value) (m:Nat),P.built t [(0,.agg #[x1,x2,x3]),(1,.agg #[y1,y2,y3,y4,y5,y6,y7,y8]),(2,.map (some m))]=
 some #[x1,x2,x3,y1,y2,y3,y4,y5,y6,y7,y8,.map (some m),.slice none 0 0,.slice none 0 0,.slice none 0 0,.int .i64 0,.bool false,.int .i64 0,.int .i64 0]
abbrev mzC (m:Nat):List CD:=[.lit (.map (some m)),.lit (.slice none 0 0),.lit (.slice none 0 0),.lit (.slice none 0 0),.lit (.int .i64 0),.lit (.bool false),.lit (.int .i64 0),.lit (.int .i64 0)]
theorem Zpd {P:Program} {n:Rn} {S:Nat→Prop} {X:World→Prop} {o:Oper} {a:Act} {w:World} {t:TypeId} {x y z:Operand} {d:Db} {f:Fr} {m:Nat} (ht:ZrY P t) (hop:o.op= .build t #[(0,x),(1,y),(2,z)]) (h:Rel S w (.agg (dbC d)) (a.eval x)) (h2:Rel S w (.agg (frC f)) (a.eval y)) (hz:a.eval z= .map (some m)) (hx:X w):
 Z5 n P o a w (Yu S X (.agg (dbC d++(frC f++mzC m))) w):=by
 simp only[Rel]at h h2
 obtain⟨us,hv,hr⟩:=h
 obtain⟨vs,hw,hq⟩:=h2
 match us,hr,vs,hq with
 | [u1,u2,u3],hr,[y1,y2,y3,y4,y5,y6,y7,y8],hq=>
  refine Zt (v:=.agg (([u1,u2,u3]:List Value)++(([y1,y2,y3,y4,y5,y6,y7,y8]:List Value)++[Value.map (some m),.slice none 0 0,.slice none 0 0,.slice none 0 0,.int .i64 0,.bool false,.int .i64 0,.int .i64 0])).toArray) ?_ (by simp only[Rel];exact⟨_,rfl,hr.append (hq.append (ds:=mzC m) ⟨.lit _ True.intro,.lit _ True.intro,.lit _ True.intro,.lit _ True.intro,.lit _ True.intro,.lit _ True.intro,.lit _ True.intro,.lit _ True.intro,trivial⟩)⟩) hx
  have hrun:=run_build (P:=P) w t #[(0,a.eval x),(1,a.eval y),(2,a.eval z)] #[u1,u2,u3,y1,y2,y3,y4,y5,y6,y7,y8,.map (some m),.slice none 0 0,.slice none 0 0,.slice none 0 0,.int .i64 0,.bool false,.int .i64 0,.int .i64 0] (by rw[hv,hw,hz];exact ht u1 u2 u3 y1 y2 y3 y4 y5 y6 y7 y8 m)
  rw[execOp,hop]
  simp only[List.map_toArray,List.map_cons,List.map_nil,Sem.run_bind,hrun]
  rfl
theorem d_map {κ α:Type} [DecidableEq κ] {n:Rn} {P:Program} {J:World→Prop} {S:Nat→Prop} {O:List OB} {w0 w:World} {o:Oper} {a:Act} {t:TypeId} (Kd:Zai κ) (f:α→AV) (hJ:Stab J) (hop:o.op= .makeMap t none) (hk0:Keeps All w0 w) (hx:XO J S w0.heap.size O w):
 Z5 n P o a w fun v w'=>∃ M:Nat,v= .map (some M)∧ZaM J S w0 O w (OB.map Kd f M []::O) w':=by
 have hk:Keeps All w (w.alloc (.map #[] 0)):=(Keeps.refl _ _).alloc _
 refine ZL (v:=.map (some w.heap.size)) (w':=w.alloc (.map #[] 0)) ?_ ⟨w.heap.size,rfl,XW hJ hk0 hx hk (fun b hb=>Nat.le_of_eq hb.symm) ⟨hk0.size,[],IsMap.new w,trivial⟩⟩
 simp[execOp,hop,Instr.makeMap,newObj,Sem.run]
theorem perm_3 {a b c:OB} {l:List OB}:(a::b::c::l).Perm (c::a::b::l):=List.perm_middle (l₁:=[a,b]) (l₂:=l) (a:=c)
end Go.Proofs.YtapelgeodldlcaaGreatDoor
namespace Go.Proofs.YtapelgeodldlcaaGreatDoor
def okT (g:Fr):Prop:=0<g.text.length∧∀ h∈g.hyps,h.floating=true→¬ ge h.text 1=ge g.text 0
theorem ZuK {g:Fr} (hg:okT g) (sk:List (List ByteArray)) (b:Nat):1≤(Zah (Yp (XM g.hyps sk b g.hyps.length)) g.text).length:=by
 obtain⟨h0,h1⟩:=hg
 have h2:ZB (Yp (XM g.hyps sk b g.hyps.length)) (ge g.text 0)=none:=by
  rw[ZgI,List.find?_eq_none.2,Option.map_none]
  intro x hx
  obtain⟨j,hj,he⟩:=List.mem_filterMap.1 hx
  have hj:j<g.hyps.length:=by simpa using hj
  unfold ZrV at he
  split at he
  · rename_i hf
    cases he
    simpa using h1 _ (ZF hj) hf
  · cases he
 have h3:=Qo (M:=Yp (XM g.hyps sk b g.hyps.length)) h0
 have h4:=QY (Yp (XM g.hyps sk b g.hyps.length)) g.text 1
 rw[h3,List.length_append]at h4
 simp only[XA,h2,List.length_singleton]at h4
 omega
def Zbt (xs:List Itm) (k:Nat):Nat:=((xs.take k).filter (·.tagged)).length
theorem Zkf {xs:List Itm} {k:Nat} (h:k<xs.length):Zbt xs (k+1)=if(ge xs k).tagged=true then Zbt xs k+1 else Zbt xs k:=by
 unfold Zbt
 rw[ZO h,List.filter_append,List.length_append]
 by_cases h2:(ge xs k).tagged=true<;>simp[h2]
theorem ZoO (xs:List Itm) (k:Nat):Zbt xs k≤k:=by
 unfold Zbt
 have:=List.length_filter_le (·.tagged) (xs.take k)
 have:=List.length_take_le k xs
 omega
def Ztb (fs:List Fr) (xs:List Itm):Prop:=xs.length≤2000∧∀ k,k<xs.length→okI fs.length (Zbt xs k) (ge xs k)∧((ge xs k).kind=1→1≤(ge xs k).text.length∧(ge xs k).text.length≤2000)
structure Zow (xs:List Itm) (m:Ms):Prop where
 sk:∀ t∈m.sk,1≤t.length∧t.length≤2000
 tg:∀ t∈m.tg,1≤t.length∧t.length≤2000
 skn:m.sk.length≤m.n
 tgn:m.tg.length=Zbt xs m.n
 n:m.n≤xs.length
 kn:m.kn=false→m.n<xs.length
theorem Zr8 {vars:List ByteArray} {wide:List Pr} {g:Fr} {sk:List (List ByteArray)} {b:Nat} {t:List ByteArray} (hg:okT g) (h:ZoF vars wide g sk b= .ok t):1≤t.length∧t.length≤2000:=by
 unfold ZoF at h
 split at h
 · cases h
 split at h
 · cases h
 split at h
 · cases h
 split at h
 · cases h
 · rename_i h3 _
   injection h with h
   subst h
   simp only[ZdU,Bool.not_eq_true',decide_eq_false_iff_not,Nat.not_le,Nat.not_lt]at h3
   exact⟨ZuK hg sk b,h3⟩
theorem Zp0 {fs:List Fr} {vars:List ByteArray} {f:Fr} {sk tg s:List (List ByteArray)} {x:Itm} (hfs:∀ g∈fs,okT g) (hx:okI fs.length tg.length x) (hx1:x.kind=1→1≤x.text.length∧x.text.length≤2000) (hs:∀ t∈sk,1≤t.length∧t.length≤2000) (ht:∀ t∈tg,1≤t.length∧t.length≤2000) (h:Y4 fs vars f sk tg x= .ok s):∀ t∈s,1≤t.length∧t.length≤2000:=by
 unfold Y4 at h
 split at h
 · rename_i hk
   injection h with h
   subst h
   intro t h2
   rcases List.mem_append.1 h2 with h2 | h2
   · exact hs t h2
   · rw[List.mem_singleton.1 h2];exact hx1 hk
 split at h
 · rename_i _ hk
   have h9:=hx.2.2.1 hk
   unfold ZcY at h
   split at h
   · cases h
   split at h
   · cases h
   · rename_i u hu
     injection h with h
     subst h
     intro t h2
     rcases List.mem_append.1 h2 with h2 | h2
     · exact hs t (List.mem_of_mem_take h2)
     · rw[List.mem_singleton.1 h2];exact Zr8 (hfs _ (ZF (by omega))) hu
 split at h
 · rename_i _ _ hk
   have h9:=hx.2.2.2 hk
   injection h with h
   subst h
   intro t h2
   rcases List.mem_append.1 h2 with h2 | h2
   · exact hs t h2
   · rw[List.mem_singleton.1 h2];exact ht _ (ZF (by omega))
 split at h<;>cases h
theorem ZoQ {fs:List Fr} {vars:List ByteArray} {f:Fr} {xs:List Itm} {m:Ms} (hfs:∀ g∈fs,okT g) (hxs:Ztb fs xs) (h:Zow xs m):Zow xs (ZS fs vars f xs m):=by
 obtain⟨sk,tg,n,kn,v,did⟩:=m
 obtain⟨h1,h2,h3,h4,h5,h6⟩:=h
 simp only at h1 h2 h3 h4 h5 h6
 cases hk:kn with
 | true=>rw[Zc8 rfl];exact⟨h1,h2,h3,h4,h5,fun e=>by cases e⟩
 | false=>
  have hn:=h6 hk
  obtain⟨hx,hx1⟩:=hxs.2 n hn
  rw[←h4]at hx
  cases hd:Y4 fs vars f sk tg (ge xs n)with
  | error c=>rw[Zdy rfl hd];exact⟨h1,h2,h3,h4,h5,fun e=>by cases e⟩
  | ok s=>
   rw[Zc7 rfl hd]
   have hs:=Zp0 hfs hx hx1 h1 h2 hd
   have hl:=ZgP hd
   have hT:∀ t∈(if(ge xs n).tagged=true then tg++[ge s ((s.length:Int)-1).toNat]else tg),1≤t.length∧t.length≤2000:=by
    intro t ht
    split at ht
    · rcases List.mem_append.1 ht with ht | ht
      · exact h2 t ht
      · rw[List.mem_singleton.1 ht];exact hs _ (ZF (by omega))
    · exact h2 t ht
   have hN:(if(ge xs n).tagged=true then tg++[ge s ((s.length:Int)-1).toNat]else tg).length=Zbt xs (n+1):=by
    rw[Zkf hn]
    split<;>simp[h4]
   revert hT hN
   generalize (if(ge xs n).tagged=true then tg++[ge s ((s.length:Int)-1).toNat]else tg)=tg'
   intro hT hN
   unfold Zcq
   split
   · rename_i hlt
     exact⟨hs,hT,by simp only;omega,hN,by simp only;omega,fun _=>hlt⟩
   · exact⟨hs,hT,by simp only;omega,hN,by simp only;omega,fun e=>by cases e⟩
def ZfA (M:List (ByteArray×Int)) (N:Nat):Prop:=∀ s n,ZB M s=some n→0≤n∧n< (N:Int)
def ZgY (f:Fr):Prop:=∀ h∈f.hyps++f.dummies,1≤h.text.length∧h.text.length≤2000
def okJ (N t:Nat) (x:Itm):Prop:=okI N t x∧(x.kind=1→1≤x.text.length∧x.text.length≤2000)
theorem Zjj {f:Fr} {M:List (ByteArray×Int)} {N:Nat} (hM:ZfA M N) (hf:ZgY f) (t:Nat) (s:ByteArray):okJ N t (ZY f M s)∧(ZY f M s).tagged=false:=by
 unfold ZY
 split
 · exact⟨⟨⟨by simp,by simp,by simp,by simp⟩,by simp⟩,rfl⟩
 split
 · rename_i h hh
   have:=hf h (List.mem_of_find?_eq_some hh)
   exact⟨⟨⟨by simp,by simp,by simp,by simp⟩,fun _=>this⟩,rfl⟩
 split
 · rename_i n hn
   have:=hM s n hn
   exact⟨⟨⟨by simp,by simp,fun _=>this,by simp⟩,by simp⟩,rfl⟩
 · exact⟨⟨⟨by simp,by simp,by simp,by simp⟩,by simp⟩,rfl⟩
theorem Ztk {f:Fr} {M:List (ByteArray×Int)} {N t:Nat} (hM:ZfA M N) (hf:ZgY f) {labels:List ByteArray} {l:Lt} (hl:0≤l.number) {x:Itm} (h:QG f M labels t l=some x):okJ N t x∧x.tagged=l.tagged:=by
 unfold QG at h
 split at h
 · cases h;exact⟨⟨⟨by simp,by simp,by simp,by simp⟩,by simp⟩,rfl⟩
 split at h
 · cases h
   have:=hf (ge f.hyps (l.number-1).toNat) (List.mem_append_left _ (ZF (by omega)))
   exact⟨⟨⟨by simp,by simp,by simp,by simp⟩,fun _=>this⟩,rfl⟩
 split at h
 · cases h
   obtain⟨h1,_⟩:=Zjj hM hf t (ge labels (l.number-1-f.hyps.length).toNat)
   exact⟨⟨⟨h1.1.1,h1.1.2.1,h1.1.2.2.1,h1.1.2.2.2⟩,h1.2⟩,rfl⟩
 split at h
 · cases h
   exact⟨⟨⟨by simp,by simp,by simp,fun _=>by simp only;omega⟩,by simp⟩,rfl⟩
 · cases h
theorem Zkg (x:Itm) (xs:List Itm) (k:Nat):Zbt (x::xs) (k+1)=(if x.tagged=true then 1 else 0)+Zbt xs k:=by
 unfold Zbt
 rw[List.take_succ_cons,List.filter_cons]
 split<;>simp[Nat.add_comm]
theorem Zjr {f:Fr} {M:List (ByteArray×Int)} {N:Nat} (hM:ZfA M N) (hf:ZgY f) {labels:List ByteArray}:∀ {ls:List Lt} {t:Nat} {xs:List Itm},(∀ l∈ls,0≤l.number)→Yd f M labels ls t=some xs→∀ k,k<xs.length→okJ N (t+Zbt xs k) (ge xs k)
 | [],t,xs,_,h,k,hk=>by
  simp only[Yd,Option.some.injEq]at h
  subst h
  simp at hk
 | l::r,t,xs,hl,h,k,hk=>by
  unfold Yd at h
  split at h
  · cases h
  rename_i x hx
  split at h
  · cases h
  rename_i ys hys
  cases h
  obtain⟨h1,h2⟩:=Ztk hM hf (hl l (by simp)) hx
  cases k with
  | zero=>exact h1
  | succ k=>
   have h3:=Zjr hM hf (fun l hl'=>hl l (by simp[hl'])) hys k (by simpa using hk)
   rw[ge_s,Zkg,h2]
   split
   · rename_i ht
     rw[if_pos ht]at h3
     rw[←Nat.add_assoc]
     exact h3
   · rename_i ht
     rw[if_neg ht]at h3
     rw[Nat.zero_add]
     exact h3
theorem ZbC:∀(m:Nat) (bs:List UInt8) (n:Int) (ins:Bool),bs.length≤m→0≤n→∀ l∈(lettersD bs n ins).1,0≤l.number:=by
 intro m
 induction m with
 | zero=>
  intro bs n ins hm _ l hl
  have:bs=[]:=List.length_eq_zero_iff.1 (by omega)
  subst this
  simp[lettersD]at hl
 | succ m ih=>
  intro bs n ins hm hn l hl
  cases bs with
  | nil=>simp[lettersD]at hl
  | cons b r=>
   simp only[List.length_cons]at hm
   rw[QV]at hl
   split at hl
   · split at hl
     · simp at hl
     · rename_i hb _
       simp only[Bool.and_eq_true,decide_eq_true_eq]at hb
       exact ih r _ _ (by omega) (by omega) l hl
   split at hl
   · rename_i hb
     simp only[Bool.and_eq_true,decide_eq_true_eq]at hb
     split at hl
     · simp at hl
     · split at hl
       · simp only[List.mem_singleton]at hl
         subst hl
         simp only
         omega
       · rename_i c r'
         simp only[List.length_cons]at hm
         split at hl
         · rcases List.mem_cons.1 hl with rfl | hl
           · simp only;omega
           · exact ih r' _ _ (by omega) (by omega) l hl
         · rcases List.mem_cons.1 hl with rfl | hl
           · simp only;omega
           · exact ih (c::r') _ _ (by simp only[List.length_cons];omega) (by omega) l hl
   split at hl
   · rcases List.mem_cons.1 hl with rfl | hl
     · simp
     · exact ih r _ _ (by omega) hn l hl
   · simp at hl
theorem ZsC {fs:List Fr} {f:Fr} {M:List (ByteArray×Int)} {proof:List ByteArray} {xs:List Itm} (hM:ZfA M fs.length) (hf:ZgY f) (h:YF f M proof= .ok xs):Ztb fs xs:=by
 unfold YF at h
 split at h
 · split at h
   · cases h
   · rename_i hl
     injection h with h
     subst h
     refine⟨by simp;omega,fun k hk=>?_⟩
     have hk':k<proof.length:=by simpa using hk
     have he:ge (proof.map (ZY f M)) k=ZY f M (ge proof k):=by rw[Xc hk,Xc hk',List.getElem_map]
     rw[he]
     exact(Zjj hM hf _ _).1
 split at h
 · cases h
 rename_i labels text _
 split at h
 · cases h
 split at h
 · cases h
 rename_i ys hys
 split at h
 · cases h
 split at h
 · cases h
 · rename_i hl
   injection h with h
   subst h
   refine⟨by omega,fun k hk=>?_⟩
   have:=Zjr hM hf (ZbC _ _ 0 false (Nat.le_refl _) (Int.le_refl _)) hys k hk
   rw[Nat.zero_add]at this
   exact this
theorem ZlI {fs:List Fr} {f:Fr} {r:Except Int (List Itm)} (h:∀ xs,r= .ok xs→Ztb fs xs):Ztb fs (X6 f r).1∧Zow (X6 f r).1 (X6 f r).2:=by
 cases r with
 | error c=>exact⟨⟨by simp[X6],fun k hk=>by simp[X6]at hk⟩,⟨by simp[X6],by simp[X6],by simp[X6],by simp[X6,Zbt],by simp[X6],by simp[X6]⟩⟩
 | ok xs=>
  refine⟨h xs rfl,?_⟩
  unfold X6 Zcq
  simp only
  split
  · rename_i hlt
    exact⟨by simp,by simp,by simp,by simp[Zbt],by simp,fun _=>hlt⟩
  · exact⟨by simp,by simp,by simp,by simp[Zbt],by simp,fun e=>by cases e⟩
section
variable {fs:List Fr} {vars:List ByteArray} {f:Fr} {xs:List Itm} {m:Ms}
theorem Zrb (h:m.kn=true):(ZS fs vars f xs m).v=m.v∧(ZS fs vars f xs m).kn=true:=by
 obtain⟨sk,tg,n,kn,v,did⟩:=m
 simp only at h
 subst h
 rw[Zc8 rfl]
 exact⟨rfl,rfl⟩
theorem Zrh:∀(j:Nat) (m:Ms),m.kn=true→(Zga fs vars f xs j m).v=m.v
 | 0,_,_=>rfl
 | j+1,m,h=>by
  show(Zga fs vars f xs j (ZS fs vars f xs m)).v=m.v
  rw[Zrh j _ (Zrb h).2,(Zrb h).1]
theorem ZeG (h:Zow xs m):((ZS fs vars f xs m).did=false∧(ZS fs vars f xs m).kn=true∧(m.kn=true→(ZS fs vars f xs m).v=m.v))∨((ZS fs vars f xs m).did=true∧(ZS fs vars f xs m).n=m.n+1∧m.n<xs.length∧m.kn=false):=by
 obtain⟨sk,tg,n,kn,v,did⟩:=m
 cases hk:kn with
 | true=>rw[Zc8 rfl];exact .inl ⟨rfl,rfl,fun _=>rfl⟩
 | false=>
  have hn:=h.kn hk
  simp only at hn
  cases hd:Y4 fs vars f sk tg (ge xs n)with
  | error c=>rw[Zdy rfl hd];exact .inl ⟨rfl,rfl,fun e=>by cases e⟩
  | ok s=>
   rw[Zc7 rfl hd]
   generalize (if(ge xs n).tagged=true then tg++[ge s ((s.length:Int)-1).toNat]else tg)=tg'
   unfold Zcq
   split
   · exact .inr ⟨rfl,rfl,hn,rfl⟩
   · exact .inr ⟨rfl,rfl,hn,rfl⟩
theorem ZoV (h:Zow xs m) (hd:(ZS fs vars f xs m).did=false):(Zga fs vars f xs (xs.length+1-m.n) m).v=(ZS fs vars f xs m).v:=by
 have hn:=h.n
 obtain⟨j,hj⟩:∃ j,xs.length+1-m.n=j+1:=⟨xs.length-m.n,by omega⟩
 rw[hj]
 show(Zga fs vars f xs j (ZS fs vars f xs m)).v=_
 rcases ZeG (fs:=fs) (vars:=vars) (f:=f) h with h2 | h2
 · exact Zrh j _ h2.2.1
 · rw[h2.1]at hd;cases hd
theorem ZoU (h:Zow xs m) (hd:(ZS fs vars f xs m).did=true):(Zga fs vars f xs (xs.length+1-m.n) m).v=(Zga fs vars f xs (xs.length+1-(ZS fs vars f xs m).n) (ZS fs vars f xs m)).v∧(ZS fs vars f xs m).n=m.n+1∧m.n<xs.length:=by
 rcases ZeG (fs:=fs) (vars:=vars) (f:=f) h with h2 | h2
 · rw[h2.1]at hd;cases hd
 · refine⟨?_,h2.2.1,h2.2.2.1⟩
   rw[h2.2.1]
   obtain⟨j,hj⟩:∃ j,xs.length+1-m.n=j+1:=⟨xs.length-m.n,by omega⟩
   rw[hj,show xs.length+1-(m.n+1)=j by omega]
   rfl
theorem Zsp {r:Except Int (List Itm)}:(X6 f r).2.n=0:=by
 cases r with
 | error c=>rfl
 | ok xs=>unfold X6 Zcq;simp only;split<;>rfl
end
def Zaa (d:Db) (n:Nat) (t:List ByteArray):List Itm:=(X6 (ge d.frames n) (YF (ge d.frames n) (Zaj (d.frames.take n)) t)).1
def ZaH (d:Db) (n:Nat) (t:List ByteArray):Ms:=(X6 (ge d.frames n) (YF (ge d.frames n) (Zaj (d.frames.take n)) t)).2
theorem verV {d:Db} {n:Nat} {t:List ByteArray}:Zeo d.frames d.vars (ge d.frames n) (Zaj (d.frames.take n)) t=(Zga d.frames d.vars (ge d.frames n) (Zaa d n t) ((Zaa d n t).length+1) (ZaH d n t)).v:=rfl
theorem startV {d:Db} {n:Nat} {t:List ByteArray} (hM:ZfA (Zaj (d.frames.take n)) d.frames.length) (hf:ZgY (ge d.frames n)):Ztb d.frames (Zaa d n t)∧Zow (Zaa d n t) (ZaH d n t):=ZlI fun _ h=>ZsC hM hf h
section
variable {fs:List Fr} {vars:List ByteArray} {f:Fr} {xs:List Itm} {m:Ms}
theorem ZiK:ZS fs vars f xs ⟨m.sk,m.tg,m.n,m.kn,(m.v.1,m.v.2),false⟩=ZS fs vars f xs m:=rfl
theorem inv_i (h0:Ztb fs xs) (h:Zow xs m) (e:m.kn=false):m.n<xs.length∧okI fs.length m.tg.length (ge xs m.n):=⟨h.kn e,by rw[h.tgn];exact(h0.2 _ (h.kn e)).1⟩
theorem Zto (h0:Ztb fs xs) (h:Zow xs m):m.sk.length≤2000∧m.tg.length≤2000∧m.n≤2000:=by
 have h1:=h.skn
 have h2:=h.n
 have h3:=h.tgn
 have h4:=ZoO xs m.n
 have h5:=h0.1
 omega
end
theorem Zca {fs:List Fr} {k:Nat} (h:k<fs.length):Zaj (fs.take (k+1))=QT (Zaj (fs.take k)) (ge fs k).label ((k:Nat):Int):=by
 unfold Zaj
 rw[ZO h,List.zipIdx_append,List.foldl_append]
 simp[List.length_take,Nat.min_eq_left (Nat.le_of_lt h)]
theorem ZgH {fs:List Fr}:∀ k,k≤fs.length→ZfA (Zaj (fs.take k)) k
 | 0,_=>fun s n h=>by simp[Zaj,X0]at h
 | k+1,hk=>fun s n h=>by
  rw[Zca (by omega),ZaX]at h
  split at h
  · injection h with h;omega
  · have:=ZgH k (by omega) s n h;omega
theorem ZkM {M:List (ByteArray×Int)} {a b:Nat} (h:ZfA M a) (hab:a≤b):ZfA M b:=fun s n e=>by have:=h s n e;omega
section
variable {d:Db}
theorem chk_fr (h:Qf d=0):∀ k,k<d.frames.length→frE d k=0:=by
 unfold Qf at h
 split at h
 · cases h
 split at h
 · rename_i h2
   rw[h]at h2
   simp at h2
 · exact Qz h
theorem ZtP (h:Qf d=0):d.frames.length≤400:=by
 unfold Qf at h
 split at h
 · cases h
 rename_i h1
 simp only[Bool.or_eq_true,decide_eq_true_eq,not_or]at h1
 omega
theorem ZtO (h:Qf d=0):Zeq d=0:=by
 unfold Qf at h
 split at h
 · cases h
 split at h
 · rename_i h2
   rw[h]at h2
   simp at h2
 · rename_i h2
   simpa using h2
theorem ZlF (h:Zeq d=0):∀ v∈d.vars,¬ v∈d.consts:=by
 unfold Zeq at h
 split at h
 · rename_i h2
   rw[h]at h2
   simp at h2
 · intro v hv hc
   obtain⟨j,hj,rfl⟩:=XQ hv
   have:=Qz h j hj
   unfold Zle at this
   split at this
   · cases this
   split at this
   · cases this
   · rename_i h3
     simp[hc]at h3
theorem Zp5 {k:Nat} {y:Hy} {bs:List Hy} {dm:Bool} (h:Zp6 d k y bs dm=0):(1≤y.text.length∧y.text.length≤200)∧(y.floating=true→y.text.length=2∧ge y.text 1∈d.vars):=by
 have h1:=Zcc h
 unfold Zp6 at h
 split at h
 · cases h
 split at h
 · cases h
 split at h
 · cases h
 split at h
 · cases h
 rename_i h4
 have h5:y.floating=true→y.text.length=2∧ge y.text 1∈d.vars:=fun hf=>⟨YC h1 hf,by simp[ZgX,hf]at h4;exact h4.2⟩
 refine⟨?_,h5⟩
 cases hf:y.floating with
 | true=>have:=(h5 hf).1;omega
 | false=>simp[Zab,hf]at h1;have:=List.length_pos_iff.2 h1.2.1;omega
theorem Ztw (hs:Zeq d=0) {k:Nat} (h:frE d k=0):okF (ge d.frames k)∧okT (ge d.frames k)∧ZgY (ge d.frames k):=by
 have hz:=ZjC h
 unfold frE Ztv at h
 split at h
 · cases h
 split at h
 · cases h
 split at h
 · cases h
 split at h
 · rename_i h2
   rw[h]at h2
   simp at h2
 rename_i h3
 have h3:ZrC d k=0:=by simpa using h3
 have hy:∀ y∈(ge d.frames k).hyps++(ge d.frames k).dummies,(1≤y.text.length∧y.text.length≤200)∧(y.floating=true→y.text.length=2∧ge y.text 1∈d.vars):=fun y hy=>by
  obtain⟨j,hj,rfl⟩:=XQ hy
  exact Zp5 (Qz h3 j hj)
 split at h
 · cases h
 rename_i h4
 split at h
 · rename_i h2
   rw[h]at h2
   simp at h2
 rename_i h5
 have hc:ge (ge d.frames k).text 0∈d.consts:=by
  have h6:Zbw d (ge d.frames k).text=0:=by simpa using h5
  unfold Zbw Znv at h6
  split at h6
  · rename_i h7
    simp only[Bool.and_eq_true,decide_eq_true_eq]at h7
    exact h7.1
  · cases h6
 have hp:0< (ge d.frames k).text.length:=by
  simp only[Bool.or_eq_true,decide_eq_true_eq,not_or]at h4
  omega
 refine⟨⟨by omega,fun y hy' hf=>((hy y (List.mem_append_left _ hy')).2 hf).1⟩,⟨hp,fun y hy' hf e=>?_⟩,fun y hy'=>⟨(hy y hy').1.1,Nat.le_trans (hy y hy').1.2 (by omega)⟩⟩
 have:=((hy y (List.mem_append_left _ hy')).2 hf).2
 rw[e]at this
 exact ZlF hs _ this hc
theorem ZfH (h:Qf d=0):∀ g∈d.frames,okF g∧okT g∧ZgY g:=fun g hg=>by
 obtain⟨k,hk,rfl⟩:=XQ hg
 exact Ztw (ZtO h) (chk_fr h k hk)
def ZeE (d:Db) (k:Nat):Int×Int:=if(ge d.frames k).thm then Zeo d.frames d.vars (ge d.frames k) (Zaj (d.frames.take k)) (ge d.frames k).proof else(0,0)
def Zct (d:Db) (z:Int):(Int×Int)×Int:=if QZ d z=0 then(ZeE d z.toNat,0)else((0,0),QZ d z)
theorem ZqY {z:Int} (h:QZ d z=0):Qf d=0∧0≤z∧z< (d.frames.length:Int):=by
 unfold QZ at h
 split at h
 · rename_i h2;exact absurd h h2
 split at h
 · cases h
 · rename_i h1 h2
   exact⟨by simpa using h1,by omega,by omega⟩
end
structure Exm where
 proof:List ByteArray
 v:Int×Int
instance instInhExm:Inhabited Exm:=⟨⟨[],(0,0)⟩⟩

def ZdY (gone:List Int) (k:Nat):List Nat:=(List.range k).filter fun q=>!decide ((q:Int)∈gone)
def ZeO (d:Db) (gone:List Int) (k:Nat):List Fr:=(ZdY gone k).map (ge d.frames)
def ZdF (d:Db) (gone:List Int):Db:= { d with frames:=ZeO d gone d.frames.length }
def rnkZ (gone:List Int) (z:Int):Int:=((ZdY gone z.toNat).length:Nat)
section
variable {d:Db} {gone:List Int} {k n:Nat}
theorem ZdX (gone:List Int) (k:Nat):ZdY gone (k+1)=ZdY gone k++(if(k:Int)∈gone then []else [k]):=by
 rw[ZdY,ZdY,List.range_succ,List.filter_append]
 by_cases h:(k:Int)∈gone<;>simp[h]
theorem Zfw (h:(k:Int)∈gone):ZdY gone (k+1)=ZdY gone k:=by rw[ZdX,if_pos h,List.append_nil]
theorem Zcb (h:¬ (k:Int)∈gone):ZdY gone (k+1)=ZdY gone k++[k]:=by rw[ZdX,if_neg h]
theorem Zjp (gone:List Int) (k:Nat):(ZdY gone k).length≤k:=Nat.le_trans (List.length_filter_le _ _) (by simp)
theorem Zb4 (d:Db) (gone:List Int) (k:Nat):(ZeO d gone k).length=(ZdY gone k).length:=List.length_map _
theorem Zfi (h:(k:Int)∈gone):ZeO d gone (k+1)=ZeO d gone k:=by rw[ZeO,Zfw h,ZeO]
theorem Zb2 (h:¬ (k:Int)∈gone):ZeO d gone (k+1)=ZeO d gone k++[ge d.frames k]:=by rw[ZeO,Zcb h,List.map_append];rfl
theorem ZgQ (gone:List Int) (k:Nat):∀ j,(ZdY gone k).length≤(ZdY gone (k+j)).length
 | 0=>Nat.le_refl _
 | j+1=>by
  have:=ZgQ gone k j
  rw[←Nat.add_assoc,ZdX,List.length_append]
  omega
theorem Zfh (d:Db) (gone:List Int) (k:Nat):∀ j,(ZeO d gone (k+j)).take (ZdY gone k).length=ZeO d gone k
 | 0=>by rw[←Zb4 d];exact ZC (Nat.le_refl _)
 | j+1=>by
  rw[←Nat.add_assoc]
  by_cases h:(((k+j:Nat):Nat):Int)∈gone
  · rw[Zfi h,Zfh d gone k j]
  · rw[Zb2 h,List.take_append_of_le_length (by rw[Zb4];exact ZgQ gone k j),Zfh d gone k j]
theorem Zgc (h:k≤n):(ZeO d gone n).take (ZdY gone k).length=ZeO d gone k:=by
 have:=Zfh d gone k (n-k)
 rwa [Nat.add_sub_cancel' h]at this
theorem ge_pre {l m:List Fr} {x:Fr} {p:Nat} (hp:p=m.length) (h:l.take (p+1)=m++[x]):ge l p=x∧p<l.length:=by
 have h1:p<l.length:=by
  have:=congrArg List.length h
  rw[List.length_take,List.length_append,List.length_singleton]at this
  omega
 rw[ZO h1]at h
 have:=(List.append_inj' h rfl).2
 simp only[List.cons.injEq,and_true]at this
 exact⟨this,h1⟩
theorem ZhN (h:k<n) (hk:¬ (k:Int)∈gone):ge (ZeO d gone n) (ZdY gone k).length=ge d.frames k∧(ZdY gone k).length< (ZeO d gone n).length:=by
 have h1:=Zgc (d:=d) (gone:=gone) (Nat.succ_le_of_lt h)
 rw[Zb2 hk]at h1
 rw[show k.succ=k+1 from rfl,Zcb hk,List.length_append,List.length_singleton]at h1
 exact ge_pre (Zb4 d gone k).symm h1
theorem Zb3 {g:Fr} (h:g∈(ZdF d gone).frames):g∈d.frames:=by
 obtain⟨q,hq,rfl⟩:=List.mem_map.1 h
 exact ZF (List.mem_range.1 (List.mem_filter.1 hq).1)
theorem Zm2 (l:List Fr) (x:Fr):Zaj (l++[x])=QT (Zaj l) x.label ((l.length:Nat):Int):=by
 unfold Zaj
 rw[List.zipIdx_append,List.foldl_append]
 simp
theorem ZgG {s:ByteArray}:∀ k,k≤d.frames.length→(∀ j,j<k→(ge d.frames j).label=s→¬ (j:Int)∈gone)→ZB (Zaj (ZeO d gone k)) s=(ZB (Zaj (d.frames.take k)) s).map (rnkZ gone)
 | 0,_,_=>rfl
 | k+1,hk,h=>by
  have ih:=ZgG k (by omega) fun j hj=>h j (by omega)
  rw[Zca (by omega),ZaX]
  by_cases hg:(k:Int)∈gone
  · rw[Zfi hg,if_neg fun e=>h k (by omega) e.symm hg,ih]
  · rw[Zb2 hg,Zm2,ZaX]
    split
    · rw[Zb4];rfl
    · exact ih
theorem Zjk {s:ByteArray} {z:Int}:∀ k,k≤d.frames.length→ZB (Zaj (d.frames.take k)) s=some z→0≤z∧z<k∧(ge d.frames z.toNat).label=s
 | 0,_,h=>by simp[Zaj,X0]at h
 | k+1,hk,h=>by
  rw[Zca (by omega),ZaX]at h
  split at h
  · rename_i e
    injection h with h
    subst h
    exact⟨by omega,by omega,by rw[e];rfl⟩
  · have:=Zjk k (by omega) h
    exact⟨this.1,by omega,this.2.2⟩
end
def ZdT (rk:Int→Int) (x:Itm):Itm:=if x.kind=2 then { x with number:=rk x.number }else x
section
variable {rk:Int→Int} {f:Fr} {M M':List (ByteArray×Int)} {fs fs':List Fr} {vars:List ByteArray} {Q:Int→Prop}
theorem ZgJ (x:Itm):(ZdT rk x).kind=x.kind∧(ZdT rk x).tagged=x.tagged∧(ZdT rk x).text=x.text:=by unfold ZdT;split<;>exact⟨rfl,rfl,rfl⟩
theorem ZpQ {x:Itm} (h:x.kind=2):(ZdT rk x).number=rk x.number:=by rw[ZdT,if_pos h]
theorem Zte {x:Itm} (h:¬ x.kind=2):ZdT rk x=x:=by rw[ZdT,if_neg h]
theorem ZpR (x:Itm) (b:Bool):({ ZdT rk x with tagged:=b }:Itm)=ZdT rk { x with tagged:=b }:=by
 unfold ZdT;split<;>rfl
theorem ZgF {s:ByteArray} (h:ZB M' s=(ZB M s).map rk):ZY f M' s=ZdT rk (ZY f M s):=by
 unfold ZY
 split
 · rfl
 · cases ZcB f s with
   | some x=>rfl
   | none=>simp only[h];cases ZB M s<;>rfl
theorem ZmU {s:ByteArray} (h:∀ z,ZB M s=some z→Q z) (hk:(ZY f M s).kind=2):Q (ZY f M s).number:=by
 unfold ZY at hk ⊢
 split
 · rename_i e;rw[if_pos e]at hk;cases hk
 · rename_i e
   rw[if_neg e]at hk
   cases hh:ZcB f s with
   | some x=>rw[hh]at hk;cases hk
   | none=>
    rw[hh]at hk
    simp only at hk ⊢
    cases hm:ZB M s with
    | some z=>exact h z hm
    | none=>rw[hm]at hk;cases hk
theorem Znj {labels:List ByteArray} {tags:Nat} {l:Lt} (h:∀ s∈labels,ZB M' s=(ZB M s).map rk):QG f M' labels tags l=(QG f M labels tags l).map (ZdT rk):=by
 unfold QG
 split
 · rfl
 split
 · rfl
 split
 · rw[ZgF (h _ (ZF (by omega))),ZpR];rfl
 split<;>rfl
theorem Ztm {labels:List ByteArray} {tags:Nat} {l:Lt} {x:Itm} (h:∀ s∈labels,∀ z,ZB M s=some z→Q z) (hx:QG f M labels tags l=some x) (hk:x.kind=2):Q x.number:=by
 unfold QG at hx
 split at hx
 · injection hx with hx;subst hx;cases hk
 split at hx
 · injection hx with hx;subst hx;cases hk
 split at hx
 · injection hx with hx;subst hx;exact ZmU (h _ (ZF (by omega))) hk
 split at hx
 · injection hx with hx;subst hx;cases hk
 · cases hx
theorem ZeZ {labels:List ByteArray} (h:∀ s∈labels,ZB M' s=(ZB M s).map rk):∀(ls:List Lt) (tags:Nat),Yd f M' labels ls tags=(Yd f M labels ls tags).map (List.map (ZdT rk))
 | [],_=>rfl
 | l::r,tags=>by
  simp only[Yd]
  rw[Znj h]
  cases QG f M labels tags l with
  | none=>rfl
  | some x=>
   simp only[Option.map_some]
   rw[ZeZ h r]
   cases Yd f M labels r (if l.tagged then tags+1 else tags)<;>rfl
theorem Zjs {labels:List ByteArray} (h:∀ s∈labels,∀ z,ZB M s=some z→Q z):∀(ls:List Lt) (tags:Nat) (xs:List Itm),Yd f M labels ls tags=some xs→∀ x∈xs,x.kind=2→Q x.number
 | [],_,xs,hx=>by simp only[Yd]at hx;injection hx with hx;subst hx;intro x hx;cases hx
 | l::r,tags,xs,hx=>by
  simp only[Yd]at hx
  cases hi:QG f M labels tags l with
  | none=>rw[hi]at hx;cases hx
  | some y=>
   rw[hi]at hx
   simp only at hx
   cases hr:Yd f M labels r (if l.tagged then tags+1 else tags)with
   | none=>rw[hr]at hx;cases hx
   | some ys=>
    rw[hr]at hx
    injection hx with hx
    subst hx
    intro x hx hk
    rcases List.mem_cons.1 hx with rfl | hx
    · exact Ztm h hi hk
    · exact Zjs h r _ ys hr x hx hk
theorem Zgn {t labels:List ByteArray} {text:ByteArray} (hc:ZaJ t=true) (h:XZ t=some (labels,text)):labels=Zas t:=by
 simp only[XZ]at h
 split at h
 · cases h
 rename_i hn
 split at h
 · cases h
 injection h with h
 injection h with h _
 have h1:=ZrG hc hn
 have h2:=Xa (p:=isV ⟨#[41]⟩) (xs:=t) (by omega)
 have h3:0<t.length∧ge t 0=⟨#[40]⟩:=by simpa [ZaJ]using hc
 rw[←h]
 refine Zm0 h3 h1.1 (by omega) (fun j _ hj e=>?_) fun _=>?_
 · have:=h2.2.2.2 j hj
   rw[e]at this
   cases this
 · have:=h2.2.2.1
   simpa [isV,eq_comm]using this
theorem ZmZ {t:List ByteArray} (hc:¬ ZaJ t=true):Zas t=t:=(Zbh fun h0 h1=>hc (by simp[ZaJ,h0,h1])).symm
theorem Zl7 {t:List ByteArray} (h:∀ s∈Zas t,ZB M' s=(ZB M s).map rk):YF f M' t=(YF f M t).map (List.map (ZdT rk)):=by
 unfold YF
 by_cases hc:ZaJ t=true
 · rw[if_neg (by simp[hc]),if_neg (by simp[hc])]
   cases hp:XZ t with
   | none=>rfl
   | some p=>
    obtain⟨labels,text⟩:=p
    have hl:=Zgn hc hp
    simp only
    rw[ZeZ (by rw[hl];exact h)]
    split
    · rfl
    cases Yd f M labels (YB text).1 0 with
    | none=>rfl
    | some xs=>
     simp only[Option.map_some]
     split
     · rfl
     rw[List.length_map]
     split<;>rfl
 · have hb:(!ZaJ t)=true:=by simpa using hc
   rw[if_pos hb,if_pos hb]
   split
   · rfl
   · rw[ZmZ hc]at h
     show Except.ok _=Except.ok _
     rw[List.map_map]
     exact congrArg _ (List.map_congr_left fun s hs=>ZgF (h s hs))
theorem ZsF {t:List ByteArray} {xs:List Itm} (h:∀ s∈Zas t,∀ z,ZB M s=some z→Q z) (hx:YF f M t= .ok xs):∀ x∈xs,x.kind=2→Q x.number:=by
 unfold YF at hx
 by_cases hc:ZaJ t=true
 · rw[if_neg (by simp[hc])]at hx
   cases hp:XZ t with
   | none=>rw[hp]at hx;cases hx
   | some p=>
    obtain⟨labels,text⟩:=p
    have hl:=Zgn hc hp
    rw[hp]at hx
    simp only at hx
    split at hx
    · cases hx
    cases hi:Yd f M labels (YB text).1 0 with
    | none=>rw[hi]at hx;cases hx
    | some ys=>
     rw[hi]at hx
     simp only at hx
     split at hx
     · cases hx
     split at hx
     · cases hx
     injection hx with hx
     subst hx
     exact Zjs (by rw[hl];exact h) _ _ _ hi
 · rw[if_pos (by simpa using hc)]at hx
   split at hx
   · cases hx
   injection hx with hx
   subst hx
   rw[ZmZ hc]at h
   intro x hx hk
   obtain⟨s,hs,rfl⟩:=List.mem_map.1 hx
   exact ZmU (h s hs) hk
theorem Ztt (xs:List Itm) (k:Nat):ge (xs.map (ZdT rk)) k=ZdT rk (ge xs k):=by
 simp only[ge,List.getD_eq_getElem?_getD,List.getElem?_map]
 cases xs[k]?<;>rfl
theorem ZpZ {sk tg:List (List ByteArray)} {x:Itm} (h:x.kind=2→ge fs' (rk x.number).toNat=ge fs x.number.toNat):Y4 fs' vars f sk tg (ZdT rk x)=Y4 fs vars f sk tg x:=by
 by_cases h2:x.kind=2
 · unfold Y4
   rw[(ZgJ x).1,ZpQ h2,h h2,if_neg (by omega),if_pos h2,if_neg (by omega),if_pos h2]
 · rw[Zte h2]
   unfold Y4
   rw[if_neg h2,if_neg h2]
theorem ZoP {xs:List Itm} (h:∀ k,(ge xs k).kind=2→ge fs' (rk (ge xs k).number).toNat=ge fs (ge xs k).number.toNat) (m:Ms):ZS fs' vars f (xs.map (ZdT rk)) m=ZS fs vars f xs m:=by
 unfold ZS
 rw[Ztt,ZpZ (h m.n),List.length_map,(ZgJ (ge xs m.n)).2.1]
theorem ZlY {xs:List Itm} (h:∀ k,(ge xs k).kind=2→ge fs' (rk (ge xs k).number).toNat=ge fs (ge xs k).number.toNat):∀(j:Nat) (m:Ms),Zga fs' vars f (xs.map (ZdT rk)) j m=Zga fs vars f xs j m
 | 0,_=>rfl
 | j+1,m=>by
  show Zga fs' vars f _ j (ZS fs' vars f _ m)=Zga fs vars f xs j (ZS fs vars f xs m)
  rw[ZoP h m,ZlY h j]
theorem Zr7 {t:List ByteArray} (h1:∀ s∈Zas t,ZB M' s=(ZB M s).map rk) (h2:∀ s∈Zas t,∀ z,ZB M s=some z→ge fs' (rk z).toNat=ge fs z.toNat):Zeo fs' vars f M' t=Zeo fs vars f M t:=by
 unfold Zeo
 rw[Zl7 h1]
 cases hr:YF f M t with
 | error c=>rfl
 | ok xs=>
  have hq:=ZsF (Q:=fun z=>ge fs' (rk z).toNat=ge fs z.toNat) h2 hr
  have hk:∀ k,(ge xs k).kind=2→ge fs' (rk (ge xs k).number).toNat=ge fs (ge xs k).number.toNat:=fun k hk=>by
   by_cases hlt:k<xs.length
   · exact hq _ (ZF hlt) hk
   · rw[show ge xs k=default from by simp[ge,List.getD_eq_getElem?_getD,List.getElem?_eq_none (Nat.le_of_not_lt hlt)]]at hk
     cases hk
  show(Zga fs' vars f (xs.map (ZdT rk)) ((xs.map (ZdT rk)).length+1) (Zcq f (xs.map (ZdT rk)).length _)).v=(Zga fs vars f xs (xs.length+1) (Zcq f xs.length _)).v
  rw[List.length_map,ZlY hk]
end
section
variable {d:Db} {gone:List Int} {k:Nat} {l:List ByteArray}
theorem ZoK (hk:k<d.frames.length) (hg:¬ (k:Int)∈gone) (hc:(ge d.frames k).thm=true→∀ s∈Zas (ge d.frames k).proof,∀ j,j<k→(ge d.frames j).label=s→¬ (j:Int)∈gone):ZeE (ZdF d gone) (ZdY gone k).length=ZeE d k:=by
 have h1:=ZhN (d:=d) hk hg
 unfold ZeE
 rw[show(ZdF d gone).frames=ZeO d gone d.frames.length from rfl,h1.1,Zgc (Nat.le_of_lt hk)]
 split
 · rename_i ht
   refine Zr7 (rk:=rnkZ gone) (fun s hs=>ZgG k (Nat.le_of_lt hk) fun j hj e=>hc ht s hs j hj e) fun s hs z hz=>?_
   have h2:=Zjk k (Nat.le_of_lt hk) hz
   have h3:=hc ht s hs z.toNat (by omega) h2.2.2
   exact(ZhN (d:=d) (n:=d.frames.length) (k:=z.toNat) (by omega) h3).1
 · rfl
theorem ZlD (hk:k<d.frames.length) (h0:Qf d=0) (h1:Qf (ZdF d gone)=0) (hg:¬ (k:Int)∈gone) (hc:(ge d.frames k).thm=true→∀ s∈Zas (ge d.frames k).proof,∀ j,j<k→(ge d.frames j).label=s→¬ (j:Int)∈gone):Zct (ZdF d gone) (((ZdY gone k).length:Nat):Int)=Zct d ((k:Nat):Int)∧(Zct d ((k:Nat):Int)).2=0:=by
 have h2:=(ZhN (d:=d) hk hg).2
 have a1:QZ (ZdF d gone) (((ZdY gone k).length:Nat):Int)=0:=by
  unfold QZ
  rw[if_neg (by simp[h1]),if_neg (by show ¬ (_∨(((ZeO d gone d.frames.length).length:Nat):Int)≤_);omega)]
 have a2:QZ d ((k:Nat):Int)=0:=by
  unfold QZ
  rw[if_neg (by simp[h0]),if_neg (by omega)]
 unfold Zct
 rw[if_pos a1,if_pos a2]
 exact⟨by rw[Int.toNat_natCast,Int.toNat_natCast,ZoK hk hg hc],rfl⟩
theorem unuM_mem {m:Nat}:(k:Int)∈ZaK d l m↔k<m∧¬ ZaE d l (k:Int):=by
 unfold ZaK
 constructor
 · intro h
   obtain⟨q,hq,e⟩:=List.mem_map.1 h
   obtain rfl:q=k:=by omega
   simpa using hq
 · intro h
   exact List.mem_map.2 ⟨k,by simpa using h,rfl⟩
theorem Zkb (hk:k<d.frames.length) (hg:¬ (k:Int)∈ZaK d l d.frames.length) (ht:(ge d.frames k).thm=true):∀ s∈Zas (ge d.frames k).proof,∀ j,j<k→(ge d.frames j).label=s→¬ (j:Int)∈ZaK d l d.frames.length:=by
 intro s hs j hj e hn
 refine hg (unuM_mem.2 ⟨hk,fun⟨t,h1,h2⟩=>?_⟩)
 refine(unuM_mem.1 hn).2 ⟨t,h1,h2.trans (Rch.one ?_)⟩
 rw[Int.toNat_natCast,Zq3 hk,Zhu,if_pos ht]
 exact List.mem_map.2 ⟨j,by simpa using⟨hj,by rw[e];exact hs⟩,rfl⟩
theorem ZsA (hk:k<d.frames.length) (h0:Qf d=0) (h1:Qf (ZdF d (ZaK d l d.frames.length))=0) (hg:¬ (k:Int)∈ZaK d l d.frames.length):
 Zct (ZdF d (ZaK d l d.frames.length)) (((ZdY (ZaK d l d.frames.length) k).length:Nat):Int)=Zct d ((k:Nat):Int)∧(Zct d ((k:Nat):Int)).2=0:=ZlD hk h0 h1 hg (Zkb hk hg)
def Zc2 (d:Db) (us:List UInt8) (k:Nat):List ByteArray:=(List.range k).map fun j=>(ge d.frames ((((ge us j).toNat:Nat):Int)% ((d.frames.length:Nat):Int)).toNat).label
theorem Zl1 (d:Db) (us:List UInt8) (k:Nat):Zc2 d us (k+1)=Zc2 d us k++[(ge d.frames ((((ge us k).toNat:Nat):Int)% ((d.frames.length:Nat):Int)).toNat).label]:=by
 rw[Zc2,List.range_succ,List.map_append];rfl
theorem ZoY (d:Db) (us:List UInt8) (k:Nat):(Zc2 d us k).length=k:=by simp[Zc2]
theorem Zqd (hk:k<d.frames.length):¬ ZaI d (ge d.frames k).label<0:=by
 unfold ZaI
 split
 · omega
 · rename_i h
   have h2:=List.findIdx?_eq_none_iff.1 h _ (ZF hk)
   simp at h2
theorem Zsz {us:List UInt8} (h0:Qf d=0) (hn:0<d.frames.length) (m:Nat):Zhq d (Zc2 d us m)=0:=by
 unfold Zhq
 rw[if_pos h0,if_neg]
 rw[Bool.not_eq_true]
 refine List.any_eq_false.2 fun s hs=>?_
 obtain⟨j,_,rfl⟩:=List.mem_map.1 hs
 have:=Zqd (d:=d) (k:=((((ge us j).toNat:Nat):Int)% ((d.frames.length:Nat):Int)).toNat) (by have h1:=Int.emod_nonneg (((ge us j).toNat:Nat):Int) (show((d.frames.length:Nat):Int)≠0 by omega);have h2:=Int.emod_lt_of_pos (((ge us j).toNat:Nat):Int) (show(0:Int)< ((d.frames.length:Nat):Int) by omega);omega)
 simpa using this
theorem ZlG:∀ {l:List ByteArray},(∀ s∈l,s.size≤1048576)→ZcZ l≤l.length*1048576
 | [],_=>by simp[ZcZ]
 | x::r,h=>by
  have h1:=h x (by simp)
  have h2:=ZlG (l:=r) fun s hs=>h s (List.mem_cons_of_mem _ hs)
  simp only[ZcZ,List.map_cons,List.sum_cons,List.length_cons]at h2 ⊢
  omega
theorem few_pl (h:Zb1 d=true) (hs:∀ g∈d.frames,∀ s∈g.proof,s.size≤1048576):∀ g∈d.frames,g.proof.length≤100000∧ZcZ g.proof≤1000000000:=fun g hg=>by
 have h1:g.proof.length≤200:=by
  simp only[Zb1,ZtF,Bool.and_eq_true,Bool.not_eq_true',List.any_eq_false,decide_eq_true_eq]at h
  have:=h.1.2 g hg
  omega
 have h2:=ZlG (hs g hg)
 exact⟨by omega,by omega⟩
end
end Go.Proofs.YtapelgeodldlcaaGreatDoor
