/-
  THE ENGINE: a store into a part of an element of an own row; texts one behind the other.
  THE REFERENCE's RUN AND THE PROGRAM's (plain).
  THE ENGINE: rows of structs from given parts; a struct of a row and a verdict; verdicts compared.
  CONTRACTS of the reference: steps of a proof.
  PROOFS AS GRAPHS (plain): sizes, the flat form, step by step.
  THE ENGINE: the lesser of two whole numbers.
  CONTRACTS of the program: the form of a graph, its flat form, its labels.
  PROOFS AS GRAPHS (plain): the formulas of steps, their lengths; the numbers of frames.
  CONTRACTS of the program: the formulas of a graph.
  CONTRACTS of the program: Texts.
  CONTRACTS of the program: Texts.
  THE ENGINE: closures of an iterator's own that call themselves, and yield.
  THE WALK IN POSTORDER (plain): what is marked as done, visit by visit.
  CONTRACTS of the program: the walk in postorder.
  CONTRACTS of the program: postorder.
  MINIMIZE (plain): what is needed, changes, candidates, the search; behind it no step has a good change.
  MINIMIZE (plain): what a pattern begins with under a binding; what an assertion gives; the candidates, in order.
  MINIMIZE (plain): the candidates by recursion, the changes of a step, the search.
  MINIMIZE (plain): the words of formulas are symbols of the database, so they and the keys are short.
  MINIMIZE (plain): a binding's substitutions in the order of their variables are one list alone; what is bound by them.
  MINIMIZE (plain): a row from behind, what its rounds do; the inner loops of what is needed and of what is kept.
  MINIMIZE (plain): the chapter's example.
  MINIMIZE (plain): keys tell formulas apart.
  MINIMIZE (plain): the first steps, by their formulas.
  MINIMIZE (plain): what is needed is what the walk in postorder meets.
  MINIMIZE (plain): of what is pruned, all is needed.
  MINIMIZE (plain): what the program takes an assertion to give is what a step gives.
  MINIMIZE (plain): the variables of a frame's floating hypotheses differ; a label is one assertion's alone.
  MINIMIZE (plain): what each change that is made fulfils.
  MINIMIZE (plain): what the search makes, Check takes.
  MINIMIZE (plain): sizes fall, from change to change.
  MINIMIZE (plain): small laws for the walk: what is needed, counted, kept.
-/
import Derived.Test.YtdfadihhfppjaaaGreatDoorQZ
import Derived.Laws.Concat
namespace Go.Proofs.YtdfadihhfppjaaaGreatDoor
open Go.RowKit
section
variable {n:Rn} {N:Nat} {P:Program} {J X:WP} {S S' S'':Nat→Prop} {O:List OB} {w0:World} {env:List (Nat×AV)} {Q:Exit→Act→WP}
variable {o:Oper} {a:Act} {w:World} {x y:Operand} {t e:TypeId} {v:Value} {k:Nat} {rows:List (List CD)}
theorem Zi4 {c:CD} {r:List CD} {i j:Nat} (hJ:Stab J) (hJ0:J w0) (hs:Xf P t 1) (hop:o.op= .store t x y) (hk0:Keeps All w0 w) (hx:XO J S w0.heap.size (OB.row v e k rows::O) w) (h1:Rel S' w (.lit (YG v (i*k+j))) (a.eval x))
 (h2:Rel (SO S (OB.row v e k rows::O)) w (.rd c) (a.eval y)) (hrow:rows[i]?=some r) (hj:j<r.length):
 Does n P o a w fun _ w'=>Zag J S w0 (OB.row v e k rows::O) w (OB.row v e k (rows.set i (r.set j c))::O) w':=by
 have hl:i<rows.length:=(List.getElem?_eq_some_iff.1 hrow).1
 obtain⟨g,cap,old,cur,rfl,hlo,hg,hnc,hcm,hcs,htake,hul,hrd,hlen⟩:=Za7 (hx.2.1 (OB.row v e k rows) yz) oz
 simp only[Rel]at h2
 have hv:(a.eval y).cells.toList=[a.eval y]:=by rw[ZaZ h2.one]
 have hge:rows[i]=r:=(List.getElem?_eq_some_iff.1 hrow).2
 have hrk:r.length=k:=hlen r (hge▸List.getElem_mem hl)
 have hik:i*k+j+1≤rows.length*k:=by
  have:=Nat.mul_le_mul_right k hl
  rw[Nat.succ_mul]at this
  omega
 have hset:(rows.set i (r.set j c)).flatten=rows.flatten.take (i*k+j)++[c]++rows.flatten.drop (i*k+j+1):=by
  have hd:rows.flatten.drop (i*k)=r++rows.flatten.drop (i*k+k):=by
   rw[QB rows i hlen,List.drop_eq_getElem_cons hl,hge,List.flatten_cons,show i*k+k=(i+1)*k by rw[Nat.add_mul];omega,QB rows (i+1) hlen]
  have hd2:rows.flatten.drop (i*k+j+1)=r.drop (j+1)++rows.flatten.drop (i*k+k):=by
   rw[show i*k+j+1=i*k+(j+1) by omega,←List.drop_drop,hd,List.drop_append_of_le_length oz]
  have hd3:rows.flatten.take (i*k+j)=rows.flatten.take (i*k)++r.take j:=by
   rw[List.take_add,hd,List.take_append_of_le_length oz]
  rw[Zhc rows i (r.set j c) hlen hl,hd3,hd2,List.set_eq_take_append_cons_drop,if_pos hj]
  simp
 have hlen':∀ q∈rows.set i (r.set j c),q.length=k:=fun q hq=>by
  rcases List.mem_or_eq_of_mem_set hq with h | rfl
  · exact hlen q h
  · rw[List.length_set];exact hrk
 generalize hp:i*k+j=p at*
 have hrc:rows.length*k≤cap*k:=Nat.mul_le_mul_right k hnc
 have hr:RdL (SO S (OB.row (.slice (some ⟨g,0,none⟩) rows.length cap) e k rows::O)) w [c] [a.eval y]:=⟨h2,trivial⟩
 have hrun:=QY (P:=P) (ty:=t) (o:=p) (cur:=cur.toList) (t:=e) hv (by simpa using hs) (by simpa using hg) (by simp;omega) hr.one
 have hlt:g<w.heap.size:=(Array.getElem?_eq_some_iff.1 hg).1
 have hk:Keeps (fun b=>¬ (OB.row (.slice (some ⟨g,0,none⟩) rows.length cap) e k rows).blk b) w (w.setRow g (cur.toList.take p++[a.eval y]++cur.toList.drop (p+ [a.eval y].length)).toArray):=
  (Zat (g:=g)).sub fun b _ hb e=>hb (by simp[OB.row,Value.ownBlock,e])
 have hsub:∀ b,b<w.heap.size→SO S (OB.row (.slice (some ⟨g,0,none⟩) rows.length cap) e k rows::O) b→(¬ (OB.row (.slice (some ⟨g,0,none⟩) rows.length cap) e k rows).blk b)∧SO S (OB.row (.slice (some ⟨g,0,none⟩) rows.length cap) e k (rows.set i (r.set j c))::O) b:=fun b _ hs=>⟨hs.2 (OB.row (.slice (some ⟨g,0,none⟩) rows.length cap) e k rows) yz,hs.1,fun p hp=>by
  rcases List.mem_cons.1 hp with rfl | hp
  · exact hs.2 (OB.row (.slice (some ⟨g,0,none⟩) rows.length cap) e k rows) yz
  · exact hs.2 p (List.mem_cons_of_mem _ hp)⟩
 refine ZbG (w':=w.setRow g (cur.toList.take p++[a.eval y]++cur.toList.drop (p+ [a.eval y].length)).toArray) ?_ (Zaj hJ hJ0 hk0 hx hk (fun b hb=>.inl hb) ⟨old.take p++[a.eval y]++old.drop (p+1),⟨?_,.inr ⟨g,cap,_,?_,hlo,setRow_heap w g _ _ e _ hg,?_,hcm,?_,?_⟩⟩,?_,hlen'⟩)
 · have hv':=h1.lit
   simp only[YG]at hv'
   rw[execOp,hop]
   simp only[hv',Sem.run_bind,hrun]
   rfl
 · simp;omega
 · simp
 · simpa using hnc
 · simp;omega
 · simp only[List.length_set]
   rw[←htake]
   exact Zk3 cur.toList p (rows.length*k) [a.eval y] (by simpa using hik) (by simp;omega)
 · rw[hset]
   exact(((hrd.take p).move hk hsub).append (hr.move hk hsub)).append ((hrd.drop (p+1)).move hk hsub)
end
theorem r_addS {n:Rn} {P:Program} {X:WP} {S:Nat→Prop} {o:Oper} {a:Act} {w:World} {x y:Operand} {t u:TypeId} {i j:BA} (hop:o.op= .binOp .add t x y u) (h1:Rel S w (.str i) (a.eval x)) (h2:Rel S w (.str j) (a.eval y)) (hl:i.size+j.size≤9223372036854775807) (hx:X w):Does n P o a w (YC S X (.str (i++j)) w):=
 Zb0 (v:=.string (i++j)) (show(i++j).size≤maxLen by rw[ByteArray.size_append];exact hl) (ZaT ..) (by simp only[binOp];exact run_string_add_sum w i j hl) hop h1 h2 hx
end Go.Proofs.YtdfadihhfppjaaaGreatDoor
namespace Go.Proofs.YtdfadihhfppjaaaGreatDoor
section
variable {d:Db} {i:Nat} {t:List BA}
section
variable {f:Fr}
variable (h0:ZqA t=true)
include h0
variable (h2:¬ (letE t).2.2=20)
include h2
variable (h3:(f.hyps.any fun h=>decide (h.label∈cutL t))=false)
include h3
variable (h4:¬ (letE t).2.2=21)
include h4
end
end
section
variable {d:Db} {i:Nat} {r:Ri} {x:Itm} {gv sk tg:List (List BA)} {tgs:List Int}
end
section
variable {fs:List Fr} {vars:List BA} {f:Fr} {xs:List Itm}
structure Rs where
 sk:List (List BA)
 n:Nat
 kn:Bool
 v:Int×Int
instance instInhRs:Inhabited Rs:=⟨⟨[],0,false,(0,0)⟩⟩
def rsOf (m:Ms):Rs:=⟨m.sk,m.n,m.kn,m.v⟩
end
structure RunI (d:Db) (i:Nat) (t:List BA) (n:Nat) (sk gv:List (List BA)):Prop where
 le:n≤(ZpS d i t).length
 st:rsOf (runM d.frames d.vars (ge d.frames i) (ZpS d i t) n (mchV d i t))=⟨sk,n,decide (n=(ZpS d i t).length),if n=(ZpS d i t).length then endD (ge d.frames i) sk n else(0,0)⟩
 tg:(runM d.frames d.vars (ge d.frames i) (ZpS d i t) n (mchV d i t)).tg=(tagL ((ZpS d i t).take n) 0).map fun z=>ge gv z.toNat
 gl:gv.length=n
 inv:InvM (ZpS d i t) (runM d.frames d.vars (ge d.frames i) (ZpS d i t) n (mchV d i t))
section
variable {d:Db} {i n:Nat} {t:List BA} {sk gv:List (List BA)} {r:Ri}
variable (hI:RunI d i t n sk gv) (hn:n< (ZpS d i t).length)
include hI hn
variable (hc:ZcU d=0) (hi:i<d.frames.length) (hr:RelI (ge d.frames i) (namL (d.frames.take i)) (tagL ((ZpS d i t).take n) 0) (ge (ZpS d i t) n) r)
include hc hi hr
end
section
variable {d:Db} {i n most:Nat} {t:List BA} {sk gv:List (List BA)} {r:Ri}
end
section
variable {d:Db} {i n most:Nat} {t:List BA} {sk gv:List (List BA)} {r:Ri}
end
end Go.Proofs.YtdfadihhfppjaaaGreatDoor
namespace Go.Proofs.YtdfadihhfppjaaaGreatDoor
open Go.RowKit
theorem ZoT:∀(r:List Value) (s off:Nat) (pre old post:List Value),pre.length=off+s→old.length=r.length→
 (r.zipIdx s).foldl (fun(cs:Array Value) (x:Value×Nat)=>cs.setIfInBounds (off+x.2) x.1) (pre++old++post).toArray=(pre++r++post).toArray
 | [],s,off,pre,old,post,_,h2=>by
  have:old=[]:=List.length_eq_zero_iff.1 (by simpa using h2)
  subst this
  rfl
 | v::r,s,off,pre,old,post,h1,h2=>by
  match old,h2 with
  | u::old,h2=>
   rw[List.zipIdx_cons,List.foldl_cons]
   have e:((pre++u::old++post).toArray.setIfInBounds (off+s) v)=((pre++[v])++old++post).toArray:=by
    rw[List.setIfInBounds_toArray]
    congr 1
    rw[List.append_assoc,List.set_append_right _ _ oz,h1.symm,Nat.sub_self]
    simp
   rw[e,ZoT r (s+1) off (pre++[v]) old post (by simp;omega) (by simpa using h2)]
   simp
theorem Zi0 {k:Nat}:∀(rows:List (List Value)) (i:Nat) (pre z:List Value),pre.length=i*k→z.length=rows.length*k→(∀ r∈rows,r.length=k)→
 Instr.fill (fun i=>some (i*k,k)) (pre++z).toArray ((rows.zipIdx i).map fun p=>(p.2,Value.agg p.1.toArray))=some (pre++rows.flatten).toArray
 | [],i,pre,z,_,h2,_=>by
  have:z=[]:=List.length_eq_zero_iff.1 (by simpa using h2)
  subst this
  simp[Instr.fill]
 | r::rows,i,pre,z,h1,h2,h3=>by
  have hr:=h3 r yz
  have hz:z.length=k+rows.length*k:=by rw[h2,List.length_cons,Nat.succ_mul,Nat.add_comm]
  have hcell:(Value.agg r.toArray).cells=r.toArray:=rfl
  simp only[List.zipIdx_cons,List.map_cons,Instr.fill,hcell]
  rw[if_neg (by simp[hr];omega)]
  have e:(Array.foldl (fun cs (x:Value×Nat)=>cs.setIfInBounds (i*k+x.snd) x.fst) (pre++z).toArray r.toArray.zipIdx)=((pre++r)++z.drop k).toArray:=by
   have:=ZoT r 0 (i*k) pre (z.take k) (z.drop k) h1 (by rw[List.length_take];omega)
   rw[List.append_assoc pre,List.take_append_drop]at this
   rw[←this]
   simp
  rw[e,Zi0 rows (i+1) (pre++r) (z.drop k) (by rw[List.length_append,h1,hr,Nat.succ_mul]) (by rw[List.length_drop];omega) fun q hq=>h3 q (by simp[hq])]
  simp
section
variable {n:Rn} {N:Nat} {P:Program} {J X:WP} {S S' S'':Nat→Prop} {O:List OB} {w0:World} {env:List (Nat×AV)} {Q:Exit→Act→WP}
variable {o:Oper} {a:Act} {w:World} {t e u:TypeId} {x y:Operand}
theorem ZoF {k:Nat}:∀ {cs:List (List CD)} {vs:List Value},RelL S w (cs.map AV.agg) vs→(∀ r∈cs,r.length=k)→
 ∃ us:List (List Value),vs=us.map (fun r=>Value.agg r.toArray)∧us.length=cs.length∧(∀ r∈us,r.length=k)∧RdL S w cs.flatten us.flatten
 | [],vs,h,_=>by
  simp only[List.map_nil,RelL]at h
  subst h
  exact⟨[],rfl,rfl,by simp,trivial⟩
 | c::cs,vs,h,hk=>by
  simp only[List.map_cons,RelL]at h
  obtain⟨v,vs',rfl,h1,h2⟩:=h
  simp only[Rel]at h1
  obtain⟨u,rfl,hr⟩:=h1
  obtain⟨us,rfl,hl,hk2,hr2⟩:=ZoF (cs:=cs) h2 fun r hr=>hk r (by simp[hr])
  refine⟨u::us,rfl,by simp[hl],fun r hr3=>?_,?_⟩
  · rcases List.mem_cons.1 hr3 with rfl | hr3
    · rw[hr.length];exact hk c yz
    · exact hk2 r hr3
  · rw[List.flatten_cons,List.flatten_cons]
    exact hr.append hr2
theorem ZuG {k m:Nat} {cs:List (List CD)} {vs:List Value} {z:Array Value} {parts:Array (Nat×Operand)} (ht:Yp P t e k) (hz:∀ w,(zeroValue e).run P w= .ok (.agg z) w) (hop:o.op= .buildSlice t m parts) (hp:(parts.map fun(i,x)=>(i,a.eval x)).toList=vs.zipIdx.map fun p=>(p.2,p.1)) (h:RelL S w (cs.map AV.agg) vs) (hk:∀ r∈cs,r.length=k) (hl:cs.length=m) (h1:1≤k) (hm:1≤m*k) (hm2:m*k≤16777216)
 (hS:S w.heap.size) (hx:∀ w',Keeps All w w'→X w'):Does n P o a w (YC S X (.rd (.sl cs)) w):=by
 obtain⟨us,rfl,hul,huk,hall⟩:=ZoF h hk
 have hfl:us.flatten.length=m*k:=by
  have:∀ us:List (List Value),(∀ r∈us,r.length=k)→us.flatten.length=us.length*k:=by
   intro us
   induction us with
   | nil=>simp
   | cons r us ih=>intro h;rw[List.flatten_cons,List.length_append,h r yz,ih fun q hq=>h q (by simp[hq]),List.length_cons,Nat.succ_mul,Nat.add_comm]
  rw[this us huk,hul,hl]
 have hf:=Zi0 us 0 [] ((List.range (m*k)).map (z[· %z.size]!)) yz (by simp[hul,hl]) huk
 have hf2:Instr.fill (fun i=>some (i*k,k)) ((Array.range (m*k)).map (z[· %z.size]!)) (parts.map fun(i,x)=>(i,a.eval x)).toList=some us.flatten.toArray:=by
  rw[hp,List.zipIdx_map,List.map_map]
  have e:(Array.range (m*k)).map (z[· %z.size]!)=([]++(List.range (m*k)).map (z[· %z.size]!)).toArray:=by
   apply Array.ext'
   simp[Array.toList_range]
  rw[e]
  exact hf
 have hk':Keeps All w (w.alloc (.cells us.flatten.toArray e)):=(Keeps.refl _ _).alloc _
 refine ZS (v:=.slice (some ⟨w.heap.size,0,none⟩) m m) (w':=w.alloc (.cells us.flatten.toArray e)) ?_ ⟨?_,hk',hx _ hk'⟩
 · have hcz:(Value.agg z).cells=z:=rfl
   rw[execOp,hop]
   simp only[Sem.run_bind,Instr.buildSlice,run_underlying ht.1,Result.andThen_ok,ht.2 w]
   simp[newRow,newObj]
   rw[hz w]
   simp only[Result.andThen_ok,hcz]
   have hf3:=hf2
   simp only[Array.toList_map]at hf3
   simp only[hf3]
   rw[if_neg oz,if_neg oz]
   rfl
 · simp only[Rel]
   rw[show(m:Nat)=cs.length from hl.symm]
   refine Rd.of_cells (n:=k) (us:=us.flatten) nlr (by rw[hl];exact Nat.le_trans (Nat.le_mul_of_pos_right m h1) (Nat.le_trans hm2 dz)) yz hS hk (hall.keep hk' fun _ _ _=>trivial) fun j u hj=>QS j u hj
theorem ZmE {c d:Int} {v:Value} (h:Rel S w (.agg [.lit (.int .i64 c),.lit (.int .i64 d)]) v):v= .agg #[.int .i64 c,.int .i64 d]:=by
 simp only[Rel]at h
 obtain⟨us,rfl,hr⟩:=h
 match us,hr with
 | [p,q],hr=>
  obtain rfl:=hr.1.of_lit
  obtain rfl:=hr.2.1.of_lit
  rfl
def EqVd (P:Program) (t:TypeId):Prop:=∀(a b c d:Int) (w:World) (x y:Operand),(eqGuard .eql t x y (.agg #[.int .i64 a,.int .i64 b]) (.agg #[.int .i64 c,.int .i64 d])).run P w= .ok () w∧(eqGuard .neq t x y (.agg #[.int .i64 a,.int .i64 b]) (.agg #[.int .i64 c,.int .i64 d])).run P w= .ok () w∧
 (Op.equal t (.agg #[.int .i64 a,.int .i64 b]) (.agg #[.int .i64 c,.int .i64 d])).run P w= .ok (decide (a=c)&&decide (b=d)) w
theorem r_neqV {c d c' d':Int} (ht:EqVd P t) (hop:o.op= .binOp .neq t x y u) (h1:Rel S w (.agg [.lit (.int .i64 c),.lit (.int .i64 d)]) (a.eval x)) (h2:Rel S w (.agg [.lit (.int .i64 c'),.lit (.int .i64 d')]) (a.eval y)) (hx:X w):
 Does n P o a w (YC S X (.bool (!(decide (c=c')&&decide (d=d')))) w):=by
 obtain⟨_,g1,g3⟩:=ht c d c' d' w x y
 refine Zr (v:=.bool (!(decide (c=c')&&decide (d=d')))) ?_ (Rel.of_lit _) hx
 rw[execOp,hop]
 simp only[ZmE h1,ZmE h2,Sem.run_bind,g1,Result.andThen_ok,binOp,g3]
 rfl
end
set_option maxHeartbeats 8000000
set_option maxRecDepth 100000
theorem Zfm:Zb9 Tryz.prog 182 2:=⟨#[.string ⟨#[]⟩,.slice none 0 0],Y,fun i=>(#[(0,1),(1,1)]:Array (Nat×Nat))[i]?,fun j hj=>by rcases j with _ | _ | j<;>first | rfl | omega,fun parts=>by kernel_rfl⟩
end Go.Proofs.YtdfadihhfppjaaaGreatDoor
namespace Go.Proofs.YtdfadihhfppjaaaGreatDoor
def szP (ss:List Stp) (k j:Nat):Int:=((ge ss k).args.take j).foldl (Zcl (Xi ss k)) 1
section
variable {ss:List Stp} {k j n:Nat}
theorem ZkN (out:List Int) (x a:Int):Zcl out x a=min 1000000000 (x+ge out a.toNat):=by
 unfold Zcl ge
 show(if x+out.getD a.toNat 0<1000000000 then x+out.getD a.toNat 0 else 1000000000)=min 1000000000 (x+out.getD a.toNat 0)
 split<;>omega
theorem Zrw (hj:j< (ge ss k).args.length):szP ss k (j+1)=min 1000000000 (szP ss k j+ge (Xi ss k) (ge (ge ss k).args j).toNat):=by
 rw[szP,ZZ hj,List.foldl_append,←ZkN];rfl
theorem ZhZ (hk:k<ss.length):Xi ss (k+1)=Xi ss k++[szP ss k (ge ss k).args.length]:=by
 rw[Xi,szP,List.take_length,Yj hk]
 simp[hk]
theorem Zom:0≤szP ss k j∧szP ss k j≤1000000000:=Zdm _ (QL ss k) _ _ oz
theorem Zow (h:j<k):0≤ge (Xi ss k) j∧ge (Xi ss k) j≤1000000000:=QL ss k _ (Zp (by rw[Xa];exact h))
def szF (ss:List Stp) (k n:Nat):List Int:=Xi ss k++List.replicate (n-k) 0
theorem ZvF (ss:List Stp) (n:Nat):szF ss n n=Xi ss n:=by simp[szF]
theorem ZjJ (h:k≤n):(szF ss k n).length=n:=by rw[szF,List.length_append,Xa,List.length_replicate];omega
theorem ZvE (h:j<k):ge (szF ss k n) j=ge (Xi ss k) j:=ZwU (by rw[Xa];exact h)
def szG (ss:List Stp) (k n:Nat) (x:Int):List Int:=(szF ss k n).set k x
theorem ZjI (h:k≤n) {x:Int}:(szG ss k n x).length=n:=by rw[szG,List.length_set,ZjJ h]
theorem szG_at (h:k<n) {x:Int}:ge (szG ss k n x) k=x:=by
 rw[Yj (by rw[ZjI oz];exact h)]
 simp[szG]
theorem ZvD (h:j<k) (hn:k<n) {x:Int}:ge (szG ss k n x) j=ge (Xi ss k) j:=by
 rw[←ZvE (n:=n) h,Yj (by rw[ZjI oz];omega),Yj (by rw[ZjJ oz];omega)]
 simp only[szG]
 rw[List.getElem_set_ne oz]
theorem ZvC {x y:Int}:(szG ss k n x).set k y=szG ss k n y:=by rw[szG,szG,List.set_set]
theorem Zrx (hk:k<ss.length) (hn:k<n):szG ss k n (szP ss k (ge ss k).args.length)=szF ss (k+1) n:=by
 rw[szG,szF,szF,ZhZ hk,List.set_append_right _ _ (by rw[Xa];omega),Xa,Nat.sub_self,List.append_assoc]
 congr 1
 obtain⟨m,hm⟩:∃ m,n-k=m+1:=⟨n-k-1,oz⟩
 rw[hm,List.replicate_succ,List.set_cons_zero,show n-(k+1)=m by omega]
 rfl
end
theorem fs_len {ss:List Stp} {k:Nat} (h:40< (ge ss k).args.length):fsE ss k=4:=if_pos h
theorem fs_bad {ss:List Stp} {k:Nat} (h:¬ 40< (ge ss k).args.length) (hb:((ge ss k).args.any (ZcZ k))=true):fsE ss k=3:=(if_neg h).trans (if_pos hb)
theorem fs_ok {ss:List Stp} {k:Nat} (h:¬ 40< (ge ss k).args.length) (hb:((ge ss k).args.any (ZcZ k))=false):fsE ss k=0:=(if_neg h).trans (if_neg (by simp[hb]))
theorem Za9 {ss:List Stp} (hok:Okay ss) {k j:Nat} (hk:k<ss.length) (hj:j< (ge ss k).args.length):0≤ge (ge ss k).args j∧ge (ge ss k).args j< (k:Int):=by
 rw[Yj hk]at hj ⊢
 exact(hok.2.2 k hk).2 _ (Zp hj)
theorem ZgW {ss:List Stp} (hok:Okay ss) {k:Nat} (hk:k<ss.length):(ge ss k).args.length≤40:=by
 rw[Yj hk];exact(hok.2.2 k hk).1
section
variable {ss:List Stp} {i j m:Nat}
end
section
variable {d:Db} {z:Int} {ss:List Stp}
theorem Zfj (h:ZfC d z ss=0):Zaw d z=0∧Zbl ss=0:=by
 unfold ZfC at h
 split at h
 · exact⟨by assumption,h⟩
 · exact absurd h (by assumption)
end
end Go.Proofs.YtdfadihhfppjaaaGreatDoor
namespace Go.Proofs.YtdfadihhfppjaaaGreatDoor
open Go.RowKit
section
variable {n:Rn} {P:Program} {X:WP} {S S' S'':Nat→Prop}
theorem r_min {o:Oper} {a:Act} {w:World} {x y:Operand} {i j:Int} {t u:TypeId} (hop:o.op= .call { callee:=.builtin .min,args:= #[x,y],argTypes:= #[t,u] }) (h1:Rel S' w (.int i) (a.eval x)) (h2:Rel S'' w (.int j) (a.eval y)) (hx:X w):Does n P o a w (YC S X (.int (min i j)) w):=by
 refine Zr (v:=.int .i64 (min i j)) ?_ (Rel.of_lit _) hx
 have hrun:=run_min_int2 (P:=P) w #[t,u] o.type .i64 .i64 i j
 have hm:(if j<i then j else i)=min i j:=by split<;>omega
 rw[hm]at hrun
 simp[execOp,hop,resolve,invoke,builtin,h1.lit,h2.lit,hrun,Result.andThen]
variable {S:Nat→Prop} {d:Db}
def Zrf (P:Program) (t:TypeId):Prop:=∀(x y z:Value) (i:Int),P.built t [(0,.agg #[x,y,z]),(1,.int .i64 i)]=some #[x,y,z,.int .i64 i,.slice none 0 0]
theorem ZoQ {o:Oper} {a:Act} {w:World} {x y:Operand} {t:TypeId} {i:Int} (ht:Zrf P t) (hop:o.op= .build t #[(0,x),(1,y)]) (h:Rel S w (.agg (dbC d)) (a.eval x)) (h2:Rel S w (.int i) (a.eval y)) (hx:X w):
 Does n P o a w (YC S X (.agg (dbC d++[.lit (.int .i64 i),.lit (.slice none 0 0)])) w):=by
 simp only[Rel]at h
 obtain⟨us,hv,hr⟩:=h
 have hi:=h2.lit
 match us,hr with
 | [u1,u2,u3],hr=>
  refine Zr (v:=.agg #[u1,u2,u3,.int .i64 i,.slice none 0 0]) ?_ (by simp only[Rel];exact⟨[u1,u2,u3,.int .i64 i,.slice none 0 0],rfl,hr.append (ds:=[.lit (.int .i64 i),.lit (Value.slice none 0 0)]) (us:=[.int .i64 i,.slice none 0 0]) ⟨.lit _ True.intro,.lit _ True.intro,trivial⟩⟩) hx
  have hrun:=run_build (P:=P) w t #[(0,a.eval x),(1,a.eval y)] #[u1,u2,u3,.int .i64 i,.slice none 0 0] (by rw[hv,hi];exact ht u1 u2 u3 _)
  rw[execOp,hop]
  simp only[List.map_toArray,List.map_cons,List.map_nil,Sem.run_bind,hrun]
  rfl
end
theorem Zg5 {J:WP} {S:Nat→Prop} {N:Nat} {P:Program} {w0:World} {O:List OB} {env:List (Nat×AV)} {fn:Func} {a:Act} {w:World} {b:Nat} {cs cs':List CD} {t:TypeId} {d m q u x z k:Nat} {r1 r2 r3 r4:AV} (hr:fn.results= #[.tmp x,.cell d t,.tmp u]) (h1:Xl P t k) (h:So J S w0 N (OB.var b cs::O) env a w) (he:env[m]?=some (d,.at b 0)) (hl:cs.length=k) (hE:cs=cs') (he1:env[z]?=some (x,r1)) (hE1:r1=r2) (he2:env[q]?=some (u,r3)) (hE2:r3=r4):
 bodyPost P fn (fun e w'=>∃ v,e= .returned v∧Rel S w' (.tup [r2,.agg cs',r4]) v∧Keeps All w0 w'∧J w') .ret a w:=by
 subst hE
 subst hE1
 subst hE2
 obtain⟨h0,us,e,hb,hrd⟩:=h.x.2.1 (OB.var b cs) yz
 have hd:a.tmps.getD d undef= .pointer (some ⟨b,0,none⟩):=(h.get m he).lit
 have hrun:=Yr (P:=P) b 0 w us 0 #[] fun j u hj=>by rw[Nat.zero_add];simp[World.cell?,hb,hj]
 rw[show us.length=k by rw[hrd.length,hl]]at hrun
 have hd':a.tmps[d]?.getD undef= .pointer (some ⟨b,0,none⟩):=by rw[←Array.getD_eq_getD_getElem?];exact hd
 refine⟨h.defs,.tuple #[a.tmps.getD x undef,.agg us.toArray,a.tmps.getD u undef],by simp[results,hr,hd',asAddr,Sem.run_bind,loadVar,loadCells,h1.1 w,h1.2 w,hrun],_,rfl,?_,h.keep,h.x.1⟩
 have h2:=(h.get q he2).sub (T:=S) fun _ _ hk=>hk.1
 have h3:=(h.get z he1).sub (T:=S) fun _ _ hk=>hk.1
 simp only[Rel,RelL]
 exact⟨_,rfl,_,_,rfl,h3,_,_,rfl,⟨us,rfl,hrd.sub fun _ _ hk=>hk.1⟩,_,_,rfl,h2,rfl⟩
end Go.Proofs.YtdfadihhfppjaaaGreatDoor
set_option maxHeartbeats 8000000
set_option maxRecDepth 100000
namespace Go.Proofs.YtdfadihhfppjaaaGreatDoor
open Go.Proofs.Tryz (prog)
open Go.RowKit
theorem Zf9:Zur prog 29 3 8 (.int .i64 0):=makeT V V Y True.intro
section
variable {J:WP} (hJ:Stab J)
include hJ
theorem Zwc (y:Int) (k:Nat)  :Fn prog J 109 [.int y,.ptr [lI (k:Int)]] (.bool (ZcZ (k:Int) y)):=by
 refine fE Tryz.func109 fun S w0 hS hJ0=>?_
 clear hJ0
 refine qs tb hJ [0,1] [_] U2 ?_
 refine qs tb hJ [1007] U8 [_] ?_
 exact tRn 0 (hE:=eB (Y))
theorem ZuN (ss:List Stp)  :Fn prog J 81 [.agg (pfC ss)] (.int (Zbl ss)):=by
 refine fE Tryz.func81 fun S w0 hS hJ0=>?_
 refine tw Z4 (ZF tb hJ [1000] [.ptr (pfC ss),_] [0] [_] Y ⟨iBo hS hJ,U⟩ ?_)
 refine Zf (ZF tb hJ [0,1001,1009] [_,_,.int (ss.length:Nat),_,_,_,_,.int (ss.length:Nat),_,_] [2,7] U3 Y ⟨Ym ZN,Ym ZN,U⟩ ?_)
 refine ln 1 fun hl1=>?_
 refine cj 2 (fun hb1=>?_) fun hb1=>?_
 ·
  have eU:Zbl ss=4:=Zqb (by simp only[Bool.or_eq_true,decide_eq_true_eq]at hb1;omega)
  refine qso tb hJ [1000] [_] [_] ?_
  exact tRo 0 (hE:=eI (by rw[eU]))
 ·
  have hn:¬ (ss.length<1∨2000<ss.length):=by simp only[Bool.or_eq_false_iff,decide_eq_false_iff_not]at hb1;omega
  refine Zb (nx (Zf (ZF tb hJ [1001,1002,1003] [_,_,.int (ss.length:Nat),_] [2] U3 Y ⟨Ym ZN,U⟩ ?_)))
  refine Zd (lpo (ι:=Nat) (fun k=>(k≤ss.length)∧(∀ j,j<k→fsE ss j=0)) (fun _=>[]) (fun k=>[(18,.int (k:Nat))]) (fun k=>ss.length-k) [0,1,2] U2 0 ⟨nzl,fun j hj=>by omega⟩ ?_)
  rintro k ⟨f1_1,f1_2⟩
  refine qso tb hJ [0,1,2,1000] [_] U4 ?_
  refine cjS 3 (fun hb2=>?_) fun hb2=>?_
  ·
   try simp at hb2
   refine Zb (nx (Zf (Zd (tsq (snK 1 tb Y (sy (.ptr (spC (ge ss k))) (fun h=>ZM (i:=(k:Int)) Z1 Y (h.get 1 Y) (h.get 3 Y) nnn (ZT (xs:=ss) (k:=k) sfz) Y h.x) ?_))))))
   refine snK 1 tb Y (Zv ZkV hJ Y Y Y (lb Y) fun b1=>?_)
   refine Zv X4 hJ Y Y Y (lb Y) fun b2=>?_
   refine kw pm1 (Z6 (b:=b1) (off:=0) (es:=[_]) hJ hJ0 QM Y Y Y (lb Y) Y (fun a w h=>⟨(h.get 1 Y),(h.get 4 Y)⟩) ?_)
   refine kw pm1 (Zn (b:=b2) (off:=0) (es:=U2) (news:=U2) hJ hJ0 Qa Y Y Y (lb Y) Y (fun a w h=>⟨(h.get 0 Y),(h.get 2 Y)⟩) ?_)
   refine kw pm1 (kw (fun h=>ZP hS h (m:=1) (s:=3) Y) ?_)
   refine kw (fun h=>ZP hS h (m:=1) (s:=4) Y) (seK [0,1,5,6,7] U5 Y ?_)
   refine nx (Zf (ZF tb hJ (r5 [1001,1003]) [_,_,.int (((ge ss k).args).length:Nat),_] [2] U7 Y ⟨Ym YL,U⟩ ?_))
   refine ln 5 fun hl2=>?_
   refine cj 6 (fun hb3=>?_) fun hb3=>?_
   ·
    try simp at hb3
    have eU:Zbl ss=4:=by have e9:=fs_len (ss:=ss) (k:=k) oz;rw[ZlZ hn oz f1_2 (by rw[e9];decide),e9]
    refine qso tb hJ [1000] [_] [_] ?_
    exact tRo 0 (hE:=eI (by rw[eU]))
   ·
    try simp at hb3
    refine Zb (nx (ZF tb hJ [2,3,4,1003] [_,_,.fn 109 [.ptr [lI (k:Int)]],.bool (((ge ss k).args).any (ZcZ (k:Int)))] [2,3] U4 Y ⟨fun _ _ _ hx hl _=>YR (caps:=[(.tmp 3)]) Y (Za (hl.env 1 3 _ Y Y) Zc) hx,fun _ _ hk hx hl _=>Y3 (Zbv hJ ((ge ss k).args) 109 [.ptr [lI (k:Int)]] [] (ZcZ (k:Int)) (fun q'=>(Zwc hJ q' k).rr) (Zuc)) ZqR Y (Zk hS _ hk hx) (hx.1) Zq (Za (hl.D 1 28 Y Y) (Za (hl.D 2 29 Y Y) Zc)) (jo hJ hx),U⟩ ?_))
    refine cj 3 (fun hb4=>?_) fun hb4=>?_
    ·
     have eU:Zbl ss=3:=by have e9:=fs_bad (ss:=ss) (k:=k) oz (hb4);rw[ZlZ hn oz f1_2 (by rw[e9];decide),e9]
     refine qso tb hJ [1000] [_] [_] ?_
     exact tRo 0 (hE:=eI (by rw[eU]))
    ·
     have eF:=fs_ok (ss:=ss) (k:=k) oz hb4
     refine Zb (nx (YU tb hJ [0,1,1001] [.int (k+1:Nat),_] [0] U3 Y ⟨YT,U⟩ ?_))
     exact Xk (k+1) [0,1,2] ⟨oz,Z2 f1_2 eF⟩
  ·
   try simp at hb2
   have eU:Zbl ss=0:=Zqc hn fun j hj=>f1_2 j oz
   refine Zu (nx (qso tb hJ [1000] [_] [_] ?_))
   exact tRo 0 (hE:=eI (by rw[eU]))
theorem Zr1 (d:Db) (z:Int) (hw:∀ f∈d.frames,f.wide.length*32≤140737488351232) (hG:Xm J):Fn prog J 85 [.agg (dbC d),.int z] (.int (Zaw d z)):=by
 refine fE Tryz.func85 fun S w0 hS hJ0=>?_
 clear hJ0
 refine hqs tb hJ [1,1000] [.ptr (dbC d),_] [0] U2 Y ⟨iBs hS hJ,U⟩ ?_
 refine Zf (hqs tb hJ [0,1,1002] [_,.int (ZcU d),_] [1] U3 Y ⟨iFn hS hJ (Zwm hJ d (by exact hw) (by exact hG)) Zua,U⟩ ?_)
 refine qs tb hJ [0,1,2,1001] U2 U4 ?_
 refine cj 3 (fun hb1=>?_) fun hb1=>?_
 ·
  try simp at hb1
  have e3:Zaw d z=ZcU d:=by rw[Zaw,if_pos (by simpa using hb1)]
  refine qs tb hJ [1001] U2 [_] ?_
  exact tRn 0 (hE:=eI (by rw[e3]))
 ·
  try simp at hb1
  refine Zb (nx (Zf (hqs tb hJ [1008] (V6 [.int (d.frames.length:Nat),_,_]) [6] [_] Y ⟨Ym QT,U⟩ ?_)))
  refine cj 0 (fun hb2=>?_) fun hb2=>?_
  ·
   have e3:Zaw d z=5:=by rw[Zaw,if_neg (by simpa using hb1),if_pos (by simpa using hb2)]
   refine qs tb hJ [1000] [_] [_] ?_
   exact tRn 0 (hE:=eI (by rw[e3]))
  ·
   have e3:Zaw d z=0:=by rw[Zaw,if_neg (by simpa using hb1),if_neg (by simpa using hb2)]
   refine Zb (nx (qs tb hJ [1000] [_] [_] ?_))
   exact tRn 0 (hE:=eI (by rw[e3]))
theorem ZgV (d:Db) (z:Int) (ss:List Stp) (hw:∀ f∈d.frames,f.wide.length*32≤140737488351232) (hG:Xm J):Fn prog J 56 [.agg (dbC d),.int z,.agg (pfC ss)] (.int (ZfC d z ss)):=by
 refine fE Tryz.func56 fun S w0 hS hJ0=>?_
 clear hJ0
 refine hqs tb hJ [1,1000,1001] [.ptr (dbC d),.ptr (pfC ss),_] [0,1] U3 Y ⟨iBs hS hJ,iBs hS hJ,U⟩ ?_
 refine Zf (hqs tb hJ [2,1003] [_,_,.int (Zaw d z),_] [2] U2 Y ⟨iFn hS hJ (Zr1 hJ d z (by exact hw) (by exact hG)) Zxu,U⟩ ?_)
 refine qs tb hJ [0,1,1001] U2 U3 ?_
 refine cj 2 (fun hb1=>?_) fun hb1=>?_
 ·
  try simp at hb1
  have eU:ZfC d z ss=Zaw d z:=if_neg (by simpa using hb1)
  refine qs tb hJ [1001] U2 [_] ?_
  exact tRn 0 (hE:=eI (by rw[eU]))
 ·
  try simp at hb1
  have eU:ZfC d z ss=Zbl ss:=if_pos (by simpa using hb1)
  refine Zb (nx (hqs tb hJ [1002] [_,.int (Zbl ss),_] [1] [_] Y ⟨iFn hS hJ (ZuN hJ ss) ZqN,U⟩ ?_))
  exact tRn 0 (hE:=eI (by rw[eU]))
theorem Zv8 (ss:List Stp) (hok:Okay ss):Fn prog J 83 [.agg (pfC ss)] (.rd (Z3 (ZaJ ss))):=by
 refine fE Tryz.func83 fun S w0 hS hJ0=>?_
 refine tw Z4 ?_
 have hl0:=hok.1
 have hl1:=hok.2.1
 refine ZF tb hJ [1000] [.ptr (pfC ss),_] [0] [_] Y ⟨iBo hS hJ,U⟩ ?_
 refine tsq (snK 2 tb Y (sy (.int (ss.length:Nat)) (fun h=>Qw ZN Y (h.get 0 Y) h.x) ?_))
 refine ZbJ (f:=Xe) (k:=ss.length) (0:Int) Zf9 Y hJ Y Y Y (lb Y) (fun a w h=>⟨(h.get 0 Y),(h.get 0 Y)⟩) sfz sfz fun v1=>?_
 refine snK 1 tb Y (seK [0,3,5] U3 Y ?_)
 refine nx (ln 1 fun hl1=>?_)
 refine Zf (ZF tb hJ [0,1001,1002,1003] [_,_,.int (ss.length:Nat),_] [2] U4 Y ⟨Ym ZN,U⟩ ?_)
 refine Zd (lpo (ι:=Nat×Value×(List Int)) (fun(k,_,out)=>(k≤ss.length)∧(out=szF ss k ss.length)) (fun(_,vo,out)=>[OB.row vo 3 1 (out.map Xe)]) (fun(k,vo,_)=>[(15,.int (k:Nat)),(3,.lit vo)]) (fun(k,_,_)=>ss.length-k) [1,2,3,0] U2 (0,v1,List.replicate ss.length (0:Int)) ⟨nzl,Y⟩ ?_)
 rintro⟨k,vo,out⟩ ⟨f1_1,f1_2⟩
 refine qso tb hJ [0,1,2,3,1000] [_] U5 ?_
 refine cjS 4 (fun hb1=>?_) fun hb1=>?_
 ·
  try simp at hb1
  have e5:out.length=ss.length:=by rw[f1_2,ZjJ oz]
  refine Zb (nx (Zf (Zd (tsq (snK 1 tb Y (sy (.ptr (spC (ge ss k))) (fun h=>ZM (i:=(k:Int)) Z1 Y (h.get 1 Y) (h.get 3 Y) nnn (ZT (xs:=ss) (k:=k) sfz) Y h.x) ?_))))))
  refine snK 1 tb Y (Zv X4 hJ Y Y Y (lb Y) fun b2=>?_)
  refine snK 1 tb Y (Zn (b:=b2) (off:=0) (es:=U2) (news:=U2) hJ hJ0 Qa Y Y Y (lb Y) Y (fun a w h=>⟨(h.get 1 Y),(h.get 2 Y)⟩) ?_)
  refine kw (fun h=>ZP hS h (m:=1) (s:=5) Y) (seK [0,1,5,6,7,8] U6 Y ?_)
  refine nx (tsq (snK 2 tb Y (sy (.lit (YG vo (k*1))) (fun h=>ZU (i:=(k:Int)) Zw Y (Ze h.x (mo 0 Y)) (h.get 1 Y) (h.get 0 Y) nnn (by rw[List.length_map];exact Int.ofNat_lt.2 sfz) h.x) ?_)))
  refine Qv (i:=k) hJ hJ0 QM Y Y Y (by rw[List.length_map];exact sfz) (fun a w h=>⟨(h.get 0 Y),(Rel.of_lit (.int .i64 1))⟩) ?_
  rw[show(out.map Xe).set k [lI (1:Int)]=(out.set k (1:Int)).map Xe from List.map_set.symm]
  refine seK [3,4,5,6,7,8] U6 Y (nx (ZF tb hJ [1,2,3,4,5,1001,1002,1003] [_,_,.int (((ge ss k).args).length:Nat),_] [2] U8 Y ⟨Ym YL,U⟩ ?_))
  refine ln 5 fun hl2=>?_
  refine Zd (lpo (ι:=Nat×Value×(List Int)) (fun(q,_,ou2)=>(q≤(ge ss k).args.length)∧(ou2=szG ss k ss.length (szP ss k q))) (fun(_,vp,ou2)=>[OB.row vp 3 1 (ou2.map Xe)]) (fun(q,vp,_)=>[(26,.int (q:Nat)),(3,.lit vp)]) (fun(q,_,_)=>(ge ss k).args.length-q) [0,1,2,3,5,6,7,4] U6 (0,vo,out.set k (1:Int)) ⟨nzl,by rw[f1_2];rfl⟩ ?_)
  rintro⟨q,vp,ou2⟩ ⟨f2_1,f2_2⟩
  refine qso tb hJ (r8 [1000]) [_] U9 ?_
  refine cjS 8 (fun hb2=>?_) fun hb2=>?_
  ·
   try simp at hb2
   have e4:=Za9 hok (k:=k) (j:=q) oz oz
   have e5:ou2.length=ss.length:=by rw[f2_2,ZjI oz]
   have e6:ge ou2 k=szP ss k q:=by rw[f2_2,szG_at oz]
   have e7:ge ou2 (ge (ge ss k).args q).toNat=ge (Xi ss k) (ge (ge ss k).args q).toNat:=by rw[f2_2,ZvD oz oz]
   have e8:=Zow (ss:=ss) (k:=k) (j:=(ge (ge ss k).args q).toNat) oz
   rw[←e7]at e8
   have e9:=Zom (ss:=ss) (k:=k) (j:=q)
   rw[←e6]at e9
   refine Zb (nx (Zf (Zd (ZF tb hJ (r8 [1002]) [.ptr [lI (ge ((ge ss k).args) q)],_,_] [0] U9 Y ⟨iIx Zw,U⟩ ?_))))
   refine fun a w h=>YH (γ:=Unit) (fun ix'=>([.lit vp,.int (k:Nat),.lit vp,.int (k:Nat),.lit (YG vp (k*1)),.int (ge ou2 k),.lit vp,.int (ge ((ge ss k).args) q),.lit (YG vp (((ge ((ge ss k).args) q).toNat)*1)),.int (ge ou2 ((ge ((ge ss k).args) q).toNat)),.int ((ge ou2 k)+(ge ou2 ((ge ((ge ss k).args) q).toNat))),.int (min (1000000000:Int) ((ge ou2 k)+(ge ou2 ((ge ((ge ss k).args) q).toNat)))),.lit (YG vp (k*1)),.any]:List AV).getD ix' .any) (fun _=>true) [(4,fun _=>.int (k:Nat)),(13,fun _=>.rd (Yv ss)),(14,fun _=>.int (ss.length:Nat)),(15,fun _=>.int (k:Nat)),(24,fun _=>.rd (Z3 ((ge ss k).args))),(25,fun _=>.int (((ge ss k).args).length:Nat)),(26,fun _=>.int (q:Nat)),(3,fun _=>.lit vp)] (fun j' _=>match j' with | 0=>[OB.row vp 3 1 (ou2.map Xe)] | _=>[OB.row vp 3 1 ((ou2.set k (min (1000000000:Int) ((ge ou2 k)+(ge ou2 ((ge ((ge ss k).args) q).toNat))))).map Xe)]) (fun _ _=>undef) [13] 0 () (fun _=>Y) h hJ Yo Y Y Y Y Y Y hsb ⟨?_,?_,?_,?_,?_,?_,?_,?_,?_,?_,?_,?_,?_,?_,U⟩ ⟨?e9_1_0,U⟩ ⟨.old 0 4 _,.old 1 13 _,.old 2 14 _,.old 3 15 _,.old 4 24 _,.old 5 25 _,.old 6 26 _,.old 7 3 _,U⟩ ?n9_1
   exact oX Y fun hx hl=>ZV Y (hl.env 7 3 _ Y Y) hx
   exact oX Y fun hx hl=>ZV Y (hl.env 0 4 _ Y Y) hx
   exact oX Y fun hx hl=>ZV Y (hl.env 7 3 _ Y Y) hx
   exact oX Y fun hx hl=>ZV Y (hl.env 0 4 _ Y Y) hx
   exact fun _ O' hO'=>⟨Y,fun _ _ _ hx hl _=>ZU (i:=(k:Int)) Zw Y (Ze hx (hO' _ (mo 0 Y))) (hl.D 2 32 Y Y) (hl.D 3 33 Y Y) nnn (by rw[List.length_map];exact Int.ofNat_lt.2 sfz) hx⟩
   exact fun _ O' hO'=>⟨Y,fun _ _ _ hx hl _=>X6 (i:=k) Q2 Y (Ze hx (hO' _ (mo 0 Y))) (hl.D 4 34 Y Y) (Qc (xs:=ou2) (k:=k) sfz) hx⟩
   exact oX Y fun hx hl=>ZV Y (hl.env 7 3 _ Y Y) hx
   exact oX Y fun hx hl=>ZV Y (hl.env 8 7 _ Y Y) hx
   exact fun _ O' hO'=>⟨Y,fun _ _ _ hx hl _=>ZU (i:=(ge ((ge ss k).args) q)) Zw Y (Ze hx (hO' _ (mo 0 Y))) (hl.D 6 36 Y Y) (hl.D 7 37 Y Y) sfz (by rw[List.length_map];exact sfz) hx⟩
   exact fun _ O' hO'=>⟨Y,fun _ _ _ hx hl _=>X6 (i:=(ge ((ge ss k).args) q).toNat) Q2 Y (Ze hx (hO' _ (mo 0 Y))) (hl.D 8 38 Y Y) (Qc (xs:=ou2) (k:=(ge ((ge ss k).args) q).toNat) sfz) hx⟩
   exact oX Y fun hx hl=>Znc (i:=(ge ou2 k)) (j:=(ge ou2 ((ge ((ge ss k).args) q).toNat))) Y (hl.D 5 35 Y Y) (hl.D 9 39 Y Y) sfz sfz hx
   exact fun _ O' _=>⟨Y,fun _ w _ hx hl _=>r_min Y (Rel.of_lit (S:=fun _=>True) (w:=w) (.int .i64 1000000000)) (hl.D 10 40 Y Y) hx⟩
   exact fun _ O' hO'=>⟨Y,fun _ _ _ hx hl _=>ZU (i:=(k:Int)) Zw Y (Ze hx (hO' _ (mo 0 Y))) (hl.D 0 30 Y Y) (hl.D 1 31 Y Y) nnn (by rw[List.length_map];exact Int.ofNat_lt.2 sfz) hx⟩
   exact Zh Y
   case e9_1_0=>exact⟨_,Y,Y,Y,Y,fun g _ w hk hx hl _=>Zl (Zfc (f:=Xe) (i:=k) (min (1000000000:Int) ((ge ou2 k)+(ge ou2 ((ge ((ge ss k).args) q).toNat)))) Y hJ hJ0 QM Y hk hx (hl.D 12 42 Y Y) (hl.D 11 41 Y Y) sfz) fun v w' hp=>⟨g,Y,fun _ _=>rfl,fun e=>(by cases e),hp⟩⟩
   clear a w h
   intro _
   dsimp only[List.map]
   refine nx (YU tb hJ (r6 [7,1001]) [.int (q+1:Nat),_] [0] U8 Y ⟨YT,U⟩ ?_)
   exact Xk (q+1,vp,ou2.set k (min (1000000000:Int) ((ge ou2 k)+(ge ou2 ((ge ((ge ss k).args) q).toNat))))) (r6 [7,6]) ⟨oz,by rw[e6,e7,←Zrw oz,f2_2,ZvC]⟩
  ·
   try simp at hb2
   refine Zu (nx (YU tb hJ [1,2,7,1001] [.int (k+1:Nat),_] [0] U4 Y ⟨YT,U⟩ ?_))
   exact Xk (k+1,vp,ou2) [0,1,3,2] ⟨oz,by rw[f2_2,show q=(ge ss k).args.length by omega,Zrx oz oz]⟩
 ·
  try simp at hb1
  refine Zu (nx (qso tb hJ [1001] U2 [_] ?_))
  exact tw (fun h=>Ya hS h (m:=0) (s:=2) Y) (tRo 0 (hE:=congrArg (fun z=>AV.rd (Z3 z)) (show out=(ZaJ ss)from by rw[f1_2,show k=ss.length by omega,ZvF];rfl)))
end
end Go.Proofs.YtdfadihhfppjaaaGreatDoor
namespace Go.Proofs.YtdfadihhfppjaaaGreatDoor
section
variable {d:Db} {i k j:Nat} {s:Stp} {a es:List (List BA)} {ag:List Int} {ss:List Stp} {vars:List BA} {wide:List Pr} {g:Fr}
theorem Zd0:(YJ a ag).length=ag.length:=by simp[YJ]
theorem Zfa (hj:j<ag.length):ge (YJ a ag) j=ge a (ge ag j).toNat:=by
 rw[Yj (by rw[Zd0];exact hj),Yj hj];simp[YJ]
theorem Zl5 {p:List BA→Prop} (h:∀ t∈a,p t) (hb:∀ j,j<ag.length→0≤ge ag j∧ge ag j< (a.length:Int)):∀ t∈YJ a ag,p t:=fun t ht=>by
 obtain⟨j,hj,rfl⟩:=Xc ht
 rw[Zd0]at hj
 have:=hb j hj
 rw[Zfa hj]
 exact h _ (Zp oz)
theorem Zvt {c:Int} (h:ZmN vars wide g es 0= .error c):¬ c=0:=by
 unfold ZmN at h
 split at h
 · injection h with h;omega
 split at h
 · injection h with h;omega
 split at h
 · injection h with h;omega
 split at h
 · injection h with h;omega
 · cases h
theorem Zru (hg:okT g) (h:(Zb4 vars wide g es).2=0):1≤(Zb4 vars wide g es).1.length∧(Zb4 vars wide g es).1.length≤2000:=by
 unfold Zb4 at h ⊢
 cases h9:ZmN vars wide g es 0 with
 | ok t=>exact Zvs hg h9
 | error c=>rw[h9]at h;exact absurd h (Zvt h9)
theorem Zry (hc:ZcU d=0) (hi:i<d.frames.length) (h:(ZaI d i s a).2=0):1≤(ZaI d i s a).1.length∧(ZaI d i s a).1.length≤2000:=by
 unfold ZaI at h ⊢
 split at h
 · cases h
 rename_i h0
 rw[if_neg h0]
 cases h9:ZbA (ge d.frames i) s.label with
 | some y=>
  rw[h9]at h
  simp only at h ⊢
  split at h
  · cases h
  rename_i h1
  rw[if_neg h1]
  exact(ZcT hc _ (Zp hi)).2.2 y (List.mem_of_find?_eq_some h9)
 | none=>
  rw[h9]at h
  simp only at h ⊢
  split at h
  · cases h
  rename_i h1
  rw[if_neg h1]
  split at h
  · cases h
  rename_i h2
  rw[if_neg h2]
  exact Zru (ZcT hc _ (Zp (ZhB h1).2.2)).2.1 h
theorem Zhb (hc:ZcU d=0) (hi:i<d.frames.length):∀ k,(∀ j,j<k→erG d i ss j=0)→∀ t∈fmG d i ss k,1≤t.length∧t.length≤2000
 | 0,_,t,ht=>by simp[fmG]at ht
 | k+1,h,t,ht=>by
  rw[fmG]at ht
  rcases List.mem_append.1 ht with ht | ht
  · exact Zhb hc hi k (fun j hj=>h j oz) t ht
  · rw[List.mem_singleton.1 ht]
    exact Zry hc hi (h k oz)
theorem Zs6 {z:BA} (hi:i≤d.frames.length) (h:Yk d z<0∨(i:Int)≤Yk d z):Y9 d i z= -1:=ZnN fun j hj e=>by
 have h1:¬ Qj (fun f=>decide (f.label=z)) d.frames= -1:=fun e1=>by
  have e2:d.frames.findIdx? (fun f=>decide (f.label=z))=none:=by
   unfold Qj at e1
   cases h9:d.frames.findIdx? (fun f=>decide (f.label=z))with
   | none=>rfl
   | some q=>rw[h9]at e1;simp only at e1;omega
  have e3:=List.findIdx?_eq_none_iff.1 e2 _ (Zp (show j<d.frames.length by omega))
  simp[e]at e3
 obtain⟨h2,h3,h4,h5⟩:=Q5 h1
 have h6:Yk d z=Qj (fun f=>decide (f.label=z)) d.frames:=rfl
 rw[h6]at h
 have h7:=h5 j oz
 simp[e]at h7
theorem Zqj {z:BA} (hi:i≤d.frames.length) (h:¬ Yk d z<0) (h0:Yk d z< (i:Int)):Y9 d i z=Yk d z:=by
 have h6:Yk d z=Qj (fun f=>decide (f.label=z)) d.frames:=rfl
 obtain⟨h2,h3,h4,h5⟩:=Q5 (p:=fun f=>decide (f.label=z)) (xs:=d.frames) (by rw[←h6];omega)
 rw[←h6]at h2 h3 h4 h5
 rw[Zrb (k:=(Yk d z).toNat) hi oz (fun j hj e=>by have:=h5 j hj;simp[e]at this) (by simpa using h4)]
 omega
theorem Zps (hok:Okay ss) (hk:k<ss.length):∀ j,j< (ge ss k).args.length→0≤ge (ge ss k).args j∧ge (ge ss k).args j< (k:Int):=fun _ hj=>Za9 hok hk hj
def Yq (d:Db) (z:Int) (ss:List Stp):List (List BA)×(Int×Int):=if ZfC d z ss=0 then Zoc d z.toNat ss else([],(0,0))
theorem Zqn:erG d i ss k=(ZaI d i (ge ss k) (fmG d i ss k)).2:=rfl
theorem Zs3:fmG d i ss (k+1)=fmG d i ss k++[(ZaI d i (ge ss k) (fmG d i ss k)).1]:=rfl
end
end Go.Proofs.YtdfadihhfppjaaaGreatDoor
set_option maxHeartbeats 8000000
set_option maxRecDepth 100000
namespace Go.Proofs.YtdfadihhfppjaaaGreatDoor
open Go.RowKit
theorem p_useG {J:WP} (hJ:Stab J) (bc:Nat) (d:Db) (i:Nat) (fv:Value) (fs:List (List BA)) (gf:Fr) (ag:List Int) (hi:i<d.frames.length) (hfs:∀ t∈fs,1≤t.length∧t.length≤2000) (hag:∀ j,j<ag.length→0≤ge ag j∧ge ag j< (fs.length:Int)) (hgl:ag.length=gf.hyps.length) (hf:∀ h∈gf.hyps,h.floating=true→h.text.length=2) (hh:gf.hyps.length≤2000) (hwd:(ge d.frames i).wide.length*32≤140737488351232):FnR Tryz.prog J 88 [OB.var bc [Zg d.consts,Zg d.vars,ZaU d.frames,lI (i:Int),.lit fv],OB.row fv 22 1 (fs.map Zen)] [.at bc 0,.agg (frC gf),.rd (Z3 ag)] (.tup [.rd (Zg ((Zb4 d.vars (ge d.frames i).wide gf (YJ fs ag)).1)),.int ((Zb4 d.vars (ge d.frames i).wide gf (YJ fs ag)).2)]):=by
 refine fER Tryz.func88 fun S w0 hS hJ0 hH=>?_
 refine tw Z4 (ln 2 fun hl1=>?_)
 have het:∀ t∈(YJ fs ag),1≤t.length∧t.length≤2000:=Zl5 hfs hag
 have hes:(YJ fs ag).length=gf.hyps.length:=by rw[Zd0];exact hgl
 refine ZF tb hJ [0,2,1000] [.ptr (frC gf),_,_] [0] U3 Y ⟨iBo hS hJ,U⟩ ?_
 refine qso tb hJ [0,1,2,1000] [_] U4 ?_
 refine Zf (ZF tb hJ [0,1,2,3,1001,1002,1003] [_,_,.int (gf.hyps.length:Nat),_] [2] U7 Y ⟨Ym ZC,U⟩ ?_)
 refine ln 4 fun hl2=>?_
 refine Zd (tw (Yd 182 2 hJ) (lpo (ι:=Nat×Value×(List Bd)) (fun(k,_,bs)=>(k≤gf.hyps.length)∧(bs=Ql gf.hyps (YJ fs ag) 0 k)∧(∀ j,j<k→ZdY gf.hyps (YJ fs ag) 0 j=true)) (fun(_,wv,bs)=>[OB.row wv 182 2 (bs.map bdC)]) (fun(k,wv,_)=>[(21,.int (k:Nat)),(8,.lit wv)]) (fun(k,_,_)=>gf.hyps.length-k) [0,1,2,4,5,6,3] U5 (0,(.slice none 0 0),([]:List Bd)) ⟨nzl,Y,fun j hj=>by omega⟩ ?_))
 rintro⟨k,wv,bs⟩ ⟨f1_1,f1_2,f1_3⟩
 refine qso tb hJ (r7 [1000]) [_] U8 ?_
 refine cjS 7 (fun hb1=>?_) fun hb1=>?_
 ·
  try simp at hb1
  have e0:ge (YJ fs ag) k=(ge fs (ge ag k).toNat):=Zfa oz
  have e1:=hag k oz
  refine Zb (nx (Zf (Zd (tsq (snK 1 tb Y (sy (.ptr (hyC (ge gf.hyps k))) (fun h=>ZM (i:=(k:Int)) ZI Y (h.get 4 Y) (h.get 6 Y) nnn (ZT (xs:=gf.hyps) (k:=k) sfz) Y h.x) ?_))))))
  refine snK 1 tb Y (Zv Yy hJ Y Y Y (lb Y) fun b1=>?_)
  refine snK 1 tb Y (Zn (b:=b1) (off:=0) (es:=U3) (news:=U3) hJ hJ0 YQ Y Y Y (lb Y) Y (fun a w h=>⟨(h.get 1 Y),(h.get 2 Y)⟩) ?_)
  refine kw (fun h=>ZP hS h (m:=1) (s:=10) Y) (seK [0,1,5,6,7,8,9,10,11] U9 Y ?_)
  refine nx (ZF tb hJ [0,2,3,4,5,6,7,8,1009,1010] [_,.at bc 0,.at bc 4,.lit fv,_,_,.ptr [lI (ge ag k)],_,.lit (YG fv (((ge ag k).toNat)*1)),.rd (Zg (ge fs ((ge ag k).toNat))),_] [1,2,3,6,8,9] U10 Y ⟨fun _ _ _ hx hl _=>Z9 Y (hl.D 0 26 Y Y) hx,fun _ _ _ hx hl _=>Zx XH Y (hl.D 1 27 Y Y) hx,fun _ _ hk hx hl _=>Zo ZeI Y (ZJ hH hk hx (mo 0 Y)) (hl.D 2 28 Y Y) Y hx,iIx Zw,fun _ _ hk hx hl _=>ZU (i:=(ge ag k)) Z8 Y (ZJ hH hk hx (mo 1 Y)) (hl.D 3 29 Y Y) (hl.D 7 33 Y Y) sfz (by rw[List.length_map];exact sfz) hx,fun _ _ hk hx hl _=>X6 (i:=(ge ag k).toNat) Qy Y (ZJ hH hk hx (mo 1 Y)) (hl.D 8 34 Y Y) (Qc (xs:=fs) (k:=(ge ag k).toNat) sfz) hx,U⟩ ?_)
  refine ln 8 fun hl3=>?_
  refine Zf (qso tb hJ (r8 [9,1002]) U3 U10 ?_)
  refine cj 9 (fun hb2=>?_) fun hb2=>?_
  ·
   try simp at hb2
   refine Zu (nx (YU tb hJ [1,2,3,4,5,7,1001] [.int (k+1:Nat),_] [0] U7 Y ⟨YT,U⟩ ?_))
   exact Xk (k+1,wv,bs) (r5 [6,5]) ⟨oz,by rw[Zjj,←f1_2];simp[Zuj,hb2],Z2 f1_3 (by simp[ZdY,hb2])⟩
  ·
   try simp at hb2
   have e3:(ge gf.hyps k).text.length=2:=hf _ (Zp oz) (by simpa using hb2)
   have e4:=hfs _ (Zp (xs:=fs) (k:=(ge ag k).toNat) oz)
   refine Zb (nx (Zf (ZF tb hJ (r9 [1012]) [_,.int ((ge fs ((ge ag k).toNat)).length:Nat),_,_,_,.ptr [lS (ge (ge fs ((ge ag k).toNat)) 0)],_,_,_,.ptr [lS (ge ((ge gf.hyps k).text) 0)],_,_,_] [1,5,9] U10 Y ⟨Ym ZA,gIx (k:=0) Zj (hk:=fun(hc':((decide ((((ge fs ((ge ag k).toNat)).length:Nat):Int)=(0:Int)))==false)=true)=>by(try simp at hc');first | omega | (simp;omega) | grind[Zp]),gIx (k:=0) Zj (hk:=fun(hc':((decide ((((ge fs ((ge ag k).toNat)).length:Nat):Int)=(0:Int)))==false)=true)=>by(try simp at hc');first | omega | (simp;omega) | grind[Zp]),U⟩ ?_)))
   refine cj 9 (fun hb3=>?_) fun hb3=>?_
   ·
    have e5:ZdY gf.hyps (YJ fs ag) 0 k=false:=by simp only[ZdY,Nat.zero_add,e0,Bool.or_eq_false_iff,Bool.not_eq_false',decide_eq_false_iff_not];exact⟨by simpa using hb2,fun e=>by simp[e]at hb3;have:=e4.1;simp[hb3]at this⟩
    have eU:(Zb4 d.vars (ge d.frames i).wide gf (YJ fs ag))=([],24):=ux_24 oz e5
    refine qso tb hJ [1000,1001] U2 U2 ?_
    exact tw (fun h=>Xx h (m:=0) (s:=6) Y) (Zs (fun a w h=>Yz (m:=0) (k:=1) Y (ZY h) Y Y (congrArg (fun z=>AV.rd (Zg z)) (show([]:List BA)=((Zb4 d.vars (ge d.frames i).wide gf (YJ fs ag)).1)from by first | (rw[eU];done) | (rw[eU,if_neg (by simp[e9])]))) (eI (by first | (rw[eU];done) | (rw[eU,if_neg (by simp[e9])])))))
   ·
    have e5:ZdY gf.hyps (YJ fs ag) 0 k=true:=by simp only[Bool.or_eq_false_iff,Bool.not_eq_false',decide_eq_true_eq]at hb3;simp[ZdY,e0,hb3.2]
    refine Zb (nx (fun a w h=>Zbt [] (γ:=Value) (fun ix'=>([.lit wv,.ptr [Zg ((ge gf.hyps k).text)],.rd (Zg ((ge gf.hyps k).text)),.ptr [lS (ge ((ge gf.hyps k).text) 1)],.str (ge ((ge gf.hyps k).text) 1),.rd (Zg (ge fs ((ge ag k).toNat))),.rd (Zg ((ge fs ((ge ag k).toNat)).drop 1)),.agg (bdC (⟨(ge ((ge gf.hyps k).text) 1),(ge fs ((ge ag k).toNat)).drop 1⟩:Bd)),.rd (Zgu ([(⟨(ge ((ge gf.hyps k).text) 1),(ge fs ((ge ag k).toNat)).drop 1⟩:Bd)])),.any,.any]:List AV).getD ix' .any) (fun _=>true) [(0,fun _=>.at bc 0),(2,fun _=>.rd (Z3 ag)),(4,fun _=>.ptr (frC gf)),(19,fun _=>.rd (XQ gf.hyps)),(20,fun _=>.int (gf.hyps.length:Nat)),(21,fun _=>.int (k:Nat)),(8,fun g=>.lit g)] (fun j' g=>match j' with | 0=>[OB.row wv 182 2 (bs.map bdC)] | _=>[OB.row g 182 2 ((bs++([(⟨(ge ((ge gf.hyps k).text) 1),(ge fs ((ge ag k).toNat)).drop 1⟩:Bd)])).map bdC)]) (fun k' g=>match k' with | 0=>g | 1=>g | _=>undef) [9,10] 2 (.slice none 0 0) (fun _=>Y) h hJ Yo Y Y Y Y Y Y hsb ⟨?_,?_,?_,?_,?_,?_,?_,?_,?_,?_,?_,U⟩ ⟨?e9_1_0,?e9_1_1,U⟩ ⟨.old 1 0 _,.old 2 2 _,.old 3 4 _,.old 4 19 _,.old 5 20 _,.old 6 21 _,.eff 1 10 8 (fun(g:Value)=>g) Y Y (fun _=>Y) (fun _ _ hx=>Zbr (hx.2.1 _ (mo 0 Y))),U⟩ ?n9_1))
    exact oX Y fun hx hl=>ZV Y (hl.env 7 8 _ Y Y) hx
    exact oX Y fun hx hl=>ZG Xb Y (hl.env 0 10 _ Y Y) hx
    exact oX Y fun hx hl=>ZB Qy Y (hl.D 1 53 Y Y) hx
    exact oX Y fun hx hl=>ZM (i:=((1:Nat):Int)) Zj Y (hl.D 2 54 Y Y) (Rel.of_lit (.int .i64 1)) nnn (ZT (xs:=(ge gf.hyps k).text) (k:=1) sfz) Y hx
    exact oX Y fun hx hl=>ZB Qx Y (hl.D 3 55 Y Y) hx
    exact oX Y fun hx hl=>ZV Y (hl.env 8 11 _ Y Y) hx
    exact oX Y fun hx hl=>Zam (ys:=(ge fs ((ge ag k).toNat)).drop 1) (lo:=1) (hi:=(ge fs ((ge ag k).toNat)).length) (by rw[List.take_length]) Zj (fun _=>Y) Y (hl.D 5 57 Y Y) (Rel.of_lit (.int .i64 1)) Y sfz sfz hx
    exact fun _ O' _=>⟨Y,fun a _ _ hx hl _=>XR (us:=[a.eval (.tmp 56),a.eval (.tmp 58)]) Zfm Y yz (Zt (hl.D 4 56 Y Y) (Zt (hl.D 6 58 Y Y) Z0)) Y hx⟩
    exact oY Y fun hk hx hl=>ZcD ZaB ZkP dz Y Y (hl.D 7 59 Y Y) (Zk hS _ hk hx _ nlr) (jo hJ hx)
    exact Zh Y
    exact Zh Y
    case e9_1_0=>exact⟨_,Y,Y,Y,Y,fun _ _ w hk hx hl _=>Zl (ZbU (f:=bdC) bs ([(⟨(ge ((ge gf.hyps k).text) 1),(ge fs ((ge ag k).toNat)).drop 1⟩:Bd)]) (fun _=>rfl) Zfp hJ hJ0 Y hk hx (hl.D 0 52 Y Y).lit (hl.D 8 60 Y Y) (by have:=Zmx gf.hyps (YJ fs ag) 0 k;rw[f1_2];simp;omega) (by have:=Zmx gf.hyps (YJ fs ag) 0 k;rw[f1_2];simp;omega)) fun v w' hp=>⟨v,Y,fun k' hk'=>absurd hk' (Nat.not_lt_zero _),fun _=>rfl,hp⟩⟩
    case e9_1_1=>exact⟨_,Y,Y,Y,Y,fun g _ w hk hx _ hs=>Zl (Zd1 (.inl Y) (hs 0 9 _ 61 oz Y Y Y) hk hx) fun v w' hp=>⟨g,Y,fun _ _=>rfl,fun _=>hp.1,hp.2⟩⟩
    clear a w h
    intro v2
    dsimp only[List.map]
    refine nx (YU tb hJ (r5 [6,1001]) [.int (k+1:Nat),_] [0] U7 Y ⟨YT,U⟩ ?_)
    exact Xk (k+1,v2,bs++([(⟨(ge ((ge gf.hyps k).text) 1),(ge fs ((ge ag k).toNat)).drop 1⟩:Bd)])) (r5 [6,5]) ⟨oz,by rw[Zjj,←f1_2];simp[Zuj,e0,hb2],Z2 f1_3 e5⟩
 ·
  try simp at hb1
  have e6:∀ j,j<gf.hyps.length→ZdY gf.hyps (YJ fs ag) 0 j=true:=fun j hj=>f1_3 j oz
  refine Zu (nx (Zf (tw (fun h=>Ya hS h (m:=6) (s:=8) Y) (tw (sa 0 Y (congrArg (fun z'=>AV.rd (Zgu z')) (show bs=(Ql gf.hyps (YJ fs ag) 0 gf.hyps.length)from by rw[f1_2,show k=gf.hyps.length by omega]))) ?_))))
  refine ZF tb hJ [0,1,2,3,1001,1002,1003] [_,_,.int (gf.hyps.length:Nat),_] [2] U7 Y ⟨Ym ZC,U⟩ ?_
  refine ln 0 fun hl4=>?_
  refine Zd (lpo (ι:=Nat) (fun j=>(j≤gf.hyps.length)∧(∀ i',i'<j→Zsv gf.hyps (YJ fs ag) 0 (Ql gf.hyps (YJ fs ag) 0 gf.hyps.length) i'=true)) (fun _=>[]) (fun j=>[(66,.int (j:Nat))]) (fun j=>gf.hyps.length-j) (r7 []) U6 0 ⟨nzl,fun j hj=>by omega⟩ ?_)
  rintro j ⟨f2_1,f2_2⟩
  refine qso tb hJ (r7 [1000]) [_] U8 ?_
  refine cjS 7 (fun hb4=>?_) fun hb4=>?_
  ·
   try simp at hb4
   have e0:ge (YJ fs ag) j=(ge fs (ge ag j).toNat):=Zfa oz
   have e1:=hag j oz
   refine Zb (nx (Zf (Zd (tsq (snK 1 tb Y (sy (.ptr (hyC (ge gf.hyps j))) (fun h=>ZM (i:=(j:Int)) ZI Y (h.get 5 Y) (h.get 7 Y) nnn (ZT (xs:=gf.hyps) (k:=j) sfz) Y h.x) ?_))))))
   refine snK 1 tb Y (Zv Yy hJ Y Y Y (lb Y) fun b3=>?_)
   refine snK 1 tb Y (Zn (b:=b3) (off:=0) (es:=U3) (news:=U3) hJ hJ0 YQ Y Y Y (lb Y) Y (fun a w h=>⟨(h.get 1 Y),(h.get 2 Y)⟩) ?_)
   refine kw (fun h=>ZP hS h (m:=1) (s:=13) Y) (seK [0,1,5,6,7,8,9,10,11] U9 Y ?_)
   refine nx (ZF tb hJ [2,3,4,5,6,7,8,1019] (V8 [.at bc 0,.at bc 4,.lit fv,_,_,.ptr [lI (ge ag j)],_,.lit (YG fv (((ge ag j).toNat)*1)),.rd (Zg (ge fs ((ge ag j).toNat))),.bool (fitB ((ge gf.hyps j).text) (Ql gf.hyps (YJ fs ag) 0 gf.hyps.length) (ge fs ((ge ag j).toNat))),_,_]) [8,9,10,13,15,16,17] U8 Y ⟨fun _ _ _ hx hl hc=>Z9 Y (hl.D 7 78 Y hc) hx,fun _ _ _ hx hl hc=>Zx XH Y (hl.D 8 79 Y hc) hx,fun _ _ hk hx hl hc=>Zo ZeI Y (ZJ hH hk hx (mo 0 Y)) (hl.D 9 80 Y hc) Y hx,gIx Zw (hk:=fun(hc':((!((ge gf.hyps j).floating))==true)=true)=>by(try simp at hc');first | omega | (simp;omega) | grind[Zp]),fun _ _ hk hx hl hc=>ZU (i:=(ge ag j)) Z8 Y (ZJ hH hk hx (mo 1 Y)) (hl.D 10 81 Y hc) (hl.D 14 85 Y hc) (by have hc':((!((ge gf.hyps j).floating))==true)=true:=hc;(try simp at hc');(first | omega | (simp;omega) | grind[Zp])) (by rw[List.length_map];exact(by have hc':((!((ge gf.hyps j).floating))==true)=true:=hc;(try simp at hc');(first | omega | (simp;omega) | grind[Zp]))) hx,fun _ _ hk hx hl hc=>X6 (i:=(ge ag j).toNat) Qy Y (ZJ hH hk hx (mo 1 Y)) (hl.D 15 86 Y hc) (Qc (xs:=fs) (k:=(ge ag j).toNat) (by have hc':((!((ge gf.hyps j).floating))==true)=true:=hc;(try simp at hc');(first | omega | (simp;omega) | grind[Zp]))) hx,iFo hS hJ (p_Fits hJ ((ge gf.hyps j).text) (Ql gf.hyps (YJ fs ag) 0 gf.hyps.length) (ge fs ((ge ag j).toNat))) Zt9,U⟩ ?_)
   refine cj 7 (fun hb5=>?_) fun hb5=>?_
   ·
    have e7:Zsv gf.hyps (YJ fs ag) 0 (Ql gf.hyps (YJ fs ag) 0 gf.hyps.length) j=false:=by simp only[Zsv,Nat.zero_add,e0];simpa using hb5
    have eU:(Zb4 d.vars (ge d.frames i).wide gf (YJ fs ag))=([],25):=ux_25 e6 oz e7
    refine qso tb hJ [1000,1001] U2 U2 ?_
    exact tw (fun h=>Xx h (m:=0) (s:=6) Y) (Zs (fun a w h=>Yz (m:=0) (k:=1) Y (ZY h) Y Y (congrArg (fun z=>AV.rd (Zg z)) (show([]:List BA)=((Zb4 d.vars (ge d.frames i).wide gf (YJ fs ag)).1)from by first | (rw[eU];done) | (rw[eU,if_neg (by simp[e9])]))) (eI (by first | (rw[eU];done) | (rw[eU,if_neg (by simp[e9])])))))
   ·
    refine Zb (nx (YU tb hJ (r6 [1001]) [.int (j+1:Nat),_] [0] U7 Y ⟨YT,U⟩ ?_))
    exact Xk (j+1) (r7 []) ⟨oz,Z2 f2_2 (by cases h9:(ge gf.hyps j).floating<;>simp_all[Zsv])⟩
  ·
   try simp at hb4
   have e8:∀ j,j<gf.hyps.length→Zsv gf.hyps (YJ fs ag) 0 (Ql gf.hyps (YJ fs ag) 0 gf.hyps.length) j=true:=fun j hj=>f2_2 j oz
   refine Zu (nx (ZF tb hJ [0,1,3,1001,1005,1007,1008] (V3 [.tup [.rd (Zg (if XZ (ZQ (Ql gf.hyps (YJ fs ag) 0 gf.hyps.length)) gf.text 2000 then Xp (ZQ (Ql gf.hyps (YJ fs ag) 0 gf.hyps.length)) gf.text else [])),.int (if XZ (ZQ (Ql gf.hyps (YJ fs ag) 0 gf.hyps.length)) gf.text 2000 then 0 else 15)],_,_,_,_,_]) [3] U7 Y ⟨iFo hS hJ (Zik hJ gf.text (Ql gf.hyps (YJ fs ag) 0 gf.hyps.length) 2000 sfz (Zji (fun t ht=>(het t ht).2) oz)) Zmu,U⟩ ?_))
   refine ln 3 fun hl5=>?_
   refine ln 4 fun hl6=>?_
   refine Zf (qso tb hJ [0,1,2,5,1001] U2 U5 ?_)
   refine cj 4 (fun hb6=>?_) fun hb6=>?_
   ·
    try simp at hb6
    have e9:XZ (ZQ (Ql gf.hyps (YJ fs ag) 0 gf.hyps.length)) gf.text 2000=false:=by cases h9:XZ (ZQ (Ql gf.hyps (YJ fs ag) 0 gf.hyps.length)) gf.text 2000<;>simp_all
    have eU:(Zb4 d.vars (ge d.frames i).wide gf (YJ fs ag))=([],15):=ux_15 e6 e8 e9
    refine qso tb hJ [1000,1001] U2 U2 ?_
    exact tw (fun h=>Xx h (m:=0) (s:=6) Y) (Zs (fun a w h=>Yz (m:=0) (k:=1) Y (ZY h) Y Y (congrArg (fun z=>AV.rd (Zg z)) (show([]:List BA)=((Zb4 d.vars (ge d.frames i).wide gf (YJ fs ag)).1)from by first | (rw[eU];done) | (rw[eU,if_neg (by simp[e9])]))) (eI (by first | (rw[eU];done) | (rw[eU,if_neg (by simp[e9])])))))
   ·
    try simp at hb6
    have e9:XZ (ZQ (Ql gf.hyps (YJ fs ag) 0 gf.hyps.length)) gf.text 2000=true:=by cases h9:XZ (ZQ (Ql gf.hyps (YJ fs ag) 0 gf.hyps.length)) gf.text 2000<;>simp_all
    refine tw (sa 3 Y (show(.rd (Zg (if XZ (ZQ (Ql gf.hyps (YJ fs ag) 0 gf.hyps.length)) gf.text 2000 then Xp (ZQ (Ql gf.hyps (YJ fs ag) 0 gf.hyps.length)) gf.text else [])):AV)= .rd (Zg (Xp (ZQ (Ql gf.hyps (YJ fs ag) 0 gf.hyps.length)) gf.text))from by rw[if_pos e9])) (Zb (nx (ln 3 fun hl7=>?_)))
    refine Zf (Zf (fun a w h=>YH (γ:=Nat) (fun ix'=>([.rd (Zgu (Ql gf.hyps (YJ fs ag) 0 gf.hyps.length)),.ptr [X8 gf.apart,Zg gf.text,XQ gf.dummies,X8 gf.wide,Zg gf.proof],.rd (X8 gf.apart),.at bc 0,.at bc 0,.at bc 0,.at bc 1,.rd (Zg d.vars),.at bc 0,.at bc 0,.at bc 0,.at bc 2,.rd (ZaU d.frames),.at bc 0,.at bc 0,.at bc 3,.int (i:Nat),.ptr (frC (ge d.frames i)),.ptr [X8 ((ge d.frames i).wide),Zg ((ge d.frames i).proof)],.rd (X8 ((ge d.frames i).wide)),.tup [.agg (prC (Zjf (Ql gf.hyps (YJ fs ag) 0 gf.hyps.length) gf.apart d.vars ((ge d.frames i).wide))),.bool (ZfE (Ql gf.hyps (YJ fs ag) 0 gf.hyps.length) gf.apart d.vars ((ge d.frames i).wide))],.tup [.agg (prC (Zjf (Ql gf.hyps (YJ fs ag) 0 gf.hyps.length) gf.apart d.vars ((ge d.frames i).wide))),.bool (ZfE (Ql gf.hyps (YJ fs ag) 0 gf.hyps.length) gf.apart d.vars ((ge d.frames i).wide))],.agg (prC (Zjf (Ql gf.hyps (YJ fs ag) 0 gf.hyps.length) gf.apart d.vars ((ge d.frames i).wide))),.bool (ZfE (Ql gf.hyps (YJ fs ag) 0 gf.hyps.length) gf.apart d.vars ((ge d.frames i).wide)),.any,.any,.bool (ZfE (Ql gf.hyps (YJ fs ag) 0 gf.hyps.length) gf.apart d.vars ((ge d.frames i).wide))]:List AV).getD ix' .any) (fun _=>true) [(14,fun _=>.rd (Zg (Xp (ZQ (Ql gf.hyps (YJ fs ag) 0 gf.hyps.length)) gf.text))),(17,fun _=>.bool (ZfE (Ql gf.hyps (YJ fs ag) 0 gf.hyps.length) gf.apart d.vars ((ge d.frames i).wide)))] (fun j' g=>match j' with | 0=>[] | 1=>[OB.var g [lS (⟨#[]⟩:BA),lS (⟨#[]⟩:BA)]] | _=>[OB.var g (prC (Zjf (Ql gf.hyps (YJ fs ag) 0 gf.hyps.length) gf.apart d.vars ((ge d.frames i).wide)))]) (fun k' g=>match k' with | 0=>(.pointer (some ⟨g,0,none⟩)) | _=>undef) [24,25] 2 0 (fun _=>Y) h hJ Yo Y Y Y Y Y Y hsb ⟨?_,?_,?_,?_,?_,?_,?_,?_,?_,?_,?_,?_,?_,?_,?_,?_,?_,?_,?_,?_,?_,?_,?_,?_,?_,?_,?_,U⟩ ⟨?e20_2_0,?e20_2_1,U⟩ ⟨.old 3 14 _,.new 26 17 _,U⟩ ?n20_2))
    exact oX Y fun hx hl=>ZV Y (hl.env 0 8 _ Y Y) hx
    exact oX Y fun hx hl=>ZG Zgi Y (hl.env 2 4 _ Y Y) hx
    exact oX Y fun hx hl=>ZB ZlF Y (hl.D 1 103 Y Y) hx
    exact oX Y fun hx hl=>ZV Y (hl.env 1 0 _ Y Y) hx
    exact oX Y fun hx hl=>Z9 Y (hl.D 3 105 Y Y) hx
    exact oX Y fun hx hl=>Zx Qr Y (hl.D 4 106 Y Y) hx
    exact oX Y fun hx hl=>Zx Zgk Y (hl.D 5 107 Y Y) hx
    exact oY Y fun hk hx hl=>Zo Qy Y (ZJ hH hk hx (mo 0 Y)) (hl.D 6 108 Y Y) Y hx
    exact oX Y fun hx hl=>ZV Y (hl.env 1 0 _ Y Y) hx
    exact oX Y fun hx hl=>Z9 Y (hl.D 8 110 Y Y) hx
    exact oX Y fun hx hl=>Zx Qr Y (hl.D 9 111 Y Y) hx
    exact oX Y fun hx hl=>Zx ZaV Y (hl.D 10 112 Y Y) hx
    exact oY Y fun hk hx hl=>Zo Zis Y (ZJ hH hk hx (mo 0 Y)) (hl.D 11 113 Y Y) Y hx
    exact oX Y fun hx hl=>ZV Y (hl.env 1 0 _ Y Y) hx
    exact oX Y fun hx hl=>Z9 Y (hl.D 13 115 Y Y) hx
    exact oX Y fun hx hl=>Zx Zcj Y (hl.D 14 116 Y Y) hx
    exact oY Y fun hk hx hl=>Zo Q2 Y (ZJ hH hk hx (mo 0 Y)) (hl.D 15 117 Y Y) Y hx
    exact oX Y fun hx hl=>ZM (i:=(i:Int)) Yu Y (hl.D 12 114 Y Y) (hl.D 16 118 Y Y) nnn (ZT (xs:=d.frames) (k:=i) sfz) Y hx
    exact oX Y fun hx hl=>ZG Zgh Y (hl.D 17 119 Y Y) hx
    exact oX Y fun hx hl=>ZB ZlF Y (hl.D 18 120 Y Y) hx
    exact oY Y fun hk hx hl=>ZaL (ZlC hJ (Ql gf.hyps (YJ fs ag) 0 gf.hyps.length) gf.apart d.vars ((ge d.frames i).wide) (Zji (fun t ht=>(het t ht).2) oz) (by exact hwd)) ZqL Y (Zk hS _ hk hx) (hx.1) (Za (hl.D 0 102 Y Y) (Za (hl.D 2 104 Y Y) (Za (hl.D 7 109 Y Y) (Za (hl.D 19 121 Y Y) Zc)))) (jo hJ hx)
    exact oX Y fun hx hl=>ZV Y (hl.D 20 122 Y Y) hx
    exact oX Y fun hx hl=>Yx Y (hl.D 21 101 Y Y) Y hx
    exact oX Y fun hx hl=>Yx Y (hl.D 21 101 Y Y) Y hx
    exact Zh Y
    exact Zh Y
    exact oX Y fun hx hl=>YA Y (hl.D 23 124 Y Y) hx
    case e20_2_0=>exact⟨_,Y,Y,Y,Y,fun g _ w hk hx _ _=>Zl (Qs X0 hJ Y hk hx) fun v w' ⟨g',hv,hp⟩=>⟨g',Y,fun k' hk'=>absurd hk' (Nat.not_lt_zero _),fun _=>hv,hp⟩⟩
    case e20_2_1=>exact⟨_,Y,Y,Y,Y,fun g a w hk hx hl hs=>(by obtain⟨us2,hv2,hr3⟩:=Q0 (hl.D 22 123 Y Y);exact Zl (Xz (S':=S) (off:=0) (news:=U2) (es:=U2) (us:=us2) hJ hJ0 Xj Y hk hx (ZcA (hs 0 24 _ 16 oz Y Y Y)) (by rw[hv2];rfl) hr3 (lb Y) Y) fun v w' hp=>⟨g,Y,fun _ _=>rfl,fun e=>(by cases e),hp⟩)⟩
    clear a w h
    intro b4
    dsimp only[List.map]
    refine kw Zz (nx (ln 0 fun hl8=>?_))
    refine qso tb hJ [0,1000] [_] U2 ?_
    refine cj 1 (fun hb7=>?_) fun hb7=>?_
    ·
     try simp at hb7
     have eU:(Zb4 d.vars (ge d.frames i).wide gf (YJ fs ag))=([],26):=ux_26 e6 e8 e9 hb7
     refine qso tb hJ [1000,1001] U2 U2 ?_
     exact tw (fun h=>Xx h (m:=0) (s:=6) Y) (Zs (fun a w h=>Yz (m:=0) (k:=1) Y (ZY h) Y Y (congrArg (fun z=>AV.rd (Zg z)) (show([]:List BA)=((Zb4 d.vars (ge d.frames i).wide gf (YJ fs ag)).1)from by first | (rw[eU];done) | (rw[eU,if_neg (by simp[e9])]))) (eI (by first | (rw[eU];done) | (rw[eU,if_neg (by simp[e9])])))))
    ·
     try simp at hb7
     have eU:(Zb4 d.vars (ge d.frames i).wide gf (YJ fs ag))=(Xp (ZQ (Ql gf.hyps (YJ fs ag) 0 gf.hyps.length)) gf.text,0):=ux_ok e6 e8 e9 hb7
     refine Zb (nx (qso tb hJ [1001,1002] U3 U2 ?_))
     exact Zs (fun a w h=>Yz (m:=0) (k:=1) Y (ZY h) Y Y (congrArg (fun z=>AV.rd (Zg z)) (show(Xp (ZQ (Ql gf.hyps (YJ fs ag) 0 gf.hyps.length)) gf.text)=((Zb4 d.vars (ge d.frames i).wide gf (YJ fs ag)).1)from by first | (rw[eU];done) | (rw[eU,if_neg (by simp[e9])]))) (eI (by first | (rw[eU];done) | (rw[eU,if_neg (by simp[e9])]))))
section
variable {J:WP} (hJ:Stab J)
include hJ
theorem Zwl (f:Fr) (s:BA)  :Fn Tryz.prog J 93 [.agg (frC f),.ptr [lS s]] (.bool (decide (f.label=s))):=by
 refine fE Tryz.func93 fun S w0 hS hJ0=>?_
 clear hJ0
 refine hqs tb hJ [1,1000] [.ptr (frC f),_] [0] U2 Y ⟨iBs hS hJ,U⟩ ?_
 refine qs tb hJ [1004] U5 [_] ?_
 exact tRn 0 (hE:=Y)
theorem ZuR (d:Db) (s:BA)  :Fn Tryz.prog J 67 [.agg (dbC d),.str s] (.int (Yk d s)):=by
 refine fE Tryz.func67 fun S w0 hS hJ0=>?_
 clear hJ0
 refine hqs tb hJ [1000,1001] [.ptr (dbC d),.ptr [lS s],_] [0,1] U2 Y ⟨iBs hS hJ,fun _ _ hk hx hl _=>ZaM Y (hl.env 1 1 _ Y Y) (hS _ hk.size) (js hJ hx),U⟩ ?_
 refine hqs tb hJ [1001,1004] [_,_,.fn 93 [.ptr [lS s]],.int (Qj (fun(f':Fr)=>decide (f'.label=s)) d.frames),_] [2,3] U2 Y ⟨fun _ _ _ hx hl _=>YR (caps:=[(.tmp 3)]) Y (Za (hl.env 1 3 _ Y Y) Zc) hx,fun _ _ hk hx hl _=>Y3 (Zdz hJ d.frames 93 [.ptr [lS s]] [] (fun(f':Fr)=>decide (f'.label=s)) (fun q'=>(Zwl hJ q' s).r) (Zxn)) ZqT Y (nm hS hk) (hx) Zq (Za (hl.D 1 6 Y Y) (Za (hl.D 2 7 Y Y) Zc)) (js hJ hx),U⟩ ?_
 refine ln 0 fun hl1=>?_
 exact tRn 1 (hE:=eI (Y))
theorem Zni (bc:Nat) (d:Db) (i:Nat) (fv:Value) (fs:List (List BA)) (s:Stp) (hi:i<d.frames.length) (hck:ZcU d=0) (hfs:∀ t∈fs,1≤t.length∧t.length≤2000) (hag:∀ j,j<s.args.length→0≤ge s.args j∧ge s.args j< (fs.length:Int)) (hwd:(ge d.frames i).wide.length*32≤140737488351232):FnR Tryz.prog J 57 [OB.var bc [Zg d.consts,Zg d.vars,ZaU d.frames,lI (i:Int),.lit fv],OB.row fv 22 1 (fs.map Zen)] [.at bc 0,.agg (spC s)] (.tup [.rd (Zg ((ZaI d i s fs).1)),.int ((ZaI d i s fs).2)]):=by
 refine fER Tryz.func57 fun S w0 hS hJ0 hH=>?_
 refine tw Z4 ?_
 have hgh:ZwT (ge d.frames i):=(ZcT hck _ (Zp hi)).2.2
 refine ZF tb hJ [0,1000] [.ptr (spC s),_,_] [0] U2 Y ⟨iBo hS hJ,U⟩ ?_
 refine Zf (qso tb hJ [0,1,1002] U3 U3 ?_)
 refine cj 2 (fun hb1=>?_) fun hb1=>?_
 ·
  have eU:=sg_27 (d:=d) (i:=i) (s:=s) (a:=fs) (by simpa using hb1)
  refine qso tb hJ [1000,1001] U2 U2 ?_
  exact tw (fun h=>Xx h (m:=0) (s:=4) Y) (Zs (fun a w h=>Yz (m:=0) (k:=1) Y (ZY h) Y Y (congrArg (fun z=>AV.rd (Zg z)) (show([]:List BA)=((ZaI d i s fs).1)from by rw[eU])) (eI (by rw[eU]))))
 ·
  have h0:¬ s.label=⟨#[63]⟩:=by simpa using hb1
  refine Zb (nx (Zf (Zf (fun a w h=>YH (γ:=Nat) (fun ix'=>([.at bc 0,.at bc 0,.at bc 0,.at bc 2,.rd (ZaU d.frames),.at bc 0,.at bc 0,.at bc 3,.int (i:Nat),.ptr (frC (ge d.frames i)),.agg (frC (ge d.frames i)),.ptr (spC s),.str s.label,.tup [.agg (hyC ((ZbA (ge d.frames i) s.label).getD default)),.bool ((ZbA (ge d.frames i) s.label).isSome)],.tup [.agg (hyC ((ZbA (ge d.frames i) s.label).getD default)),.bool ((ZbA (ge d.frames i) s.label).isSome)],.agg (hyC ((ZbA (ge d.frames i) s.label).getD default)),.bool ((ZbA (ge d.frames i) s.label).isSome),.any,.any,.bool ((ZbA (ge d.frames i) s.label).isSome)]:List AV).getD ix' .any) (fun _=>true) [(0,fun _=>.at bc 0),(3,fun _=>.ptr (spC s)),(6,fun g=>.at g 0),(7,fun _=>.bool ((ZbA (ge d.frames i) s.label).isSome))] (fun j' g=>match j' with | 0=>[] | 1=>[OB.var g [lS (⟨#[]⟩:BA),lB false,Zg ([]:List BA)]] | _=>[OB.var g (hyC ((ZbA (ge d.frames i) s.label).getD default))]) (fun k' g=>match k' with | 0=>(.pointer (some ⟨g,0,none⟩)) | _=>undef) [17,18] 2 0 (fun _=>Y) h hJ Yo Y Y Y Y Y Y hsb ⟨?_,?_,?_,?_,?_,?_,?_,?_,?_,?_,?_,?_,?_,?_,?_,?_,?_,?_,?_,?_,U⟩ ⟨?e3_1_0,?e3_1_1,U⟩ ⟨.old 0 0 _,.old 1 3 _,.eff 0 17 6 (fun g=>(.pointer (some ⟨g,0,none⟩))) Y Y (fun _=>Y) (fun _=>True.intro),.new 19 7 _,U⟩ ?n3_1))))
  exact oX Y fun hx hl=>ZV Y (hl.env 0 0 _ Y Y) hx
  exact oX Y fun hx hl=>Z9 Y (hl.D 0 13 Y Y) hx
  exact oX Y fun hx hl=>Zx Qr Y (hl.D 1 14 Y Y) hx
  exact oX Y fun hx hl=>Zx ZaV Y (hl.D 2 15 Y Y) hx
  exact oY Y fun hk hx hl=>Zo Zis Y (ZJ hH hk hx (mo 0 Y)) (hl.D 3 16 Y Y) Y hx
  exact oX Y fun hx hl=>ZV Y (hl.env 0 0 _ Y Y) hx
  exact oX Y fun hx hl=>Z9 Y (hl.D 5 18 Y Y) hx
  exact oX Y fun hx hl=>Zx Zcj Y (hl.D 6 19 Y Y) hx
  exact oY Y fun hk hx hl=>Zo Q2 Y (ZJ hH hk hx (mo 0 Y)) (hl.D 7 20 Y Y) Y hx
  exact oX Y fun hx hl=>ZM (i:=(i:Int)) Yu Y (hl.D 4 17 Y Y) (hl.D 8 21 Y Y) nnn (ZT (xs:=d.frames) (k:=i) sfz) Y hx
  exact oX Y fun hx hl=>QG ZbY Y (hl.D 9 22 Y Y) nlr hx
  exact oX Y fun hx hl=>ZG Znz Y (hl.env 1 3 _ Y Y) hx
  exact oX Y fun hx hl=>ZB Qx Y (hl.D 11 24 Y Y) hx
  exact oY Y fun hk hx hl=>ZaL (p_Hyp hJ (ge d.frames i) s.label (by exact fun h hh=>(hgh h hh).2)) Zxt Y (Zk hS _ hk hx) (hx.1) (Za (hl.D 10 23 Y Y) (Za (hl.D 12 25 Y Y) Zc)) (jo hJ hx)
  exact oX Y fun hx hl=>ZV Y (hl.D 13 26 Y Y) hx
  exact oX Y fun hx hl=>Yx Y (hl.D 14 12 Y Y) Y hx
  exact oX Y fun hx hl=>Yx Y (hl.D 14 12 Y Y) Y hx
  exact Zh Y
  exact Zh Y
  exact oX Y fun hx hl=>YA Y (hl.D 16 28 Y Y) hx
  case e3_1_0=>exact⟨_,Y,Y,Y,Y,fun g _ w hk hx _ _=>Zl (Qs Yy hJ Y hk hx) fun v w' ⟨g',hv,hp⟩=>⟨g',Y,fun k' hk'=>absurd hk' (Nat.not_lt_zero _),fun _=>hv,hp⟩⟩
  case e3_1_1=>exact⟨_,Y,Y,Y,Y,fun g _ w hk hx hl hs=>(by obtain⟨us2,hv2,hr3⟩:=Q0 (hl.D 15 27 Y Y);exact Zl (Xz (S':=S) (off:=0) (news:=U3) (es:=U3) (us:=us2) hJ hJ0 YQ Y hk hx (ZcA (hs 0 17 _ 6 oz Y Y Y)) (by rw[hv2];rfl) hr3 (lb Y) Y) fun v w' hp=>⟨g,Y,fun _ _=>rfl,fun e=>(by cases e),hp⟩)⟩
  clear a w h
  intro b1
  dsimp only[List.map]
  refine kw (fun h=>ZP hS h (m:=2) (s:=6) Y) (nx (qso tb hJ [0,1,2,1000] [_] U4 ?_))
  refine cj 3 (fun hb2=>?_) fun hb2=>?_
  ·
   refine Zf (ZF tb hJ [0,1001,1003] [_,_,.int (s.args.length:Nat),_] [2] U3 Y ⟨Ym YL,U⟩ ?_)
   refine ln 1 fun hl1=>?_
   refine cj 2 (fun hb3=>?_) fun hb3=>?_
   ·
    try simp at hb3
    have eU:=sg_h23 (a:=fs) h0 hb2 oz
    refine qso tb hJ [1000,1001] U2 U2 ?_
    exact tw (fun h=>Xx h (m:=0) (s:=4) Y) (Zs (fun a w h=>Yz (m:=0) (k:=1) Y (ZY h) Y Y (congrArg (fun z=>AV.rd (Zg z)) (show([]:List BA)=((ZaI d i s fs).1)from by rw[eU])) (eI (by rw[eU]))))
   ·
    try simp at hb3
    have eU:=sg_hyp (a:=fs) h0 hb2 (by simpa using hb3)
    have e3:(((ZbA (ge d.frames i) s.label).getD default).text).length≤2000:=by obtain⟨y,hy⟩:=Option.isSome_iff_exists.1 hb2;rw[hy];exact(hgh y (List.mem_of_find?_eq_some hy)).2
    refine Zb (nx (tsq (snK 2 tb Y (QK (O:=[]) (R:=[]) (ZlA hJ (((ZbA (ge d.frames i) s.label).getD default).text) oz) ZqM Y Y Y (lb Y) hS hJ0 Zq (fun a w h=>(Za (h.get 0 Y) Zc)) fun z2=>?_))))
    refine snK 2 tb Y (seK [0,1,3] U3 Y ?_)
    refine nx (ln 2 fun hl2=>?_)
    exact tw (fun h=>Ya hS h (m:=1) (s:=4) Y) (Zs (fun a w h=>Yz (m:=0) (k:=1) Y (ZY h) Y Y (congrArg (fun z=>AV.rd (Zg z)) (show(((ZbA (ge d.frames i) s.label).getD default).text)=((ZaI d i s fs).1)from by rw[eU])) (eI (by rw[eU]))))
  ·
   have e2:(ZbA (ge d.frames i) s.label)=none:=by cases h9:(ZbA (ge d.frames i) s.label)with | none=>rfl | some y=>rw[h9]at hb2;cases hb2
   refine Zb (nx (ZF tb hJ [1,2,1007] [_,.at bc 0,.at bc 0,.agg (dbC d),_,_,.int (Yk d s.label),_] [1,2,3,6] U3 Y ⟨fun _ _ _ hx hl _=>Z9 Y (hl.D 0 37 Y Y) hx,fun _ _ _ hx hl _=>Zx Qr Y (hl.D 1 38 Y Y) hx,fun _ _ hk hx hl _=>Yb (ds:=[Zg d.consts,Zg d.vars,ZaU d.frames]) ZhD Y (ZJ hH hk hx (mo 0 Y)) (hl.D 2 39 Y Y) Y Y hx,iFo hS hJ (ZuR hJ d s.label) ZqQ,U⟩ ?_))
   refine Zf (Zd (ZF tb hJ [0,1,2,1010] (V5 [.at bc 0,.at bc 3,.int (i:Nat),_,_,_]) [5,6,7] U4 Y ⟨fun _ _ _ hx hl hc=>Z9 Y (hl.D 4 49 Y hc) hx,fun _ _ _ hx hl hc=>Zx Zcj Y (hl.D 5 50 Y hc) hx,fun _ _ hk hx hl hc=>Zo Q2 Y (ZJ hH hk hx (mo 0 Y)) (hl.D 6 51 Y hc) Y hx,U⟩ ?_))
   refine cj 3 (fun hb4=>?_) fun hb4=>?_
   ·
    have eU:=sg_22 (a:=fs) h0 e2 (show(Y9 d i s.label)<0 by rw[Zs6 oz (by simpa [-Int.not_lt]using hb4)];decide)
    refine qso tb hJ [1000,1001] U2 U2 ?_
    exact tw (fun h=>Xx h (m:=0) (s:=4) Y) (Zs (fun a w h=>Yz (m:=0) (k:=1) Y (ZY h) Y Y (congrArg (fun z=>AV.rd (Zg z)) (show([]:List BA)=((ZaI d i s fs).1)from by rw[eU])) (eI (by rw[eU]))))
   ·
    have e4:¬ Yk d s.label<0∧Yk d s.label< (i:Int):=by simp only[Bool.or_eq_false_iff,decide_eq_false_iff_not]at hb4;omega
    have e7:=Zqj (d:=d) (i:=i) oz e4.1 e4.2
    have e5:=ZhB (d:=d) (i:=i) (s:=s.label) oz
    have e6:=ZcT hck _ (Zp e5.2.2)
    refine tw (sa 2 Y (show(.int (Yk d s.label):AV)= .int ((Y9 d i s.label).toNat:Nat)from congrArg AV.int oz)) (ZF tb hJ [0,1,2,1001,1007,1011,1014] [_,_,.int (s.args.length:Nat),_,.at bc 0,.at bc 0,.at bc 2,.rd (ZaU d.frames),_,.ptr (frC (ge d.frames ((Y9 d i s.label).toNat))),_,_,.int (((ge d.frames ((Y9 d i s.label).toNat)).hyps).length:Nat),_,_] [2,4,5,6,7,9,12] U7 Y ⟨Ym YL,fun _ _ _ hx hl _=>Z9 Y (hl.D 3 59 Y Y) hx,fun _ _ _ hx hl _=>Zx Qr Y (hl.D 4 60 Y Y) hx,fun _ _ _ hx hl _=>Zx ZaV Y (hl.D 5 61 Y Y) hx,fun _ _ hk hx hl _=>Zo Zis Y (ZJ hH hk hx (mo 0 Y)) (hl.D 6 62 Y Y) Y hx,iIx Yu,Ym ZC,U⟩ ?_)
    refine ln 3 fun hl3=>?_
    refine ln 4 fun hl4=>?_
    refine ln 5 fun hl5=>?_
    refine cj 6 (fun hb5=>?_) fun hb5=>?_
    ·
     try simp at hb5
     have eU:=sg_23 (a:=fs) h0 e2 oz oz
     refine qso tb hJ [1000,1001] U2 U2 ?_
     exact tw (fun h=>Xx h (m:=0) (s:=4) Y) (Zs (fun a w h=>Yz (m:=0) (k:=1) Y (ZY h) Y Y (congrArg (fun z=>AV.rd (Zg z)) (show([]:List BA)=((ZaI d i s fs).1)from by rw[eU])) (eI (by rw[eU]))))
    ·
     try simp at hb5
     have eU:=sg_use (a:=fs) h0 e2 oz (show s.args.length=(ge d.frames (Y9 d i s.label).toNat).hyps.length by omega)
     refine Zb (nx (ZF tb hJ [1012,1014,1015] [_,_,.at bc 0,.at bc 0,.at bc 2,.rd (ZaU d.frames),_,.ptr (frC (ge d.frames ((Y9 d i s.label).toNat))),_,_,_,.tup [.rd (Zg ((Zb4 d.vars (ge d.frames i).wide (ge d.frames ((Y9 d i s.label).toNat)) (YJ fs s.args)).1)),.int ((Zb4 d.vars (ge d.frames i).wide (ge d.frames ((Y9 d i s.label).toNat)) (YJ fs s.args)).2)],_,_,_,_] [2,3,4,5,7,11] U3 Y ⟨fun _ _ _ hx hl _=>Z9 Y (hl.D 1 71 Y Y) hx,fun _ _ _ hx hl _=>Zx Qr Y (hl.D 2 72 Y Y) hx,fun _ _ _ hx hl _=>Zx ZaV Y (hl.D 3 73 Y Y) hx,fun _ _ hk hx hl _=>Zo Zis Y (ZJ hH hk hx (mo 0 Y)) (hl.D 4 74 Y Y) Y hx,iIx Yu,fun _ _ hk hx hl _=>Y3 (p_useG hJ bc d i fv fs (ge d.frames ((Y9 d i s.label).toNat)) s.args (by exact hi) (by exact hfs) (by exact hag) oz (by exact e6.1.2) (by exact e6.1.1) (by exact hwd)) Zxs Y (Zk hS _ hk hx) (hx.1) (ZH (ZJ hH hk hx (mo 0 Y)) (ZH (ZJ hH hk hx (mo 1 Y)) Zq)) (Za (hl.D 0 70 Y Y) (Za (hl.D 8 78 Y Y) (Za (hl.D 10 80 Y Y) Zc))) (jo hJ hx),U⟩ ?_))
     refine ln 0 fun hl6=>?_
     exact Zs (fun a w h=>Yz (m:=1) (k:=2) Y (ZY h) Y Y (congrArg (fun z=>AV.rd (Zg z)) (show((Zb4 d.vars (ge d.frames i).wide (ge d.frames ((Y9 d i s.label).toNat)) (YJ fs s.args)).1)=((ZaI d i s fs).1)from by rw[eU])) (eI (by rw[eU])))
end
theorem Zfn:ZdH Tryz.prog 64 [.int .i64 0,.int .i64 0]:=⟨fun i=>(#[(0,1),(1,1)]:Array (Nat×Nat))[i]?,fun j hj=>by rcases j with _ | _ | j<;>first | rfl | (simp at hj;omega) | simp at hj,fun parts=>by kernel_rfl⟩
theorem ZkL:Zrf Tryz.prog 113:=fun x y z i=>by kernel_rfl
theorem Zgr:Zb9 Tryz.prog 64 2:=⟨#[.int .i64 0,.int .i64 0],Y,fun i=>(#[(0,1),(1,1)]:Array (Nat×Nat))[i]?,fun j hj=>by rcases j with _ | _ | j<;>first | rfl | omega,fun parts=>by kernel_rfl⟩
theorem ZgQ {J:WP} (hJ:Stab J) (d:Db) (z:Int) (ss:List Stp) (hw:∀ f∈d.frames,f.wide.length*32≤140737488351232) (hG:Xm J):Fn Tryz.prog J 27 [.agg (dbC d),.int z,.agg (pfC ss)] (.tup [.rd (Yc ((Yq d z ss).1)),.agg (vdC ((Yq d z ss).2)),.int (ZfC d z ss)]):=by
 refine fE Tryz.func27 fun S w0 hS hJ0=>?_
 refine tw Z4 (tsq ?_)
 refine sy (.ptr (dbC d)) (fun h=>Q1 Y (h.get 0 Y) (Zk hS _ h.keep h.x _ nlr) (jo hJ h.x)) ?_
 refine sy (.ptr (pfC ss)) (fun h=>Q1 Y (h.get 3 Y) (Zk hS _ h.keep h.x _ nlr) (jo hJ h.x)) ?_
 refine snK 1 tb (env':=[(6,_),(5,_),(3,_),(0,_),(1,_),(2,_)]) Y (Zv ZbI hJ Y Y Y (lb Y) fun b1=>?_)
 refine snK 1 tb (env':=[(8,_),(7,_),(6,_),(5,_),(3,_),(0,_),(1,_),(2,_)]) Y (seK [1,3,4,6] U4 Y ?_)
 refine nx (Zf (ZF tb hJ [0,1,2,3,1004] (V3 [.int (ZfC d z ss),_]) [3] U5 Y ⟨iFo hS hJ (ZgV hJ d z ss (by exact hw) (by exact hG)) ZkA,U⟩ ?_))
 refine qso tb hJ (r5 [1001]) U2 U6 ?_
 refine cj 5 (fun hb1=>?_) fun hb1=>?_
 ·
  try simp at hb1
  have eU:Yq d z ss=([],(0,0)):=if_neg (by simpa using hb1)
  refine tsq (sy (.agg (vdC (⟨0,0⟩:Int×Int))) (fun h=>Y7 (ps:=[]) (us:=[.int .i64 0,.int .i64 0]) Zfn Y yz Zjr Y (X1 (.lit _ True.intro) (X1 (.lit _ True.intro) Z0)) h.x) ?_)
  refine snK 2 tb (env':=[(6,_),(23,_),(22,_),(7,_),(5,_),(3,_),(1,_),(9,_),(21,_)]) Y (Zn (b:=b1) (off:=0) (es:=U2) (news:=U2) hJ hJ0 QX Y Y Y (lb Y) Y (fun a w h=>⟨(h.get 3 Y),(h.get 2 Y)⟩) ?_)
  refine snK 1 tb (env':=[(8,_),(6,_),(23,_),(22,_),(7,_),(5,_),(3,_),(1,_),(9,_),(21,_)]) Y (seK [0,1,4] U3 Y ?_)
  exact nx (tw (fun h=>Xx h (m:=1) (s:=6) Y) (Zs (fun a w h=>Zg5 (cs:=[lI ((⟨0,0⟩:Int×Int).1),lI ((⟨0,0⟩:Int×Int).2)]) (m:=2) (q:=1) (z:=0) Y Zd8 h Y Y (show([lI ((⟨0,0⟩:Int×Int).1),lI ((⟨0,0⟩:Int×Int).2)]:List CD)=[lI (((Yq d z ss).2).1),lI (((Yq d z ss).2).2)]from by rw[eU]) Y (congrArg (fun z=>AV.rd (Yc z)) (show([]:List (List BA))=((Yq d z ss).1)from by rw[eU])) Y Y)))
 ·
  try simp at hb1
  have e0:ZfC d z ss=0:=by simpa using hb1
  obtain⟨ha,hf⟩:=Zfj e0
  have hok:=(Zdl ss).1 hf
  obtain⟨hck,hz0,hz1⟩:=Zc1 ha
  have hi:z.toNat<d.frames.length:=by omega
  have hl0:=hok.1
  have hl1:=hok.2.1
  refine tw (sa 3 Y (show(.int z:AV)= .int (z.toNat:Nat)from congrArg AV.int oz)) (Zb (nx (tsq ?_)))
  refine snK 2 tb (env':=[(25,_),(24,_),(7,_),(5,_),(3,_),(1,_),(9,_),(21,_)]) Y (sy (.agg [Zg d.consts,Zg d.vars,ZaU d.frames,lI (z.toNat:Int),.lit (.slice none 0 0)]) (fun h=>ZoQ (d:=d) (i:=(z.toNat:Int)) ZkL Y (h.get 1 Y) (h.get 0 Y) h.x) ?_)
  refine Zcf (cs:=[Zg d.consts,Zg d.vars,ZaU d.frames,lI (z.toNat:Int),.lit (.slice none 0 0)]) hJ Y Y Y (lb Y) (fun a w h=>(h.get 0 Y)) fun b2=>?_
  refine snK 1 tb (env':=[(10,_),(27,_),(26,_),(25,_),(24,_),(7,_),(5,_),(3,_),(1,_),(9,_),(21,_)]) Y (seK [0,5,6,7,8] U5 Y ?_)
  refine nx (Zf (tw (Yd 22 1 hJ) (ZF tb hJ (r5 [1001,1002,1003]) [_,_,.int (ss.length:Nat),_] [2] U8 Y ⟨Ym ZN,U⟩ ?_)))
  refine ln 5 fun hl1=>?_
  refine Zd (lpo (ι:=Nat×(List (List BA))×Value) (fun(k,fs,_)=>(k≤ss.length)∧(fs=fmG d z.toNat ss k)∧(∀ j,j<k→erG d z.toNat ss j=0)) (fun(_,fs,fv)=>[OB.row fv 22 1 (fs.map Zen),OB.var b2 [Zg d.consts,Zg d.vars,ZaU d.frames,lI (z.toNat:Int),.lit fv],OB.var b1 [lI 0,lI 0]]) (fun(k,_,_)=>[(31,.int (k:Nat))]) (fun(k,_,_)=>ss.length-k) (r8 []) U7 (0,[],(.slice none 0 0)) ⟨nzl,Y,fun j hj=>by omega⟩ ?_)
  rintro⟨k,fs,fv⟩ ⟨f1_1,f1_2,f1_3⟩
  refine qso tb hJ (r8 [1000]) [_] U9 ?_
  refine cjS 8 (fun hb2=>?_) fun hb2=>?_
  ·
   try simp at hb2
   have e2:=Zhb hck hi k f1_3
   rw[←f1_2]at e2
   have e3:fs.length=k:=by rw[f1_2,Ze3]
   have e4:=Zps hok (k:=k) oz
   refine Zb (nx (Zf (Zd (tsq (snK 1 tb (env':=[(33,_),(10,_),(7,_),(5,_),(3,_),(1,_),(29,_),(30,_),(31,_),(32,_)]) Y (sy (.ptr (spC (ge ss k))) (fun h=>ZM (i:=(k:Int)) Z1 Y (h.get 6 Y) (h.get 8 Y) nnn (ZT (xs:=ss) (k:=k) sfz) Y h.x) ?_))))))
   refine snK 1 tb (env':=[(35,_),(34,_),(33,_),(10,_),(7,_),(5,_),(3,_),(1,_),(29,_),(30,_),(31,_),(32,_)]) Y (Zv X4 hJ Y Y Y (lb Y) fun b3=>?_)
   refine snK 1 tb (env':=[(11,_),(12,_),(35,_),(34,_),(33,_),(10,_),(7,_),(5,_),(3,_),(1,_),(29,_),(30,_),(31,_),(32,_)]) Y (Zn (b:=b3) (off:=0) (es:=U2) (news:=U2) hJ hJ0 Qa Y Y Y (lb Y) Y (fun a w h=>⟨(h.get 1 Y),(h.get 2 Y)⟩) ?_)
   refine kw (fun h=>ZP hS h (m:=1) (s:=12) Y) (seK [0,1,5,6,7,8,9,10,11,12] U10 Y ?_)
   refine nx (ZF tb hJ [1,2,3,4,5,6,7,8,9,1004,1006,1007] [_,_,.tup [.rd (Zg ((ZaI d z.toNat (ge ss k) fs).1)),.int ((ZaI d z.toNat (ge ss k) fs).2)],_,_,_,_,_] [2] U12 Y ⟨fun _ _ hk hx hl _=>Y3 (Zni hJ b2 d z.toNat fv fs (ge ss k) (by exact hi) (by exact hck) (by exact e2) (by exact fun j hj=>by have:=e4 j hj;omega) (by exact hw _ (Zp hi))) ZxC Y (Zk hS _ hk hx) (hx.1) (ZH (Ze hx (mo 1 Y)) (ZH (Ze hx (mo 0 Y)) Zq)) (Za (hl.D 0 37 Y Y) (Za (hl.D 1 38 Y Y) Zc)) (jo hJ hx),U⟩ ?_)
   refine ln 9 fun hl2=>?_
   refine Zf (qso tb hJ (r9 [10,11,1001]) U2 U12 ?_)
   refine cj 11 (fun hb3=>?_) fun hb3=>?_
   ·
    try simp at hb3
    have eU:Yq d z ss=(fs,((ZaI d z.toNat (ge ss k) fs).2,(k:Int))):=by rw[Yq,if_pos e0,Zvy (k:=k) oz f1_3 (by rw[Zqn,←f1_2];simpa using hb3),Zqn,←f1_2]
    refine tsq (snK 1 tb (env':=[(44,_),(11,_),(10,_),(7,_),(5,_),(3,_),(1,_),(29,_),(30,_),(31,_),(13,_),(14,_),(43,_)]) Y (sy (.at b2 0) (fun h=>Z9 Y (h.get 0 Y) h.x) ?_))
    refine sy (.at b2 4) (fun h=>Zx XH Y (h.get 0 Y) h.x) ?_
    refine sy (.lit fv) (fun h=>Zo ZeI Y (Ze h.x (mo 1 Y)) (h.get 0 Y) Y h.x) ?_
    refine snK 2 tb (env':=[(49,_),(48,_),(47,_),(46,_),(45,_),(44,_),(11,_),(10,_),(7,_),(5,_),(3,_),(1,_),(29,_),(30,_),(31,_),(13,_),(14,_),(43,_)]) Y (sq (.agg (vdC (⟨(ZaI d z.toNat (ge ss k) fs).2,(k:Int)⟩:Int×Int))) Y Y (lb Y) (fun a _ h=>XR (us:=[a.eval (.tmp 48),a.eval (.tmp 49)]) Zgr Y yz (Zt (h.get 1 Y) (Zt (h.get 0 Y) Z0)) Y h.x) ?_)
    refine snK 1 tb (env':=[(6,_),(50,_),(49,_),(48,_),(47,_),(46,_),(45,_),(44,_),(11,_),(10,_),(7,_),(5,_),(3,_),(1,_),(29,_),(30,_),(31,_),(13,_),(14,_),(43,_)]) Y (kw pm2 ?_)
    refine Zn (b:=b1) (off:=0) (es:=U2) (news:=U2) hJ hJ0 QX Y Y Y (lb Y) Y (fun a w h=>⟨(h.get 10 Y),(h.get 1 Y)⟩) ?_
    refine snK 1 tb (env':=[(8,_),(6,_),(50,_),(49,_),(48,_),(47,_),(46,_),(45,_),(44,_),(11,_),(10,_),(7,_),(5,_),(3,_),(1,_),(29,_),(30,_),(31,_),(13,_),(14,_),(43,_)]) Y (seK [0,1,11] U3 Y ?_)
    refine nx (tw pm1 (tw (fun h=>Ya hS h (m:=1) (s:=6) Y) ?_))
    exact Zs (fun a w h=>Zg5 (cs:=[lI ((⟨(ZaI d z.toNat (ge ss k) fs).2,(k:Int)⟩:Int×Int).1),lI ((⟨(ZaI d z.toNat (ge ss k) fs).2,(k:Int)⟩:Int×Int).2)]) (m:=2) (q:=1) (z:=0) Y Zd8 h Y Y (show([lI ((⟨(ZaI d z.toNat (ge ss k) fs).2,(k:Int)⟩:Int×Int).1),lI ((⟨(ZaI d z.toNat (ge ss k) fs).2,(k:Int)⟩:Int×Int).2)]:List CD)=[lI (((Yq d z ss).2).1),lI (((Yq d z ss).2).2)]from by rw[eU]) Y (congrArg (fun z=>AV.rd (Yc z)) (show fs=((Yq d z ss).1)from by rw[eU])) Y (congrArg AV.int (show(0:Int)=ZfC d z ss from by rw[e0])))
   ·
    try simp at hb3
    have e5:erG d z.toNat ss k=0:=by rw[Zqn,←f1_2];simpa using hb3
    refine Zb (nx (ZO (snK 2 tb (env':=[(52,_),(51,_),(11,_),(10,_),(7,_),(5,_),(3,_),(1,_),(29,_),(30,_),(31,_),(13,_),(14,_),(43,_)]) Y (sy (.at b2 0) (fun h=>Z9 Y (h.get 0 Y) h.x) ?_))))
    refine sy (.at b2 4) (fun h=>Zx XH Y (h.get 0 Y) h.x) ?_
    refine sy (.lit fv) (fun h=>Zo ZeI Y (Ze h.x (mo 1 Y)) (h.get 0 Y) Y h.x) ?_
    refine snK 1 tb (env':=[(56,_),(55,_),(54,_),(53,_),(52,_),(51,_),(11,_),(10,_),(7,_),(5,_),(3,_),(1,_),(29,_),(30,_),(31,_),(13,_),(14,_),(43,_)]) Y (sy (.rd (Yc ([((ZaI d z.toNat (ge ss k) fs).1)]))) (fun h=>YI Z8 ZjA Y (h.get 0 Y) (Zk hS _ h.keep h.x _ nlr) (jo hJ h.x)) ?_)
    refine YD (f:=Zen) (m:=2) (s:=55) fs ([((ZaI d z.toNat (ge ss k) fs).1)]) (fun _=>Y) Zjo hJ hJ0 Y Y Y (lb Y) Y Y (fun a w h=>(h.get 0 Y)) (by simp;omega) (by simp;omega) fun v4=>?_
    refine sy (.at b2 0) (fun h=>Z9 Y (h.get 7 Y) h.x) ?_
    refine sy (.at b2 4) (fun h=>Zx XH Y (h.get 0 Y) h.x) ?_
    refine kw pm1 (Z6 (b:=b2) (off:=4) (es:=U5) hJ hJ0 Zoz Y Y Y (lb Y) Y (fun a w h=>⟨(h.get 0 Y),(h.get 2 Y)⟩) ?_)
    refine seK [3,11,12,13,14,15,16,17,18] U9 Y (nx (ln 0 fun hl3=>?_))
    refine YU tb hJ [1,2,3,4,5,6,7,1001] [.int (k+1:Nat),_] [0] U8 Y ⟨YT,U⟩ ?_
    refine kw pm2 (kw pm1 ?_)
    exact kw pm2 (Xk (k+1,fs++([((ZaI d z.toNat (ge ss k) fs).1)]),v4) (r8 []) ⟨oz,by rw[Zs3,←f1_2],Z2 f1_3 e5⟩)
  ·
   try simp at hb2
   obtain rfl:k=ss.length:=by omega
   have e3:fs.length=ss.length:=by rw[f1_2,Ze3]
   refine Zu (nx (Zf (ZF tb hJ [0,1,3,4,1003] [_,_,.int (ss.length:Nat),_] [2] U5 Y ⟨Ym ZN,U⟩ ?_)))
   refine ZF tb hJ [0,1,4,1007,1009,1013,1015] [_,.at b2 0,.at b2 4,.lit fv,_,.int (ss.length-1:Nat),.lit (YG fv ((ss.length-1)*1)),.rd (Zg (ge fs (ss.length-1))),_,_,_,.ptr (frC (ge d.frames z.toNat)),_,_,.bool (decide ((ge fs (ss.length-1))=((ge d.frames z.toNat).text))),_] [1,2,3,5,6,7,11,14] U7 Y ⟨fun _ _ _ hx hl _=>Z9 Y (hl.D 0 65 Y Y) hx,fun _ _ _ hx hl _=>Zx XH Y (hl.D 1 66 Y Y) hx,fun _ _ _ hx hl _=>Zo ZeI Y (Ze hx (mo 1 Y)) (hl.D 2 67 Y Y) Y hx,fun _ _ _ hx hl _=>ZfY (i:=ss.length) (j:=1) Y (hl.D 4 69 Y Y) (Rel.of_lit (.int .i64 1)) sfz sfz hx,fun _ _ _ hx hl _=>ZU (i:=((ss.length-1:Nat):Int)) Z8 Y (Ze hx (mo 0 Y)) (hl.D 3 68 Y Y) (hl.D 5 70 Y Y) nnn (by rw[List.length_map];exact Int.ofNat_lt.2 sfz) hx,fun _ _ _ hx hl _=>X6 (i:=ss.length-1) Qy Y (Ze hx (mo 0 Y)) (hl.D 6 71 Y Y) (Qc (xs:=fs) (k:=ss.length-1) sfz) hx,iIx Yu,iFo hS hJ (ZdR hJ (ge fs (ss.length-1)) ((ge d.frames z.toNat).text)) Zhm,U⟩ ?_
   refine ln 3 fun hl4=>?_
   refine ln 4 fun hl5=>?_
   refine ln 5 fun hl6=>?_
   refine cj 6 (fun hb4=>?_) fun hb4=>?_
   ·
    try simp at hb4
    have eU:Yq d z ss=(fs,(28,(ss.length:Int))):=by rw[Yq,if_pos e0,ZkX f1_3,←f1_2,if_neg (by first | (simpa using hb4) | (simpa [e3]using hb4))]
    refine tsq (snK 1 tb (env':=[(81,_),(10,_),(7,_),(15,_),(72,_),(74,_),(78,_),(80,_)]) Y (sy (.at b2 0) (fun h=>Z9 Y (h.get 0 Y) h.x) ?_))
    refine sy (.at b2 4) (fun h=>Zx XH Y (h.get 0 Y) h.x) ?_
    refine sy (.lit fv) (fun h=>Zo ZeI Y (Ze h.x (mo 1 Y)) (h.get 0 Y) Y h.x) ?_
    refine snK 1 tb (env':=[(85,_),(84,_),(83,_),(82,_),(81,_),(10,_),(7,_),(15,_),(72,_),(74,_),(78,_),(80,_)]) Y (sq (.agg (vdC (⟨(28:Int),(ss.length:Int)⟩:Int×Int))) Y Y (lb Y) (fun a _ h=>XR (us:=[a.eval (.const (.int .i64 28)),a.eval (.tmp 85)]) Zgr Y yz (Zt (Rel.of_lit (.int .i64 28)) (Zt (h.get 0 Y) Z0)) Y h.x) ?_)
    refine snK 1 tb (env':=[(6,_),(86,_),(85,_),(84,_),(83,_),(82,_),(81,_),(10,_),(7,_),(15,_),(72,_),(74,_),(78,_),(80,_)]) Y (kw pm2 ?_)
    refine Zn (b:=b1) (off:=0) (es:=U2) (news:=U2) hJ hJ0 QX Y Y Y (lb Y) Y (fun a w h=>⟨(h.get 8 Y),(h.get 1 Y)⟩) ?_
    refine snK 1 tb (env':=[(8,_),(6,_),(86,_),(85,_),(84,_),(83,_),(82,_),(81,_),(10,_),(7,_),(15,_),(72,_),(74,_),(78,_),(80,_)]) Y (seK [0,1,9] U3 Y ?_)
    refine nx (tw pm1 (tw (fun h=>Ya hS h (m:=1) (s:=6) Y) ?_))
    exact Zs (fun a w h=>Zg5 (cs:=[lI ((⟨(28:Int),(ss.length:Int)⟩:Int×Int).1),lI ((⟨(28:Int),(ss.length:Int)⟩:Int×Int).2)]) (m:=2) (q:=1) (z:=0) Y Zd8 h Y Y (show([lI ((⟨(28:Int),(ss.length:Int)⟩:Int×Int).1),lI ((⟨(28:Int),(ss.length:Int)⟩:Int×Int).2)]:List CD)=[lI (((Yq d z ss).2).1),lI (((Yq d z ss).2).2)]from by rw[eU]) Y (congrArg (fun z=>AV.rd (Yc z)) (show fs=((Yq d z ss).1)from by rw[eU])) Y (congrArg AV.int (show(0:Int)=ZfC d z ss from by rw[e0])))
   ·
    try simp at hb4
    have eU:Yq d z ss=(fs,(0,0)):=by rw[Yq,if_pos e0,ZkX f1_3,←f1_2,if_pos (by first | (simpa using hb4) | (simpa [e3]using hb4))]
    refine Zb (nx (tsq (snK 1 tb (env':=[(87,_),(10,_),(7,_),(15,_),(72,_),(74,_),(78,_),(80,_)]) Y (sy (.at b2 0) (fun h=>Z9 Y (h.get 0 Y) h.x) ?_))))
    refine sy (.at b2 4) (fun h=>Zx XH Y (h.get 0 Y) h.x) ?_
    refine sy (.lit fv) (fun h=>Zo ZeI Y (Ze h.x (mo 1 Y)) (h.get 0 Y) Y h.x) ?_
    refine sy (.agg (vdC (⟨0,0⟩:Int×Int))) (fun h=>Y7 (ps:=[]) (us:=[.int .i64 0,.int .i64 0]) Zfn Y yz Zjr Y (X1 (.lit _ True.intro) (X1 (.lit _ True.intro) Z0)) h.x) ?_
    refine snK 1 tb (env':=[(6,_),(91,_),(90,_),(89,_),(88,_),(87,_),(10,_),(7,_),(15,_),(72,_),(74,_),(78,_),(80,_)]) Y (kw pm2 ?_)
    refine Zn (b:=b1) (off:=0) (es:=U2) (news:=U2) hJ hJ0 QX Y Y Y (lb Y) Y (fun a w h=>⟨(h.get 7 Y),(h.get 1 Y)⟩) ?_
    refine snK 1 tb (env':=[(8,_),(6,_),(91,_),(90,_),(89,_),(88,_),(87,_),(10,_),(7,_),(15,_),(72,_),(74,_),(78,_),(80,_)]) Y (seK [0,1,8] U3 Y ?_)
    refine nx (tw pm1 (tw (fun h=>Ya hS h (m:=1) (s:=6) Y) ?_))
    exact Zs (fun a w h=>Zg5 (cs:=[lI ((⟨0,0⟩:Int×Int).1),lI ((⟨0,0⟩:Int×Int).2)]) (m:=2) (q:=1) (z:=0) Y Zd8 h Y Y (show([lI ((⟨0,0⟩:Int×Int).1),lI ((⟨0,0⟩:Int×Int).2)]:List CD)=[lI (((Yq d z ss).2).1),lI (((Yq d z ss).2).2)]from by rw[eU]) Y (congrArg (fun z=>AV.rd (Yc z)) (show fs=((Yq d z ss).1)from by rw[eU])) Y (congrArg AV.int (show(0:Int)=ZfC d z ss from by rw[e0])))
section
variable {n:Rn} {N:Nat} {P:Program} {J:WP} {S:Nat→Prop} {O A R:List OB} {w0:World} {env:List (Nat×AV)} {Q:Exit→Act→WP} {ι ι1 ι2 κ μ σ:Type}
def ZmG (A:ι1→List OB) (B:ι2→List OB):ι1 ⊕ ι2→List OB
 | .inl z=>A z
 | .inr s=>B s
def FnV (P:Program) (J:WP) (S:Nat→Prop) (w0:World) (f:FuncId) (args:List AV) (O:List OB) (res:ι→AV) (O':ι→List OB) (pv:κ→Value) (O'':κ→List OB):Prop:=
 ∀(R:List OB) (w:World) (vs:List Value),Keeps All w0 w→XO J S w0.heap.size (O++R) w→RelL (SO S (O++R)) w args vs→Calls P f vs.toArray w (ZnO J S w0 R res O' pv O'')
theorem ZiU {f:FuncId} {fn:Func} {c:Code} {args:List AV} {res:ι→AV} {O':ι→List OB} {pv:κ→Value} {O'':κ→List OB} (hf:P.funcs[f]?=some fn) (hb:fn.body=some c) (hN:fn.ntmps=N) (hl:args.length≤N)
 (h:∀ R,Tr 5 P (So J S w0 N (O++R) (Y2 0 args)) c (bodyPost P fn (ZnO J S w0 R res O' pv O''))):FnV P J S w0 f args O res O' pv O'':=by
 intro R w vs hk hx ha
 obtain⟨g1,g2⟩:=Qo hl hN ha
 exact(callsIn_wide (n:=5)).1 (callsIn_of_wp hf hb trivial (h R _ _ ⟨rfl,g1,hk,hx,g2⟩) rfl)
theorem d_fnV {o:Oper} {a:Act} {w:World} {f:FuncId} {args:List Operand} {callee:Operand} {ts:Array TypeId} {avs:List AV} {res:ι→AV} {O':ι→List OB} {pv:κ→Value} {O'':κ→List OB} {cap:List Value} {avc:List AV} (hF:FnV P J S w0 f (avs++avc) O res O' pv O'') (h1:Zi P f) (hop:o.op= .call { callee:=.value callee,args:=args.toArray,argTypes:=ts })
 (hk:Keeps All w0 w) (hx:XO J S w0.heap.size (O++R) w) (hc:a.eval callee= .func (.func f) #[] cap.toArray) (ha:RelL (SO S (O++R)) w avs (args.map a.eval)) (hcap:RelL (SO S (O++R)) w avc cap):
 ZhF n P o a w (fun v w'=>∃ i,Zag J S w0 (O++R) w (O' i++R) w'∧Rel (SO S (O' i++R)) w' (res i) v) (fun ch w'=>∃ k,ch=pch (pv k)∧Zag J S w0 (O++R) w (O'' k++R) w'):=by
 let B:AV→Value→Prop:=fun av v=>Rel (SO S (O++R)) w av v
 have hx2:=ZhK (B:=B) hx fun _ _ h=>h
 have hsub:∀ k,k<w.heap.size→SO S (O++R) k→All k∧SO S (O++OB.was B::R) k:=fun k _ h=>⟨trivial,so_was.2 h⟩
 have hcall:=hF (OB.was B::R) w _ hk hx2 (RelL.move (Keeps.refl All w) hsub (Zlf ha hcap))
 refine ZnE (f:=f) (args:=(args.map a.eval++cap).toArray) (w1:=w) ?_ (Calls.mono hcall fun e w' h=>?_)
 · have h2:=h1 ((args.map a.eval++cap).toArray) w
   simp only[execOp,hop,resolve,hc,Deferred.ofValue,Sem.run_bind,Sem.run_pure,Result.andThen_ok,invoke]
   rw[←h2]
   congr 2
   simp
 · rcases h with⟨i,v,he,hv,hk',hx'⟩ | ⟨k,he,hk',hx'⟩
   · obtain⟨g1,g2⟩:=Za3 hx'
     exact .inl ⟨v,he,i,⟨hk',g1,g2⟩,hv.sub fun k _=>so_was.1⟩
   · obtain⟨g1,g2⟩:=Za3 hx'
     exact .inr ⟨_,he,k,rfl,⟨hk',g1,g2⟩⟩
theorem Zk8 {ops:Array Oper} {o:Oper} {rest:List Oper} {d:Nat} {f:FuncId} {args:List Operand} {callee:Operand} {ts:Array TypeId} (avs:List AV) (cap:List Value) (avc:List AV) {res:ι1 ⊕ ι2→AV} {O':ι1 ⊕ ι2→List OB} {pv:κ→Value} {O'':κ→List OB} (hF:FnV P J S w0 f (avs++avc) O res O' pv O'') (h1:Zi P f) (hg:o.guard=none) (hop:o.op= .call { callee:=.value callee,args:=args.toArray,argTypes:=ts }) (hd:o.dst=some d) (hN:d<N)
 (hc:∀ a w,So J S w0 N (O++R) env a w→a.eval callee= .func (.func f) #[] cap.toArray) (ha:∀ a w,So J S w0 N (O++R) env a w→RelL (SO S (O++R)) w avs (args.map a.eval)) (hcap:∀ w,RelL (SO S (O++R)) w avc cap)
 (pan:∀ q a w,So J S w0 N (O'' q++R) env a w→Q (.panic (pch (pv q))) a w)
 (stop:∀ s a w,So J S w0 N (O' (.inr s)++R) ((d,res (.inr s))::Yn d env) a w→wpListIn n.F n.d P ops Q rest a w)
 (next:∀ z a w,So J S w0 N (O' (.inl z)++R) ((d,res (.inl z))::Yn d env) a w→wpListIn n.F n.d P ops Q rest a w):
 ∀ a w,So J S w0 N (O++R) env a w→wpListIn n.F n.d P ops Q (o::rest) a w:=
 sq_toP hg hd hN (fun a w h=>d_fnV hF h1 hop h.keep h.x (hc a w h) (ha a w h) (hcap w)) pan fun i=>by
  cases i with
  | inl z=>exact next z
  | inr s=>exact stop s
theorem vPan {res:ι→AV} {O':ι→List OB} {pv:μ→Value} {O3:μ→List OB} (A:List OB) (q:μ):∀ a w,So J S w0 N (O3 q++(A++R)) env a w→a.defers=[]∧ZnO J S w0 R res O' pv O3 (.panicked (pch (pv q))) w:=
 fun a w h=>pnP q rfl a w (ZgA A (ZfR A h))
theorem vPan0 {res:ι→AV} {O':ι→List OB} {pv:μ→Value} {O3:μ→List OB} (q:μ):∀ a w,So J S w0 N (O3 q++R) env a w→a.defers=[]∧ZnO J S w0 R res O' pv O3 (.panicked (pch (pv q))) w:=fun a w h=>pnP q rfl a w h
def OB.pt (b off:Nat) (cs:List CD):OB where
 blk:=fun _=>False
 inv:=fun _ S w=>Rel S w (.ptr cs) (.pointer (some ⟨b,off,none⟩))
 mv:=fun h hk _ hs=>h.move hk hs
 lt:=fun _ _ h=>h.elim
variable {a:Act} {w:World} {b off:Nat} {cs:List CD} {c:Code}
theorem ZgD {k:Nat} (hk:SO S O k):SO S (OB.pt b off cs::O) k:=⟨hk.1,fun q hq=>by
 rcases List.mem_cons.1 hq with rfl | hq
 · exact fun h=>h
 · exact hk.2 q hq⟩
theorem Zrz (hp:Rel (SO S O) w (.ptr cs) (.pointer (some ⟨b,off,none⟩))) (h:So J S w0 N O env a w):So J S w0 N (OB.pt b off cs::O) env a w:=by
 refine⟨h.defs,h.size,h.keep,⟨h.x.1,fun q hq=>?_,.cons (fun _ _ _ hk=>hk.elim) h.x.2.2⟩,fun p hm=>⟨(h.env p hm).1,(h.env p hm).2.sub fun _ _ hk=>ZgD hk⟩⟩
 rcases List.mem_cons.1 hq with rfl | hq
 · exact hp.sub fun _ _ hk=>ZgD hk
 · exact OB.sub (h.x.2.1 q hq) fun _ _ hk=>ZgD hk
theorem Zoh {m s:Nat} (he:env[m]?=some (s,.ptr cs)) (h:∀ b off,Tr n P (So J S w0 N (OB.pt b off cs::O) ((s,.at b off)::Yn s env)) c Q):Tr n P (So J S w0 N O env) c Q:=fun a w ha=>by
 have hr:=ha.get m he
 have hr':=hr
 simp only[Rel]at hr'
 obtain⟨b,off,us,hv,_⟩:=hr'
 rw[hv]at hr
 have h2:=Zrz hr ha
 refine h b off a w ⟨h2.defs,h2.size,h2.keep,h2.x,fun p hp=>?_⟩
 rcases List.mem_cons.1 hp with rfl | hp
 · have h3:a.tmps.getD s undef= .pointer (some ⟨b,off,none⟩):=hv
   refine⟨(ha.env _ (List.mem_of_getElem? he)).1,?_⟩
   show Rel _ w (.at b off) (a.tmps.getD s undef)
   rw[h3]
   exact Rel.of_lit _
 · exact h2.env p (List.mem_filter.1 hp).1
theorem ZjL {i m s:Nat} (hi:O[i]?=some (OB.pt b off cs)) (he:env[m]?=some (s,.at b off)) (h:So J S w0 N O env a w):So J S w0 N O ((s,.ptr cs)::Yn s env) a w:=by
 refine⟨h.defs,h.size,h.keep,h.x,fun p hp=>?_⟩
 rcases List.mem_cons.1 hp with rfl | hp
 · refine⟨(h.env _ (List.mem_of_getElem? he)).1,?_⟩
   have h1:Rel (SO S O) w (.ptr cs) (.pointer (some ⟨b,off,none⟩)):=h.x.2.1 _ (List.mem_of_getElem? hi)
   have h2:a.tmps.getD s undef= .pointer (some ⟨b,off,none⟩):=(h.get m he).lit
   show Rel _ w (.ptr cs) (a.tmps.getD s undef)
   rw[h2]
   exact h1
 · exact h.env p (List.mem_filter.1 hp).1
end
end Go.Proofs.YtdfadihhfppjaaaGreatDoor
namespace Go.Proofs.YtdfadihhfppjaaaGreatDoor
section
variable {ss:List Stp} {n q:Nat} {o o' o2 xs:List Nat} {dn dn' dn2:List Bool}
structure DnR (ss:List Stp) (n:Nat) (o:List Nat) (dn:List Bool):Prop where
 len:dn.length=ss.length
 low:∀ i,i≤n→ge dn i=decide (i∈o)
structure Zx7 (ss:List Stp) (n:Nat) (o:List Nat) (dn:List Bool) (o':List Nat) (dn':List Bool):Prop where
 eq:o'=ZaE (Yi ss) (n+1) n o
 len:dn'.length=ss.length
 low:∀ i,i≤n→ge dn' i=decide (i∈o')
 high:∀ i,n<i→ge dn' i=ge dn i
structure Zvj (ss:List Stp) (n:Nat) (o:List Nat) (dn:List Bool) (q:Nat) (o':List Nat) (dn':List Bool):Prop where
 eq:o'=((Yi ss n).take q).foldl (fun o a=>ZaE (Yi ss) n a o) o
 len:dn'.length=ss.length
 low:∀ i,i<n→ge dn' i=decide (i∈o')
 at':ge dn' n=true
 high:∀ i,n<i→ge dn' i=ge dn i
theorem ZlU {α:Type} [Inhabited α] {l:List α} {i j:Nat} {x:α} (h:¬ i=j):ge (l.set i x) j=ge l j:=by
 simp only[ge,List.getD_eq_getElem?_getD]
 rw[List.getElem?_set_ne h]
theorem ZsU {α:Type} [Inhabited α] {l:List α} {i:Nat} {x:α} (h:i<l.length):ge (l.set i x) i=x:=by
 rw[Yj (by simpa using h)];simp
theorem Zut (hr:DnR ss n o dn) (h:ge dn n=true):Zx7 ss n o dn o dn:=by
 have h1:=hr.low n nlr
 rw[h]at h1
 have h2:n∈o:=by simpa using h1.symm
 exact⟨by simp only[ZaE,if_pos h2],hr.len,hr.low,fun _ _=>rfl⟩
theorem vs_not (hr:DnR ss n o dn) (h:ge dn n=false):¬ n∈o:=by
 have h1:=hr.low n nlr
 rw[h]at h1
 simpa using h1.symm
theorem Zrp (hr:DnR ss n o dn) (hn:n<ss.length):Zvj ss n o dn 0 o (dn.set n true):=by
 refine⟨rfl,by rw[List.length_set,hr.len],fun i hi=>?_,ZsU (by rw[hr.len];exact hn),fun i hi=>ZlU oz⟩
 rw[ZlU oz]
 exact hr.low i oz
theorem ZwH (hn:n<ss.length) (hq:q< (ge ss n).args.length):(Yi ss n).length=(ge ss n).args.length∧ge (Yi ss n) q=(ge (ge ss n).args q).toNat:=by
 rw[QA hn,Yj hn]
 rw[Yj hn]at hq
 refine⟨by simp,?_⟩
 rw[Yj (by simpa using hq),Yj hq]
 simp
theorem ZsJ (hn:n<ss.length):(Yi ss n).length=(ge ss n).args.length:=by rw[QA hn,Yj hn];simp
theorem ZjC (hok:Okay ss):∀(f g x:Nat) (o:List Nat),x<f→x<g→ZaE (Yi ss) f x o=ZaE (Yi ss) g x o
 | 0,_,_,_,h,_=>by omega
 | _,0,_,_,_,h=>by omega
 | f+1,g+1,x,o,hf,hg=>by
  simp only[ZaE]
  split
  · rfl
  · congr 1
    have key:∀(l:List Nat) (o:List Nat),(∀ a∈l,a<x)→l.foldl (fun o a=>ZaE (Yi ss) f a o) o=l.foldl (fun o a=>ZaE (Yi ss) g a o) o:=by
     intro l
     induction l with
     | nil=>intro o _;rfl
     | cons a l ih=>
      intro o hl
      have:=hl a yz
      simp only[List.foldl_cons]
      rw[ZjC hok f g a o oz oz]
      exact ih _ fun b hb=>hl b (by simp[hb])
    exact key _ _ fun a ha=>hok.kid ha
theorem vs_kid (hm:Zvj ss n o dn q o' dn') {a:Nat} (ha:a<n):DnR ss a o' dn':=⟨hm.len,fun i hi=>hm.low i oz⟩
theorem ZnZ (hn:n<ss.length) (hq:q< (ge ss n).args.length):((Yi ss n).take (q+1)).foldl (fun o a=>ZaE (Yi ss) n a o) o=ZaE (Yi ss) n (ge (ge ss n).args q).toNat (((Yi ss n).take q).foldl (fun o a=>ZaE (Yi ss) n a o) o):=by
 obtain⟨h1,h2⟩:=ZwH hn hq
 rw[ZZ oz,List.foldl_append,h2]
 rfl
theorem Zvq (hok:Okay ss) (hn:n<ss.length) (hq:q< (ge ss n).args.length) (hm:Zvj ss n o dn q o' dn') (hv:Zx7 ss (ge (ge ss n).args q).toNat o' dn' o2 dn2):Zvj ss n o dn (q+1) o2 dn2:=by
 have ha:=Za9 hok hn hq
 have hlt:(ge (ge ss n).args q).toNat<n:=by omega
 have he:o2=ZaE (Yi ss) n (ge (ge ss n).args q).toNat o':=hv.eq.trans (ZjC hok _ _ _ _ oz hlt)
 have hsub:=Zcd (Yi ss) ((ge (ge ss n).args q).toNat+1) (ge (ge ss n).args q).toNat o'
 rw[←hv.eq]at hsub
 refine⟨?_,hv.len,fun i hi=>?_,(hv.high n oz).trans hm.at',fun i hi=>(hv.high i oz).trans (hm.high i hi)⟩
 · rw[ZnZ hn hq,←hm.eq];exact he
 · rcases Nat.lt_or_ge (ge (ge ss n).args q).toNat i with h | h
   · rw[hv.high i h,hm.low i hi]
     congr 1
     apply propext
     refine⟨fun h2=>hsub.subset h2,fun h2=>?_⟩
     rw[hv.eq]at h2
     rcases Zem (Yi ss) id (fun x a ha=>hok.kid ha) _ _ _ i h2 with h3 | h3
     · exact h3
     · simp only[id]at h3;omega
   · exact hv.low i h
theorem Zn0 (hn:n<ss.length) (hno:¬ n∈o) (hm:Zvj ss n o dn (ge ss n).args.length o' dn'):Zx7 ss n o dn (o'++[n]) dn':=by
 refine⟨?_,hm.len,fun i hi=>?_,hm.high⟩
 · simp only[ZaE,if_neg hno]
   rw[hm.eq,←ZsJ hn,List.take_length]
 · by_cases h:i=n
   · subst h;rw[hm.at'];simp
   · rw[hm.low i oz];simp[h]
theorem vs_pre (hok:Okay ss) (hn:n<ss.length) (hq:q< (ge ss n).args.length) (hno:¬ n∈o) (hm:Zvj ss n o dn q o' dn') (hp:ZaE (Yi ss) (n+1) n o<+:xs):ZaE (Yi ss) ((ge (ge ss n).args q).toNat+1) (ge (ge ss n).args q).toNat o'<+:xs:=by
 have ha:=Za9 hok hn hq
 refine List.IsPrefix.trans ?_ hp
 simp only[ZaE,if_neg hno]
 refine List.IsPrefix.trans ?_ (List.prefix_append _ _)
 refine List.IsPrefix.trans ?_ (ZdL (Yi ss) n (Yi ss n) (q+1) o)
 rw[ZnZ hn hq,←hm.eq,←ZjC hok ((ge (ge ss n).args q).toNat+1) n _ _ oz oz]
 exact List.prefix_refl _
theorem Zvr (hn:n<ss.length) (hno:¬ n∈o) (hm:Zvj ss n o dn (ge ss n).args.length o' dn') (hp:ZaE (Yi ss) (n+1) n o<+:xs):(o'++[n])<+:xs:=by
 have:=(Zn0 hn hno hm).eq
 rw[this]
 exact hp
theorem Zvp (ss:List Stp):DnR ss n [] (List.replicate ss.length false):=⟨by simp,fun i _=>by
 simp only[ge,List.getD_eq_getElem?_getD,List.getElem?_replicate]
 split<;>simp⟩
theorem ZnY (hok:Okay ss):ZaE (Yi ss) (ss.length-1+1) (ss.length-1) []=post ss:=by
 have:=hok.1
 rw[post,show ss.length-1+1=ss.length by omega]
end
end Go.Proofs.YtdfadihhfppjaaaGreatDoor
set_option maxHeartbeats 8000000
set_option maxRecDepth 100000
namespace Go.Proofs.YtdfadihhfppjaaaGreatDoor
open Go.RowKit
theorem ZrY {J:WP} (hJ:Stab J) {S:Nat→Prop} {w0:World} (hS:∀ b,w0.heap.size≤b→S b) (hJ0:J w0) {l:Nat} {κ μ σ:Type} {I:List Nat→κ→List OB} {pv:μ→Value} {O3:μ→List OB} {O4:σ→List OB} (bd bp:Nat) (op bv bj:Nat) (dv:Value) (ss:List Stp) (xs:List Nat) (n:Nat) (dn:List Bool) (hY:YldE Tryz.prog J S w0 l (fun x9=>[.int (x9:Nat)]) (xs) I pv O3 O4) (pre0:List Nat) (k0:κ) (hok:Okay ss) (hn:n<ss.length) (hr:DnR ss n pre0 dn) (hp:ZaE (Yi ss) (n+1) n pre0<+:xs) (ih:∀(n':Nat) (pre':List Nat) (k':κ) (dn':List Bool),n'<n→DnR ss n' pre' dn'→ZaE (Yi ss) (n'+1) n' pre'<+:xs→FnV (ι:= { q':List Nat×κ×List Bool // Zx7 ss n' pre' dn' q'.1 q'.2.2 } ⊕ (σ×List Bool)) Tryz.prog J S w0 111 [.int (n':Nat),.at bd 0,.at bp op,.at bv 0,.at bj 0] (OB.var bd [.lit dv]::OB.row dv 4 1 ((dn').map Qg)::OB.pt bp op (pfC ss)::OB.var bv [.lit (.func (.func 111) #[] #[.pointer (some ⟨bd,0,none⟩),.pointer (some ⟨bp,op,none⟩),.pointer (some ⟨bv,0,none⟩),.pointer (some ⟨bj,0,none⟩)])]::OB.var bj [.lit (.func (.yield l) #[] #[])]::I pre' k') (fun i'=>.bool i'.isLeft) (ZmG (fun z'=>OB.var bd [.lit dv]::OB.row dv 4 1 ((z'.1.2.2).map Qg)::OB.pt bp op (pfC ss)::OB.var bv [.lit (.func (.func 111) #[] #[.pointer (some ⟨bd,0,none⟩),.pointer (some ⟨bp,op,none⟩),.pointer (some ⟨bv,0,none⟩),.pointer (some ⟨bj,0,none⟩)])]::OB.var bj [.lit (.func (.yield l) #[] #[])]::I z'.1.1 z'.1.2.1) fun s'=>OB.var bd [.lit dv]::OB.row dv 4 1 ((s'.2).map Qg)::OB.pt bp op (pfC ss)::OB.var bv [.lit (.func (.func 111) #[] #[.pointer (some ⟨bd,0,none⟩),.pointer (some ⟨bp,op,none⟩),.pointer (some ⟨bv,0,none⟩),.pointer (some ⟨bj,0,none⟩)])]::OB.var bj [.lit (.func (.yield l) #[] #[])]::O4 s'.1) pv O3):FnV (ι:= { q':List Nat×κ×List Bool // Zx7 ss n pre0 dn q'.1 q'.2.2 } ⊕ σ×List Bool) Tryz.prog J S w0 111 [.int (n:Nat),.at bd 0,.at bp op,.at bv 0,.at bj 0] (OB.var bd [.lit dv]::OB.row dv 4 1 (dn.map Qg)::OB.pt bp op (pfC ss)::OB.var bv [.lit (.func (.func 111) #[] #[.pointer (some ⟨bd,0,none⟩),.pointer (some ⟨bp,op,none⟩),.pointer (some ⟨bv,0,none⟩),.pointer (some ⟨bj,0,none⟩)])]::OB.var bj [.lit (.func (.yield l) #[] #[])]::I pre0 k0) (fun i'=>.bool i'.isLeft) (ZmG (fun z'=>OB.var bd [.lit dv]::OB.row dv 4 1 ((z'.1.2.2).map Qg)::OB.pt bp op (pfC ss)::OB.var bv [.lit (.func (.func 111) #[] #[.pointer (some ⟨bd,0,none⟩),.pointer (some ⟨bp,op,none⟩),.pointer (some ⟨bv,0,none⟩),.pointer (some ⟨bj,0,none⟩)])]::OB.var bj [.lit (.func (.yield l) #[] #[])]::I z'.1.1 z'.1.2.1) fun s'=>OB.var bd [.lit dv]::OB.row dv 4 1 ((s'.2).map Qg)::OB.pt bp op (pfC ss)::OB.var bv [.lit (.func (.func 111) #[] #[.pointer (some ⟨bd,0,none⟩),.pointer (some ⟨bp,op,none⟩),.pointer (some ⟨bv,0,none⟩),.pointer (some ⟨bj,0,none⟩)])]::OB.var bj [.lit (.func (.yield l) #[] #[])]::O4 s'.1) pv O3:=by
 have _:=hS
 refine ZiU (N:=35) Tryz.func111 Y Y (lb Y) fun R=>?_
 refine YS (B:=So J S w0 35 (OB.var bd [.lit dv]::OB.row dv 4 1 (dn.map Qg)::OB.pt bp op (pfC ss)::OB.var bv [.lit (.func (.func 111) #[] #[.pointer (some ⟨bd,0,none⟩),.pointer (some ⟨bp,op,none⟩),.pointer (some ⟨bv,0,none⟩),.pointer (some ⟨bj,0,none⟩)])]::OB.var bj [.lit (.func (.yield l) #[] #[])]::(I pre0 k0++R)) [(0,.int (n:Nat)),(1,.at bd 0),(2,.at bp op),(3,.at bv 0),(4,.at bj 0)]) ?_ fun a w h=>h
 refine tw (ZjL (i:=2) (m:=2) Y Y) ?_
 have hdl:=hr.len
 refine qso tb hJ (r5 []) [_] U5 ?_
 refine Zf (ZF tb hJ (r5 [1003]) [.lit dv,_,.lit (YG dv (n*1)),.bool (ge dn n)] [0,2,3] U6 Y ⟨fun _ _ _ hx hl _=>Zo Zch Y (Ze hx (mo 0 Y)) (hl.env 2 1 _ Y Y) Y hx,fun _ _ _ hx hl _=>ZU (i:=(n:Int)) XI Y (Ze hx (mo 1 Y)) (hl.D 0 9 Y Y) (hl.D 1 10 Y Y) nnn (by rw[List.length_map];exact Int.ofNat_lt.2 sfz) hx,fun _ _ _ hx hl _=>X6 (i:=n) Zsp Y (Ze hx (mo 1 Y)) (hl.D 2 11 Y Y) (Qc (xs:=dn) (k:=n) sfz) hx,U⟩ ?_)
 refine cj 5 (fun hb1=>?_) fun hb1=>?_
 ·
  refine qso tb hJ [1000] [_] [_] ?_
  exact Zs (fun a w h=>lvP (ZK (m:=0) (.inl ⟨(pre0,k0,dn),by first | exact Zut hr hb1 | exact Zn0 hn hno f1_2⟩) Y h Y Y))
 ·
  have hno:=vs_not hr hb1
  refine Zb (nx (tsq (sy (.lit dv) (fun h=>Zo Zch Y (Ze h.x (mo 0 Y)) (h.get 2 Y) Y h.x) ?_)))
  refine snK 1 tb Y (sy (.lit (YG dv (n*1))) (fun h=>ZU (i:=(n:Int)) XI Y (Ze h.x (mo 1 Y)) (h.get 1 Y) (h.get 0 Y) nnn (by rw[List.length_map];exact Int.ofNat_lt.2 sfz) h.x) ?_)
  refine kw pm1 (Qv (i:=n) hJ hJ0 ZbK Y Y Y (by rw[List.length_map];exact sfz) (fun a w h=>⟨(h.get 0 Y),(Rel.of_lit (.bool true))⟩) ?_)
  rw[show(dn.map Qg).set n [lB true]=(dn.set n true).map Qg from List.map_set.symm]
  refine seK [3,4,6,7] U4 Y (nx (Zf (ZF tb hJ [1,2,3,1001,1005,1006,1007] (V3 [.ptr (spC (ge ss n)),_,_,.int (((ge ss n).args).length:Nat),_]) [3,6] U7 Y ⟨iIx Z1,Ym YL,U⟩ ?_)))
  refine ln 3 fun hl1=>?_
  refine ln 4 fun hl2=>?_
  refine Zd (lpo (ι:=Nat×(List Bool)×(List Nat)×κ) (fun(q,ys,pre,_)=>(q≤(ge ss n).args.length)∧(Zvj ss n pre0 dn q pre ys)) (fun(_,ys,pre,kk)=>(OB.row dv 4 1 (ys.map Qg)::OB.var bd [.lit dv]::OB.pt bp op (pfC ss)::OB.var bv [.lit (.func (.func 111) #[] #[.pointer (some ⟨bd,0,none⟩),.pointer (some ⟨bp,op,none⟩),.pointer (some ⟨bv,0,none⟩),.pointer (some ⟨bj,0,none⟩)])]::OB.var bj [.lit (.func (.yield l) #[] #[])]::(I pre kk++R))) (fun(q,_,_,_)=>[(23,.int (q:Nat))]) (fun(q,_,_,_)=>(ge ss n).args.length-q) [0,1,2,4,5,6] U5 (0,dn.set n true,pre0,k0) ⟨nzl,Zrp hr hn⟩ ?_)
  rintro⟨q,ys,pre,kk⟩ ⟨f1_1,f1_2⟩
  refine qso tb hJ (r6 [1000]) [_] U7 ?_
  refine cjS 6 (fun hb2=>?_) fun hb2=>?_
  ·
   try simp at hb2
   have e4:=Za9 hok hn (j:=q) oz
   have e6:=f1_2.len
   refine Zb (nx (Zf (Zd (ZF tb hJ (r6 [1002]) [.ptr [lI (ge ((ge ss n).args) q)],_,_] [0] U7 Y ⟨iIx Zw,U⟩ ?_))))
   refine tw (sa 6 Y (congrArg AV.int (show(ge ((ge ss n).args) q)=(((ge (ge ss n).args q).toNat:Nat):Int)from by omega))) (tsq ?_)
   refine sy (.lit (.func (.func 111) #[] #[.pointer (some ⟨bd,0,none⟩),.pointer (some ⟨bp,op,none⟩),.pointer (some ⟨bv,0,none⟩),.pointer (some ⟨bj,0,none⟩)])) (fun h=>Zo Zj7 Y (Ze h.x (mo 3 Y)) (h.get 1 Y) Y h.x) ?_
   refine snK 1 tb Y (kw pm4 ?_)
   refine kw pm4 (kw pm4 ?_)
   refine kw pm3 (kw pm4 ?_)
   refine Zk8 (O:=(OB.var bd [.lit dv]::OB.row dv 4 1 (ys.map Qg)::OB.pt bp op (pfC ss)::OB.var bv [.lit (.func (.func 111) #[] #[.pointer (some ⟨bd,0,none⟩),.pointer (some ⟨bp,op,none⟩),.pointer (some ⟨bv,0,none⟩),.pointer (some ⟨bj,0,none⟩)])]::OB.var bj [.lit (.func (.yield l) #[] #[])]::I pre kk)) (R:=R) [.int ((ge (ge ss n).args q).toNat:Nat)] [.pointer (some ⟨bd,0,none⟩),.pointer (some ⟨bp,op,none⟩),.pointer (some ⟨bv,0,none⟩),.pointer (some ⟨bj,0,none⟩)] [.at bd 0,.at bp op,.at bv 0,.at bj 0] (ih (n':=((ge (ge ss n).args q).toNat)) (pre':=pre) (k':=kk) (dn':=ys) oz (vs_kid f1_2 oz) (vs_pre hok hn oz hno f1_2 hp)) Zmt Y Y Y (lb Y) (fun a w h=>(h.get 1 Y).lit) (fun a w h=>(Za (h.get 0 Y) Zc)) (fun w=>(Za (Rel.of_lit _) (Za (Rel.of_lit _) (Za (Rel.of_lit _) (Za (Rel.of_lit _) Zc))))) (fun q=>vPan0 q) (fun s1=>?_) (fun z2=>?_)
   ·
    dsimp only[List.map,ZmG]
    refine snK 1 tb Y (seK [0,4,5,6,7,8,9] U7 Y ?_)
    refine nx (cj 0 (fun hb3=>?_) fun hb3=>?_)
    ·
     try simp at hb3
     refine qso tb hJ [1000] [_] [_] ?_
     exact Zs (fun a w h=>lvP (ZK (m:=0) (.inr (s1.1,s1.2)) Y h Y Y))
    ·
     exact False.elim (by simp at hb3)
   dsimp only[List.map,ZmG]
   have ez:=z2.2
   refine snK 1 tb Y (seK [0,4,5,6,7,8,9] U7 Y ?_)
   refine nx (cj 0 (fun hb3=>?_) fun hb3=>?_)
   ·
    exact False.elim (by simp at hb3)
   ·
    try simp at hb3
    refine Zb (nx (YU tb hJ [1,2,3,4,5,1001] [.int (q+1:Nat),_] [0] U6 Y ⟨YT,U⟩ ?_))
    refine kw pm4 (kw pm4 ?_)
    refine kw pm4 (kw pm3 ?_)
    exact kw pm4 (Xk (q+1,z2.1.2.2,z2.1.1,z2.1.2.1) (r6 []) ⟨oz,Zvq hok hn oz f1_2 ez⟩)
  ·
   try simp at hb2
   have e5:q=(ge ss n).args.length:=by omega
   subst e5
   refine Zu (nx (tsq (sy (.rd (.lit (.func (.yield l) #[] #[]))) (fun h=>Zo Zj7 Y (Ze h.x (mo 4 Y)) (h.get 2 Y) Y h.x) ?_)))
   refine snK 1 tb Y (kw (ZuB [OB.row dv 4 1 (ys.map Qg),OB.var bd [.lit dv],OB.pt bp op (pfC ss),OB.var bv [.lit (.func (.func 111) #[] #[.pointer (some ⟨bd,0,none⟩),.pointer (some ⟨bp,op,none⟩),.pointer (some ⟨bv,0,none⟩),.pointer (some ⟨bj,0,none⟩)])],OB.var bj [.lit (.func (.yield l) #[] #[])]]) ?_)
   refine ZdN (O:=I pre kk) (R:=([OB.row dv 4 1 (ys.map Qg),OB.var bd [.lit dv],OB.pt bp op (pfC ss),OB.var bv [.lit (.func (.func 111) #[] #[.pointer (some ⟨bd,0,none⟩),.pointer (some ⟨bp,op,none⟩),.pointer (some ⟨bv,0,none⟩),.pointer (some ⟨bj,0,none⟩)])],OB.var bj [.lit (.func (.yield l) #[] #[])]]++R)) (xs:=[_]) (avl:=[.int (n:Nat)]) Y Y Y Y (lb Y) (fun a w h=>(h.get 1 Y).lit) (fun a w h=>Za (h.get 0 Y) Zc) (fun m' R' w1 vs hk hx hv=>hY m' R' pre n kk w1 vs (Zvr hn hno f1_2 hp) hk hx hv) (fun q=>vPan [OB.row dv 4 1 (ys.map Qg),OB.var bd [.lit dv],OB.pt bp op (pfC ss),OB.var bv [.lit (.func (.func 111) #[] #[.pointer (some ⟨bd,0,none⟩),.pointer (some ⟨bp,op,none⟩),.pointer (some ⟨bv,0,none⟩),.pointer (some ⟨bj,0,none⟩)])],OB.var bj [.lit (.func (.yield l) #[] #[])]] q) (fun s3=>?_) (fun z4=>?_)
   ·
    refine kw (ZfR [OB.row dv 4 1 (ys.map Qg),OB.var bd [.lit dv],OB.pt bp op (pfC ss),OB.var bv [.lit (.func (.func 111) #[] #[.pointer (some ⟨bd,0,none⟩),.pointer (some ⟨bp,op,none⟩),.pointer (some ⟨bv,0,none⟩),.pointer (some ⟨bj,0,none⟩)])],OB.var bj [.lit (.func (.yield l) #[] #[])]]) (snK 1 tb Y ?_)
    refine seK [0] [_] Y (nx (tw pm4 ?_))
    refine tw pm4 (tw pm4 ?_)
    refine tw pm3 (tw pm4 ?_)
    exact Zs (fun a w h=>lvP (ZK (m:=0) (.inr (s3,ys)) Y h Y Y))
   refine kw (ZfR [OB.row dv 4 1 (ys.map Qg),OB.var bd [.lit dv],OB.pt bp op (pfC ss),OB.var bv [.lit (.func (.func 111) #[] #[.pointer (some ⟨bd,0,none⟩),.pointer (some ⟨bp,op,none⟩),.pointer (some ⟨bv,0,none⟩),.pointer (some ⟨bj,0,none⟩)])],OB.var bj [.lit (.func (.yield l) #[] #[])]]) (snK 1 tb Y ?_)
   refine seK [0] [_] Y (nx (tw pm4 ?_))
   refine tw pm4 (tw pm4 ?_)
   refine tw pm3 (tw pm4 ?_)
   exact Zs (fun a w h=>lvP (ZK (m:=0) (.inl ⟨((pre++[n]),z4,ys),by first | exact Zut hr hb1 | exact Zn0 hn hno f1_2⟩) Y h Y Y))
theorem ZeR:Zur Tryz.prog 122 4 1 (.bool false):=makeT V V Y True.intro
theorem Zv6 {J:WP} (hJ:Stab J) {S:Nat→Prop} {w0:World} (hS:∀ b,w0.heap.size≤b→S b) (hJ0:J w0) {l:Nat} {κ μ σ:Type} {I:List Nat→κ→List OB} {pv:μ→Value} {O3:μ→List OB} {O4:σ→List OB} (bd bp op bv bj:Nat) (dv:Value) (ss:List Stp) (xs:List Nat) (hok:Okay ss) (hY:YldE Tryz.prog J S w0 l (fun x9=>[.int ((x9:Nat):Int)]) xs I pv O3 O4):
 ∀(n':Nat) (pre':List Nat) (k':κ) (dn':List Bool),n'<ss.length→DnR ss n' pre' dn'→ZaE (Yi ss) (n'+1) n' pre'<+:xs→FnV (ι:= { q':List Nat×κ×List Bool // Zx7 ss n' pre' dn' q'.1 q'.2.2 } ⊕ (σ×List Bool)) Tryz.prog J S w0 111 [.int (n':Nat),.at bd 0,.at bp op,.at bv 0,.at bj 0] (OB.var bd [.lit dv]::OB.row dv 4 1 ((dn').map Qg)::OB.pt bp op (pfC ss)::OB.var bv [.lit (.func (.func 111) #[] #[.pointer (some ⟨bd,0,none⟩),.pointer (some ⟨bp,op,none⟩),.pointer (some ⟨bv,0,none⟩),.pointer (some ⟨bj,0,none⟩)])]::OB.var bj [.lit (.func (.yield l) #[] #[])]::I pre' k') (fun i'=>.bool i'.isLeft) (ZmG (fun z'=>OB.var bd [.lit dv]::OB.row dv 4 1 ((z'.1.2.2).map Qg)::OB.pt bp op (pfC ss)::OB.var bv [.lit (.func (.func 111) #[] #[.pointer (some ⟨bd,0,none⟩),.pointer (some ⟨bp,op,none⟩),.pointer (some ⟨bv,0,none⟩),.pointer (some ⟨bj,0,none⟩)])]::OB.var bj [.lit (.func (.yield l) #[] #[])]::I z'.1.1 z'.1.2.1) fun s'=>OB.var bd [.lit dv]::OB.row dv 4 1 ((s'.2).map Qg)::OB.pt bp op (pfC ss)::OB.var bv [.lit (.func (.func 111) #[] #[.pointer (some ⟨bd,0,none⟩),.pointer (some ⟨bp,op,none⟩),.pointer (some ⟨bv,0,none⟩),.pointer (some ⟨bj,0,none⟩)])]::OB.var bj [.lit (.func (.yield l) #[] #[])]::O4 s'.1) pv O3:=by
 intro n
 induction n using Nat.strongRecOn with
 | ind n ih=>
  intro pre k dn hn hr hp
  exact ZrY hJ hS hJ0 bd bp op bv bj dv ss xs n dn hY pre k hok hn hr hp fun n' pre' k' dn' hlt hr' hp'=>ih n' hlt pre' k' dn' oz hr' hp'
theorem Zif {J:WP} (hJ:Stab J) (ss:List Stp) (hok:Okay ss):Zrd Tryz.prog J 110 [] [.ptr (pfC ss)] (fun x9=>[.int (x9:Nat)]) (post ss) (none):=by
 refine ZbC (N:=16) Tryz.func110 Y Y (lb Y) fun S w0 R l κ μ σ I pv O3 O4 k0 hS hJ0 hH hY=>?_
 refine YS (B:=So J S w0 16 (I ([]) k0++R) [(0,.rd (.lit (.func (.yield l) #[] #[]))),(1,.ptr (pfC ss))]) ?_ fun a w h=>h
 have hl0:=hok.1
 have hl1:=hok.2.1
 refine tsq (Zot (c:=.lit (.func (.yield l) #[] #[])) hJ Y Y Y (lb Y) (fun a w h=>(h.get 0 Y)) fun b1=>?_)
 refine seK [0,2] U2 Y (nx (tsq ?_))
 refine snK 2 tb Y (sy (.int (ss.length:Nat)) (fun h=>Qw ZN Y (h.get 0 Y) h.x) ?_)
 refine ZbJ (f:=Qg) (k:=ss.length) false ZeR Y hJ Y Y Y (lb Y) (fun a w h=>⟨(h.get 0 Y),(h.get 0 Y)⟩) sfz sfz fun v2=>?_
 refine Zv ZfK hJ Y Y Y (lb Y) fun b3=>?_
 refine Z6 (b:=b3) (off:=0) (es:=[_]) hJ hJ0 ZfT Y Y Y (lb Y) Y (fun a w h=>⟨(h.get 0 Y),(h.get 1 Y)⟩) ?_
 refine seK [0,3,5,6] U4 Y (nx (ln 1 fun hl1=>?_))
 refine tsq (Zv ZmM hJ Y Y Y (lb Y) fun b4=>?_)
 refine seK [0,1,3,4] U4 Y (nx (Zoh (m:=3) Y fun bp op=>?_))
 refine tsq (sy (.lit (.func (.func 111) #[] #[.pointer (some ⟨b3,0,none⟩),.pointer (some ⟨bp,op,none⟩),.pointer (some ⟨b4,0,none⟩),.pointer (some ⟨b1,0,none⟩)])) (fun h=>Zey (caps:=[(.tmp 3),(.tmp 1),(.tmp 4),(.tmp 2)]) Y (map_cons (h.get 2 Y).lit (map_cons (h.get 0 Y).lit (map_cons (h.get 1 Y).lit (map_cons (h.get 3 Y).lit map_nil)))) h.x) ?_)
 refine kw pm1 (Z6 (b:=b4) (off:=0) (es:=[_]) hJ hJ0 ZmX Y Y Y (lb Y) Y (fun a w h=>⟨(h.get 2 Y),(h.get 0 Y)⟩) ?_)
 refine seK [1,2] U2 Y (kw (ZjL (i:=1) (m:=0) Y Y) ?_)
 refine nx (ZO (sq (.lit (.func (.func 111) #[] #[.pointer (some ⟨b3,0,none⟩),.pointer (some ⟨bp,op,none⟩),.pointer (some ⟨b4,0,none⟩),.pointer (some ⟨b1,0,none⟩)])) Y Y (lb Y) (fun _ _ h=>Zo Zj7 Y (Ze h.x (mo 0 Y)) (h.get 1 Y) Y h.x) ?_))
 refine snK 2 tb Y (sy (.int (ss.length:Nat)) (fun h=>Qw ZN Y (h.get 0 Y) h.x) ?_)
 refine sy (.int (ss.length-1:Nat)) (fun h=>ZfY (i:=ss.length) (j:=1) Y (h.get 0 Y) (Rel.of_lit (.int .i64 1)) sfz sfz h.x) ?_
 refine kw pm4 (kw pm1 ?_)
 refine kw pm2 (kw pm4 ?_)
 refine kw pm4 (Zk8 (O:=(OB.var b3 [.lit v2]::OB.row v2 4 1 ((List.replicate ss.length false).map Qg)::OB.pt bp op (pfC ss)::OB.var b4 [.lit (.func (.func 111) #[] #[.pointer (some ⟨b3,0,none⟩),.pointer (some ⟨bp,op,none⟩),.pointer (some ⟨b4,0,none⟩),.pointer (some ⟨b1,0,none⟩)])]::OB.var b1 [.lit (.func (.yield l) #[] #[])]::I ([]) k0)) (R:=R) [.int (ss.length-1:Nat)] [.pointer (some ⟨b3,0,none⟩),.pointer (some ⟨bp,op,none⟩),.pointer (some ⟨b4,0,none⟩),.pointer (some ⟨b1,0,none⟩)] [.at b3 0,.at bp op,.at b4 0,.at b1 0] (Zv6 hJ hS hJ0 b3 bp op b4 b1 v2 ss (post ss) hok hY (ss.length-1) [] k0 (List.replicate ss.length false) oz (Zvp ss) (by rw[ZnY hok];exact List.prefix_refl _)) Zmt Y Y Y (lb Y) (fun a w h=>(h.get 4 Y).lit) (fun a w h=>(Za (h.get 0 Y) Zc)) (fun w=>(Za (Rel.of_lit _) (Za (Rel.of_lit _) (Za (Rel.of_lit _) (Za (Rel.of_lit _) Zc))))) (fun q=>ZpU q) (fun s5=>?_) (fun z6=>?_))
 ·
  dsimp only[List.map,ZmG]
  refine seK [] [] Y (kw Zz ?_)
  refine kw Zz (kw Zz ?_)
  refine kw Zz (kw Zz ?_)
  exact fun a w h=>ZiK s5.1 Y h
 dsimp only[List.map,ZmG]
 have ez:=z6.2
 refine seK [] [] Y (kw Zz ?_)
 refine kw Zz (kw Zz ?_)
 refine kw Zz (kw Zz ?_)
 exact fun a w h=>ZiL (Y) (ez.eq.trans (ZnY hok)) z6.1.2.1 Y h
end Go.Proofs.YtdfadihhfppjaaaGreatDoor
namespace Go.Proofs.YtdfadihhfppjaaaGreatDoor
structure Chg where
 reason:Int
 step:Int
 label:BA
 args:List Int
 before:Int
 after:Int
instance instInhChg:Inhabited Chg:=⟨⟨0,0,ByteArray.empty,[],0,0⟩⟩
def chC (c:Chg):List CD:=[.lit (.int .i64 c.reason),.lit (.int .i64 c.step),.lit (.string c.label),Z3 c.args,.lit (.int .i64 c.before),.lit (.int .i64 c.after)]
def Zfi (l:List Chg):CD:=.sl (l.map chC)
def Zdg (m:List Bool) (al:List Int):List Bool:=al.foldl (fun m a=>m.set a.toNat true) m
def ZfA (ss:List Stp) (m:List Bool) (i:Nat):List Bool:=if ge m i then Zdg m (ge ss i).args else m
def Zsw (n:Nat):List Bool:=(List.replicate n false).set (n-1) true
def Qp (ss:List Stp):Nat→List Bool
 | 0=>Zsw ss.length
 | k+1=>ZfA ss (Qp ss k) (ss.length-1-k)
def Y8 (ss:List Stp):List Bool:=Qp ss ss.length
def Zfg (m:List Bool):Nat:=(m.filter id).length
def ZgL (to:List Int) (al:List Int):List Int:=al.map fun a=>ge to a.toNat
def X7 (ss:List Stp) (m:List Bool):Nat→List Int×List Stp
 | 0=>(List.replicate ss.length 0,[])
 | k+1=>if ge m k then((X7 ss m k).1.set k ((X7 ss m k).2.length:Int),(X7 ss m k).2++[⟨(ge ss k).label,ZgL ((X7 ss m k).1.set k ((X7 ss m k).2.length:Int)) (ge ss k).args⟩])else X7 ss m k
def Qd (ss:List Stp):List Stp:=(X7 ss (Y8 ss) ss.length).2
def Yh (ss:List Stp):Nat:=Zfg (Y8 ss)
def Zb5 (c:Chg) (s:Stp):Stp:=⟨s.label,s.args.map fun a=>if a=c.step then ge c.args 0 else a⟩
def Y6 (ss:List Stp) (c:Chg):List Stp:=
 if c.reason=2 then Qd (ss.set c.step.toNat ⟨c.label,c.args⟩)
 else if c.step=(ss.length:Int)-1 then Qd ((ss.map (Zb5 c)).take (ge c.args 0+1).toNat)
 else Qd (ss.map (Zb5 c))
def X3 (ss:List Stp) (c:Chg):Chg:= { c with before:=(Yh ss:Int),after:=((Y6 ss c).length:Int) }
def XW (ss:List Stp) (c:Chg):Option Chg:=if(Y6 ss c).length<Yh ss then some (X3 ss c)else none
theorem ZeQ:∀(al:List Int) (m:List Bool),(Zdg m al).length=m.length
 | [],m=>rfl
 | a::al,m=>by rw[Zdg,List.foldl_cons];exact(ZeQ al _).trans yz
theorem ZpB (ss:List Stp) (m:List Bool) (i:Nat):(ZfA ss m i).length=m.length:=by
 unfold ZfA;split
 · exact ZeQ _ _
 · rfl
theorem ZcJ (ss:List Stp):∀ k,(Qp ss k).length=ss.length
 | 0=>by simp[Qp,Zsw]
 | k+1=>by rw[Qp,ZpB,ZcJ ss k]
theorem XU (ss:List Stp):(Y8 ss).length=ss.length:=ZcJ ss _
theorem Zqy (m:List Bool):Zfg m≤m.length:=List.length_filter_le _ _
theorem Zcw (ss:List Stp):Yh ss≤ss.length:=Nat.le_trans (Zqy _) (Nat.le_of_eq (XU ss))
def ZD (d:Db) (z:Int) (ss:List Stp):Int:=if ZfC d z ss=0 then(if(Yq d z ss).2.1=0 then 0 else 13)else ZfC d z ss
def ltK (a b:Chg):Bool:=decide (a.after<b.after)|| (decide (a.after=b.after)&&decide (a.step<b.step))
def Xd:Chg→List Chg→Chg
 | c,[]=>c
 | c,x::l=>Xd (if ltK x c then x else c) l
theorem ZaQ:∀(l:List Chg) (c:Chg),Xd c l=c∨Xd c l∈l
 | [],c=>.inl rfl
 | x::l,c=>by
  rw[Xd]
  rcases ZaQ l (if ltK x c then x else c)with h | h
  · by_cases hx:ltK x c=true
    · rw[if_pos hx]at h ⊢;exact .inr (by rw[h];exact List.mem_cons_self)
    · rw[if_neg hx]at h ⊢;exact .inl h
  · exact .inr (List.mem_cons_of_mem _ h)
section
variable (R:List Stp→Int) (A:List Stp→List Chg)
def Zb2:Nat→List Stp→List Chg→List Stp×List Chg×Int
 | 0,ss,l=>(ss,l,0)
 | k+1,ss,l=>match A ss with
  | []=>(ss,l,0)
  | c::cs=>if R (Y6 ss (Xd c cs))=0 then Zb2 k (Y6 ss (Xd c cs)) (l++[Xd c cs])else([],[],R (Y6 ss (Xd c cs)))
end
def ZlP (hs:List Hy) (w:BA):Bool:=hs.any fun h=>h.floating&&decide (ge h.text 1=w)
def XJ (hs:List Hy) (M:BM):List BA→List BA→Bool×Bool
 | [],t=>(decide (t.length=0),true)
 | w::p,t=>match Zy M w with
  | some y=>if y.length≤t.length∧y=t.take y.length then XJ hs M p (t.drop y.length)else(false,false)
  | none=>if ZlP hs w then(true,false)else if t.length=0∨ ¬ ge t 0=w then(false,false)else XJ hs M p (t.drop 1)
section
variable {hs:List Hy} {M:BM} {p t y p0 t0:List BA} {w:BA} {k:Nat}
theorem Zq2 (hk:k<p.length):p.drop k=ge p k::p.drop (k+1):=by rw[Yj hk];exact List.drop_eq_getElem_cons hk
theorem bg_end (h:XJ hs M p0 t0=XJ hs M (p.drop k) t) (hk:¬ k<p.length):XJ hs M p0 t0=(decide (t.length=0),true):=by
 rw[h,List.drop_eq_nil_of_le oz];rfl
theorem bg_in (h:XJ hs M p0 t0=XJ hs M (p.drop k) t) (hk:k<p.length) (hm:Zy M (ge p k)=some y) (h1:y.length≤t.length) (h2:y=t.take y.length):XJ hs M p0 t0=XJ hs M (p.drop (k+1)) (t.drop y.length):=by
 rw[h,Zq2 hk,XJ,hm];exact if_pos ⟨h1,h2⟩
theorem bg_no (h:XJ hs M p0 t0=XJ hs M (p.drop k) t) (hk:k<p.length) (hm:Zy M (ge p k)=some y) (h1:¬ (y.length≤t.length∧y=t.take y.length)):XJ hs M p0 t0=(false,false):=by
 rw[h,Zq2 hk,XJ,hm];exact if_neg h1
theorem bg_fl (h:XJ hs M p0 t0=XJ hs M (p.drop k) t) (hk:k<p.length) (hm:Zy M (ge p k)=none) (hf:ZlP hs (ge p k)=true):XJ hs M p0 t0=(true,false):=by
 rw[h,Zq2 hk,XJ,hm];exact if_pos hf
theorem bg_ne (h:XJ hs M p0 t0=XJ hs M (p.drop k) t) (hk:k<p.length) (hm:Zy M (ge p k)=none) (hf:ZlP hs (ge p k)=false) (hn:t.length=0∨ ¬ ge t 0=ge p k):XJ hs M p0 t0=(false,false):=by
 rw[h,Zq2 hk,XJ,hm];exact(if_neg (by simp[hf])).trans (if_pos hn)
theorem bg_eq (h:XJ hs M p0 t0=XJ hs M (p.drop k) t) (hk:k<p.length) (hm:Zy M (ge p k)=none) (hf:ZlP hs (ge p k)=false) (hn:¬ (t.length=0∨ ¬ ge t 0=ge p k)):XJ hs M p0 t0=XJ hs M (p.drop (k+1)) (t.drop 1):=by
 rw[h,Zq2 hk,XJ,hm];exact(if_neg (by simp[hf])).trans (if_neg hn)
end
def ZxS (hs:List Hy) (M:BM) (text:List BA):Bool:=!(text.any fun w=>!(Zy M w).isSome&&ZlP hs w)
def bdO (a b:Bd):Bool:=!Op.bytesLess b.var.toList a.var.toList
def YY (M:BM):List Bd:=(M.map fun q=>(⟨q.1,q.2⟩:Bd)).mergeSort bdO
def gvM (hs:List Hy) (es:List (List BA)):Nat→BM
 | 0=>[]
 | k+1=>if(ge hs k).floating then XK (gvM hs es k) (ge (ge hs k).text 1) ((ge es k).drop 1)else gvM hs es k
structure Jb where
 d:Db
 i:Nat
 ss:List Stp
 ts:List (List BA)
 M:List (BA×Int)
def ZsO (hs:List Hy) (M:BM) (es:List (List BA)) (j:Nat):Bool:=(ge hs j).floating|| (XJ hs M (ge hs j).text (ge es j)).1
def Zdj (j:Jb) (g:Fr) (al:List Int) (step:Nat):Bool:=
 (List.range g.hyps.length).all (ZdY g.hyps (YJ j.ts al) 0)&& (List.range g.hyps.length).all (ZsO g.hyps (gvM g.hyps (YJ j.ts al) g.hyps.length) (YJ j.ts al))&& (XJ g.hyps (gvM g.hyps (YJ j.ts al) g.hyps.length) g.text (ge j.ts step)).1&& !ZfE (YY (gvM g.hyps (YJ j.ts al) g.hyps.length)) g.apart j.d.vars (ge j.d.frames j.i).wide
def XB (t:List BA):BA:=ZiJ t ⟨#[10]⟩
def Za6 (j:Jb) (hs:List Hy) (step:Nat) (h:Hy) (M:BM):Nat×Nat:=
 if h.floating=false∧ZxS hs M h.text=true then
  if XZ (ZQ (YY M)) h.text 2000=true then match Zy j.M (XB (Xp (ZQ (YY M)) h.text))with
   | some z=>if z< (step:Int)then(z.toNat,z.toNat+1)else(0,0)
   | none=>(0,0)
  else(0,0)
 else(0,step)
def ZnQ (j:Jb) (h:Hy) (t:Nat):Bool:=decide (Zy j.M (XB (ge j.ts t))=some (t:Int))&&decide (ge (ge j.ts t) 0=ge h.text 0)
def Zjv (F:BM→List Int→List (List Int)×BM) (j:Jb) (h:Hy) (al:List Int) (q:List (List Int)×BM) (t:Nat):List (List Int)×BM:=
 if ZnQ j h t then
  (q.1++(F (if h.floating then XK q.2 (ge h.text 1) ((ge j.ts t).drop 1)else q.2) (al++[(t:Int)])).1,
   if h.floating then ZeP (F (if h.floating then XK q.2 (ge h.text 1) ((ge j.ts t).drop 1)else q.2) (al++[(t:Int)])).2 (ge h.text 1)else(F (if h.floating then XK q.2 (ge h.text 1) ((ge j.ts t).drop 1)else q.2) (al++[(t:Int)])).2)
 else q
def ZhG (j:Jb) (g:Fr) (step:Nat):List Hy→BM→List Int→List (List Int)×BM
 | [],M,al=>if(XJ g.hyps M g.text (ge j.ts step)).1 then(if Zdj j g al step then [al]else [],M)else([],M)
 | h::hs,M,al=>if(XJ g.hyps M g.text (ge j.ts step)).1 then(List.range' (Za6 j g.hyps step h M).1 ((Za6 j g.hyps step h M).2-(Za6 j g.hyps step h M).1)).foldl (Zjv (ZhG j g step hs) j h al) ([],M)else([],M)
def Zbk (j:Jb) (g:Fr) (step k:Nat) (M:BM) (al:List Int):List (List Int)×BM:=ZhG j g step (g.hyps.drop k) M al
def Zcc (j:Jb) (g:Fr) (step k:Nat) (M:BM) (al:List Int) (a n:Nat):List (List Int)×BM:=(List.range' a n).foldl (Zjv (Zbk j g step (k+1)) j (ge g.hyps k) al) ([],M)
section
variable {j:Jb} {g:Fr} {step k a n m t:Nat} {M:BM} {al:List Int} {pre xs ys:List (List Int)}
theorem Zvw (h:(XJ g.hyps M g.text (ge j.ts step)).1=false):Zbk j g step k M al=([],M):=by
 unfold Zbk
 cases g.hyps.drop k<;>simp[ZhG,h]
theorem Zuv (h:(XJ g.hyps M g.text (ge j.ts step)).1=true) (hk:k=g.hyps.length):Zbk j g step k M al=(if Zdj j g al step then [al]else [],M):=by
 subst hk
 rw[Zbk,List.drop_eq_nil_of_le nlr,ZhG,if_pos h]
theorem Zvx (h:(XJ g.hyps M g.text (ge j.ts step)).1=true) (hk:k<g.hyps.length):Zbk j g step k M al=Zcc j g step k M al (Za6 j g.hyps step (ge g.hyps k) M).1 ((Za6 j g.hyps step (ge g.hyps k) M).2-(Za6 j g.hyps step (ge g.hyps k) M).1):=by
 rw[Zbk,List.drop_eq_getElem_cons hk,←Yj hk,ZhG,if_pos h]
 rfl
theorem ZjF:Zcc j g step k M al a 0=([],M):=rfl
theorem Zel:Zcc j g step k M al a (n+1)=Zjv (Zbk j g step (k+1)) j (ge g.hyps k) al (Zcc j g step k M al a n) (a+n):=by
 rw[Zcc,List.range'_concat,List.foldl_append,Nat.one_mul];rfl
theorem rn_pre {F:BM→List Int→List (List Int)×BM} {h:Hy} {q:List (List Int)×BM}:q.1<+:(Zjv F j h al q t).1:=by
 unfold Zjv;split
 · exact List.prefix_append _ _
 · exact List.prefix_refl _
theorem ts_pre (h:n≤m):(Zcc j g step k M al a n).1<+:(Zcc j g step k M al a m).1:=by
 induction m with
 | zero=>obtain rfl:n=0:=oz;exact List.prefix_refl _
 | succ m ih=>
  rcases Nat.lt_or_ge m n with hm | hm
  · obtain rfl:n=m+1:=oz;exact List.prefix_refl _
  · exact(ih hm).trans (by rw[Zel];exact rn_pre)
theorem ZvB (h:a+n<m) (ho:ZnQ j (ge g.hyps k) (a+n)=true) (hp:pre++(Zcc j g step k M al a (m-a)).1<+:xs):
 pre++(Zcc j g step k M al a n).1++(Zbk j g step (k+1) (if(ge g.hyps k).floating then XK (Zcc j g step k M al a n).2 (ge (ge g.hyps k).text 1) ((ge j.ts (a+n)).drop 1)else(Zcc j g step k M al a n).2) (al++[((a+n:Nat):Int)])).1<+:xs:=by
 have h1:=ts_pre (j:=j) (g:=g) (step:=step) (k:=k) (M:=M) (al:=al) (a:=a) (n:=n+1) (m:=m-a) oz
 rw[Zel,Zjv,if_pos ho]at h1
 refine List.IsPrefix.trans ?_ hp
 rw[List.append_assoc]
 obtain⟨r,hr⟩:=h1
 exact⟨r,by rw[List.append_assoc,hr]⟩
theorem Zc6 (ho:ZnQ j (ge g.hyps k) (a+n)=false):Zcc j g step k M al a (n+1)=Zcc j g step k M al a n:=by
 rw[Zel,Zjv,if_neg (by simp[ho])]
end
def Zi9 (j:Jb) (g:Fr) (step:Nat):List (List Int):=(Zbk j g step 0 [] []).1
def Zc9 (j:Jb) (step:Nat):List Chg:=if(Zy j.M (XB (ge j.ts step))).getD 0< (step:Int)then [⟨1,step,⟨#[]⟩,[(Zy j.M (XB (ge j.ts step))).getD 0],0,0⟩]else []
def Znt (j:Jb) (step:Nat) (g:Fr):List Chg:=if 4<g.hyps.length then []else(Zi9 j g step).map fun al=>⟨2,step,g.label,al,0,0⟩
def Zd4 (j:Jb) (step:Nat):List Chg:=(Zc9 j step++(j.d.frames.take j.i).flatMap (Znt j step)).filterMap (XW j.ss)
def Zb3 (j:Jb):List Chg:=(List.range j.ss.length).flatMap (Zd4 j)
def ZaX (ts:List (List BA)):Nat→List (BA×Int)
 | 0=>[]
 | k+1=>XK (ZaX ts k) (XB (ge ts (ts.length-1-k))) ((ts.length-1-k:Nat):Int)
def jbG (d:Db) (z:Int) (ss:List Stp):Jb:=⟨d,z.toNat,ss,(Yq d z ss).1,ZaX (Yq d z ss).1 (Yq d z ss).1.length⟩
theorem Zkv {d:Db} {z:Int} (ss:List Stp) (c:Chg) (h:c∈Zb3 (jbG d z ss)):(Y6 ss c).length<Yh ss:=by
 obtain⟨s,_,h1⟩:=List.mem_flatMap.1 h
 obtain⟨c0,_,h2⟩:=List.mem_filterMap.1 h1
 unfold XW at h2
 split at h2
 · rename_i h3
   obtain rfl:=Option.some.inj h2
   exact h3
 · cases h2
def Y5 (d:Db) (z:Int) (ss:List Stp) (most:Nat):List Stp×List Chg×Int:=
 if ZD d z ss=0 then Zb2 (ZD d z) (fun s=>Zb3 (jbG d z s)) most ss []else([],[],ZD d z ss)
def syD (d:Db) (s:BA):Prop:=s∈d.consts∨s∈d.vars
section
variable {d:Db}
theorem ZfO {s:BA} (h:ZfP s=true):s.size≤60:=by
 simp only[ZfP,Bool.and_eq_true,decide_eq_true_eq]at h
 omega
theorem ZhW (h:Zdu d=0):∀ s,syD d s→s.size≤60:=by
 unfold Zdu at h
 split at h
 · rename_i h2
   rw[h]at h2
   simp at h2
 · rename_i h2
   have h2:Xy d.consts.length (ZhI d)=0:=by simpa using h2
   rintro s (hs | hs)
   · obtain⟨j,hj,rfl⟩:=Xc hs
     have h3:=Xw h2 j hj
     unfold ZhI at h3
     cases h4:ZfP (ge d.consts j)with
     | true=>exact ZfO h4
     | false=>rw[h4]at h3;cases h3
   · obtain⟨j,hj,rfl⟩:=Xc hs
     have h3:=Xw h j hj
     unfold ZkU at h3
     cases h4:ZfP (ge d.vars j)with
     | true=>exact ZfO h4
     | false=>rw[h4]at h3;cases h3
theorem Zqa {l:List BA} (h:ZbB d l=0):∀ s∈l,syD d s:=by
 unfold ZbB Znv at h
 split at h
 · rename_i h1
   simp only[Bool.and_eq_true,decide_eq_true_eq,List.all_eq_true,List.mem_range,Bool.or_eq_true,ZfN]at h1
   intro s hs
   obtain⟨j,hj,rfl⟩:=Xc hs
   rcases h1.2 j hj with rfl | h2
   · exact .inl h1.1
   · exact h2
 · cases h
theorem hyp_sy {k:Nat} {y:Hy} {bs:List Hy} {dm:Bool} (h:ZpX d k y bs dm=0):∀ s∈y.text,syD d s:=by
 have h1:=Zbz h
 unfold ZpX at h
 split at h
 · cases h
 split at h
 · cases h
 split at h
 · cases h
 split at h
 · cases h
 rename_i h4
 cases hf:y.floating with
 | true=>
  have h5:=YN h1 hf
  simp[Zgb,hf]at h4
  match y.text,h5,h4 with
  | [a,b],_,h4=>
   intro s hs
   simp only[List.mem_cons,List.not_mem_nil,or_false]at hs
   rcases hs with rfl | rfl
   · exact .inl h4.1
   · exact .inr h4.2
 | false=>
  split at h
  · rename_i h5
    rw[h]at h5
    simp at h5
  · rename_i h5
    simp only[hf,Bool.not_false,Bool.true_and,Bool.not_eq_true',decide_eq_false_iff_not,Decidable.not_not]at h5
    exact Zqa h5
theorem ZqF (h:ZcU d=0):∀ g∈d.frames,(∀ y∈g.hyps++g.dummies,∀ s∈y.text,syD d s)∧∀ s∈g.text,syD d s:=fun g hg=>by
 obtain⟨k,hk,rfl⟩:=Xc hg
 have h:=ZqG h k hk
 unfold frE ZwX at h
 split at h
 · cases h
 split at h
 · cases h
 split at h
 · cases h
 split at h
 · rename_i h2
   rw[h]at h2
   simp at h2
 rename_i h3
 have h3:Zu0 d k=0:=by simpa using h3
 split at h
 · cases h
 split at h
 · rename_i h2
   rw[h]at h2
   simp at h2
 rename_i h5
 refine⟨fun y hy=>?_,Zqa (by simpa using h5)⟩
 obtain⟨j,hj,rfl⟩:=Xc hy
 exact hyp_sy (Xw h3 j hj)
theorem Zq8 {p:BA→Prop} {l:List Bd} {text:List BA} (hl:∀ b∈l,∀ s∈b.text,p s) (ht:∀ s∈text,p s):∀ s∈Xp (ZQ l) text,p s:=fun s hs=>by
 obtain⟨w,hw,h1⟩:=List.mem_flatMap.1 hs
 unfold XP at h1
 rw[ZeN]at h1
 cases hf:l.find? fun b=>decide (b.var=w)with
 | none=>
  rw[hf]at h1
  obtain rfl:s=w:=by simpa using h1
  exact ht _ hw
 | some b=>
  rw[hf]at h1
  exact hl b (List.mem_of_find?_eq_some hf) s h1
theorem ZxR {p:BA→Prop} {hs:List Hy} {es:List (List BA)} {n:Nat} (hn:n≤es.length) (h:∀ t∈es,∀ s∈t,p s):∀ b∈Ql hs es 0 n,∀ s∈b.text,p s:=fun b hb s hs'=>by
 obtain⟨j,hj,h1⟩:=List.mem_filterMap.1 hb
 have hj:=List.mem_range.1 hj
 unfold Zuj at h1
 split at h1
 · obtain rfl:=Option.some.inj h1
   rw[Nat.zero_add]at hs'
   exact h _ (Zp oz) s (List.mem_of_mem_drop hs')
 · cases h1
theorem stp_sy (hck:ZcU d=0) {i:Nat} (hi:i<d.frames.length) {s:Stp} {a:List (List BA)} (ha:∀ t∈a,∀ w∈t,syD d w) (hg:∀ x∈s.args,x.toNat<a.length):∀ w∈(ZaI d i s a).1,syD d w:=by
 unfold ZaI
 split
 · intro w hw;cases hw
 split
 · rename_i h he
   split
   · intro w hw;cases hw
   · exact(ZqF hck _ (Zp hi)).1 h (List.mem_of_find?_eq_some he)
 split
 · intro w hw;cases hw
 split
 · intro w hw;cases hw
 rename_i h1 h2
 have h3:=ZhB (d:=d) (i:=i) (s:=s.label) oz
 have h4:=ZqF hck _ (Zp h3.2.2)
 have h5:∀ t∈YJ a s.args,∀ w∈t,syD d w:=fun t ht=>by
  obtain⟨x,hx,rfl⟩:=List.mem_map.1 ht
  exact ha _ (Zp (hg x hx))
 unfold Zb4 ZmN
 split
 · rename_i t he
   split at he
   · cases he
   split at he
   · cases he
   split at he
   · cases he
   split at he
   · cases he
   · obtain rfl:=Except.ok.inj he
     exact Zq8 (ZxR (by simp[YJ];omega) h5) h4.2
 · intro w hw;cases hw
theorem Zw1 (hck:ZcU d=0) {i:Nat} (hi:i<d.frames.length) {ss:List Stp} (hok:Okay ss):∀ k,k≤ss.length→∀ t∈fmG d i ss k,∀ w∈t,syD d w
 | 0,_=>fun t ht=>by cases ht
 | k+1,hk=>fun t ht=>by
  rw[fmG]at ht
  rcases List.mem_append.1 ht with ht | ht
  · exact Zw1 hck hi hok k oz t ht
  · obtain rfl:=List.mem_singleton.1 ht
    refine stp_sy hck hi (Zw1 hck hi hok k oz) fun x hx=>?_
    have h1:=(hok.2.2 k oz).2 x (by rw[←Yj (show k<ss.length by omega)];exact hx)
    rw[Ze3];omega
end
theorem Zga {n:Nat} {sep:List UInt8}:∀ {l:List (List UInt8)},(∀ x∈l,x.length≤n)→(Lib.join l sep).length≤l.length*(n+sep.length)
 | [],_=>by simp[Lib.join]
 | [x],h=>by have:=h x yz;simp[Lib.join,List.intercalate];omega
 | x::y::l,h=>by
  have h1:=h x yz
  have h2:=Zga (sep:=sep) (l:=y::l) fun z hz=>h z (List.mem_cons_of_mem _ hz)
  have h3:Lib.join (x::y::l) sep=x++sep++Lib.join (y::l) sep:=by simp[Lib.join,List.intercalate,List.intersperse]
  rw[h3,List.length_append,List.length_append,List.length_cons (a:=x),Nat.add_mul]
  omega
theorem ZpP {t:List BA} (h:∀ s∈t,s.size≤60):(Lib.join (t.map (·.data.toList)) (⟨#[10]⟩:BA).data.toList).length≤t.length*61:=by
 have h1:∀ x∈t.map (·.data.toList),x.length≤60:=fun x hx=>by
  obtain⟨s,hs,rfl⟩:=List.mem_map.1 hx
  exact h s hs
 have:=Zga (sep:=(⟨#[10]⟩:BA).data.toList) h1
 simpa using this
def WkB (l:List Bd):Prop:=l.Pairwise fun a b=>ZaC b.var a.var<0→False
theorem ZjH {x y:BA} (h:x.toList=y.toList):x=y:=by
 have:=cmpX_eq (x:=x) (y:=y)
 refine this.1 ?_
 unfold ZaC
 rw[h,if_neg (by rw[Zac];simp)]
 by_cases e:x=y
 · exact if_pos e
 · have h2:=QW x y
   simp_all
theorem Zq3:∀ {l m:List Bd},l.Perm m→(l.map Bd.var).Nodup→WkB l→WkB m→l=m
 | [],m,hp,_,_,_=>by rw[List.nil_perm.1 hp]
 | a::l,[],hp,_,_,_=>by simp at hp
 | a::l,b::m,hp,hn,hl,hm=>by
  have h1:a=b:=by
   rcases List.mem_cons.1 (hp.mem_iff.1 (List.mem_cons_self (a:=a)))with h | h
   · exact h
   · rcases List.mem_cons.1 (hp.mem_iff.2 (List.mem_cons_self (a:=b)))with h2 | h2
     · exact h2.symm
     · have h3:=(List.pairwise_cons.1 hl).1 b h2
       have h4:=(List.pairwise_cons.1 hm).1 a h
       rw[cmpX_lt]at h3 h4
       have h5:=ZjH (ZbW _ _ (by simpa using h4) (by simpa using h3))
       rw[List.map_cons,List.nodup_cons]at hn
       exact absurd (List.mem_map_of_mem (f:=Bd.var) h2) (by rw[←h5];exact hn.1)
  subst h1
  rw[List.map_cons,List.nodup_cons]at hn
  rw[Zq3 (hp.cons_inv) hn.2 (List.pairwise_cons.1 hl).2 (List.pairwise_cons.1 hm).2]
theorem bdO_tr (a b c:Bd) (h1:bdO a b=true) (h2:bdO b c=true):bdO a c=true:=by
 simp only[bdO,Bool.not_eq_true']at h1 h2 ⊢
 cases h3:Op.bytesLess c.var.toList a.var.toList with
 | false=>rfl
 | true=>
  rcases hb:Op.bytesLess b.var.toList c.var.toList with _ | _
  · have:=ZbW _ _ hb h2
    rw[this]at h1
    rw[h1]at h3;cases h3
  · have:=Zbj _ _ _ hb h3
    rw[h1]at this;cases this
theorem ZxT (a b:Bd):(bdO a b||bdO b a)=true:=by
 simp only[bdO]
 cases h1:Op.bytesLess b.var.toList a.var.toList with
 | false=>simp
 | true=>
  cases h2:Op.bytesLess a.var.toList b.var.toList with
  | false=>simp
  | true=>have:=Zbj _ _ _ h1 h2;rw[Zac]at this;cases this
theorem ZiE (M:BM):(YY M).Perm (M.map fun q=>(⟨q.1,q.2⟩:Bd)):=List.mergeSort_perm _ _
theorem Zwz (M:BM):WkB (YY M):=by
 have:=List.pairwise_mergeSort (le:=bdO) bdO_tr ZxT (M.map fun q=>(⟨q.1,q.2⟩:Bd))
 refine this.imp fun {a b} h h2=>?_
 rw[cmpX_lt]at h2
 simp[bdO,h2]at h
theorem ZwA {M:BM} {qs:List Bd} (hn:(M.map Prod.fst).Nodup) (hp:qs.Perm (M.map fun q=>(⟨q.1,q.2⟩:Bd))) (hw:WkB qs):qs=YY M:=by
 refine Zq3 (hp.trans (ZiE M).symm) ?_ hw (Zwz M)
 have h1:=(hp.map Bd.var).nodup_iff
 rw[h1,List.map_map]
 exact hn
def ZfD {α:Type} [Inhabited α] (xs:List α):List (Nat×α):=(List.range xs.length).map fun k=>(xs.length-1-k,ge xs (xs.length-1-k))
section
variable {α:Type} [Inhabited α] {xs:List α} {k:Nat} {pre:List (Nat×α)} {x:Nat×α}
theorem Zja:(ZfD xs).length=xs.length:=by simp[ZfD]
theorem ZkF (h:k<xs.length):(ZfD xs).take k++[(xs.length-1-k,ge xs (xs.length-1-k))]=(ZfD xs).take (k+1):=by
 rw[List.take_succ_eq_append_getElem (by rw[Zja];exact h)]
 simp[ZfD]
theorem Zvd (h:k<xs.length):(ZfD xs).take k++[(xs.length-1-k,ge xs (xs.length-1-k))]<+:ZfD xs:=by
 rw[ZkF h];exact List.take_prefix _ _
theorem Zve:(ZfD xs).take xs.length=ZfD xs:=List.take_of_length_le (by rw[Zja];exact Nat.le_refl _)
theorem bw_at (h:(pre++[x])<+:ZfD xs):pre.length<xs.length∧x.1=xs.length-1-pre.length∧x.2=ge xs x.1:=by
 obtain⟨r,hr⟩:=h
 have h1:pre.length< (ZfD xs).length:=by rw[←hr];simp
 rw[Zja]at h1
 have h2:(ZfD xs)[pre.length]?=some x:=by rw[←hr,List.append_assoc,List.getElem?_append_right nlr];simp
 have h3:(ZfD xs)[pre.length]?=some (xs.length-1-pre.length,ge xs (xs.length-1-pre.length)):=by
  simp[ZfD,h1]
 rw[h3]at h2
 obtain rfl:=Option.some.inj h2
 exact⟨h1,rfl,rfl⟩
end
section
variable {ss:List Stp} {k q:Nat} {m:List Bool} {to:List Int} {al:List Int}
theorem Zwy (h:q<al.length):(Zdg m (al.take q)).set (ge al q).toNat true=Zdg m (al.take (q+1)):=by
 rw[Zdg,Zdg,Ze1 h]
theorem ZuY (h:ge m k=true) (hq:q=(ge ss k).args.length):Zdg m ((ge ss k).args.take q)=ZfA ss m k:=by
 rw[ZfA,if_pos h,hq,List.take_length]
theorem ms_no (h:ge m k=false):ZfA ss m k=m:=by rw[ZfA,if_neg (by simp[h])]
theorem Zku (h:k<m.length):Zfg (m.take (k+1))=Zfg (m.take k)+(if ge m k then 1 else 0):=by
 rw[Zfg,Zfg,ZZ h,List.filter_append,List.length_append]
 cases ge m k<;>simp
theorem cn_all (h:k=m.length):Zfg (m.take k)=Zfg m:=by rw[h,List.take_length]
theorem Zv5 (h:q<al.length):ZgL to (al.take q)++[ge to (ge al q).toNat]=ZgL to (al.take (q+1)):=by
 rw[ZgL,ZgL,ZZ h,List.map_append];rfl
theorem ZrW (h:ge m k=false):X7 ss m (k+1)=X7 ss m k:=by rw[X7,if_neg (by simp[h])]
theorem Zic (h:ge m k=true):X7 ss m (k+1)=((X7 ss m k).1.set k ((X7 ss m k).2.length:Int),(X7 ss m k).2++[⟨(ge ss k).label,ZgL ((X7 ss m k).1.set k ((X7 ss m k).2.length:Int)) (ge ss k).args⟩]):=by rw[X7,if_pos h]
theorem Zo3 (ss:List Stp) (m:List Bool):∀ k,(X7 ss m k).1.length=ss.length∧(X7 ss m k).2.length≤k
 | 0=>by simp[X7]
 | k+1=>by
  have:=Zo3 ss m k
  rw[X7];split
  · simp;omega
  · omega
end
theorem ZdU {ss:List Stp} (h:Okay ss) {k:Nat} {s:Stp} (hs:s.args.length≤40∧∀ a∈s.args,0≤a∧a< (k:Int)):Okay (ss.set k s):=by
 refine⟨by simpa using h.1,by simpa using h.2.1,fun i hi=>?_⟩
 rw[List.getElem_set]
 split
 · rename_i e;subst e;exact hs
 · exact h.2.2 i (by simpa using hi)
theorem Zsq {ss:List Stp} (h:Okay ss) {f:Stp→Stp} (hf:∀ i (hi:i<ss.length),(f ss[i]).args.length≤40∧∀ a∈(f ss[i]).args,0≤a∧a< (i:Int)):Okay (ss.map f):=by
 refine⟨by simpa using h.1,by simpa using h.2.1,fun i hi=>?_⟩
 rw[List.getElem_map]
 exact hf i (by simpa using hi)
theorem ZcH {ss:List Stp} (h:Okay ss) {k:Nat} (h0:1≤k):Okay (ss.take k):=by
 have h1:=h.1
 have h2:=h.2.1
 refine⟨by rw[List.length_take];omega,by rw[List.length_take];omega,fun i hi=>?_⟩
 rw[List.getElem_take]
 exact h.2.2 i (by rw[List.length_take]at hi;omega)
theorem Zf5 {ss:List Stp} (h:Okay ss) {c:Chg} (h0:0≤ge c.args 0) (h1:ge c.args 0<c.step):Okay (ss.map (Zb5 c)):=by
 refine Zsq h fun i hi=>?_
 obtain⟨h2,h3⟩:=h.2.2 i hi
 refine⟨by simpa [Zb5]using h2,fun a ha=>?_⟩
 obtain⟨b,hb,rfl⟩:=List.mem_map.1 ha
 have h4:=h3 b hb
 split
 · rename_i e;omega
 · exact h4
def wVd:BA:=⟨#[124,45]⟩
def wA (c:UInt8):BA:=⟨#[c]⟩
def exF (label to:UInt8) (fr:List UInt8) (thm:Bool):Fr:=⟨wA label,thm,fr.map fun s=>⟨⟨#[label,s]⟩,false,[wVd,wA s]⟩,[],[wVd,wA to],[],[],[]⟩
def exDb:Db:=⟨[wVd,wA 112,wA 113,wA 114],[],[exF 97 112 [] false,exF 98 113 [112] false,exF 99 114 [113] false,exF 100 113 [114] false,exF 116 113 [] true]⟩
def ZhH:List Stp:=[⟨wA 97,[]⟩,⟨wA 98,[0]⟩,⟨wA 99,[1]⟩,⟨wA 100,[2]⟩]
theorem ex_chk:ZfC exDb 4 ZhH=0:=by decide+kernel
theorem Zu6:Yq exDb 4 ZhH=([[wVd,wA 112],[wVd,wA 113],[wVd,wA 114],[wVd,wA 113]],(0,0)):=by decide+kernel
theorem Zs9:ZD exDb 4 ZhH=0:=by rw[ZD,if_pos ex_chk,Zu6];rfl
theorem Zxa:Zc9 (jbG exDb 4 ZhH) 3=[⟨1,3,⟨#[]⟩,[1],0,0⟩]:=by
 have h:(Zy (jbG exDb 4 ZhH).M (XB (ge (jbG exDb 4 ZhH).ts 3))).getD 0=1:=by
  simp only[jbG,Zu6];decide+kernel
 rw[Zc9,h];rfl
theorem Zxb:XW ZhH ⟨1,3,⟨#[]⟩,[1],0,0⟩=some ⟨1,3,⟨#[]⟩,[1],4,2⟩:=by
 have h1:Yh ZhH=4:=by decide+kernel
 have h2:(Y6 ZhH ⟨1,3,⟨#[]⟩,[1],0,0⟩).length=2:=by decide+kernel
 rw[XW,X3,h1,h2];rfl
theorem ex_law:∃ l,Zd4 (jbG exDb 4 ZhH) 3=⟨1,3,⟨#[]⟩,[1],4,2⟩::l:=by
 have h:XW (jbG exDb 4 ZhH).ss ⟨1,3,⟨#[]⟩,[1],0,0⟩=some ⟨1,3,⟨#[]⟩,[1],4,2⟩:=Zxb
 rw[Zd4,Zxa,List.singleton_append,List.filterMap_cons,h]
 exact⟨_,rfl⟩
theorem Zjn {c:UInt8}:∀ {a b x y:List UInt8},(∀ z∈a,z≠c)→(∀ z∈b,z≠c)→a++c::x=b++c::y→a=b∧x=y
 | [],[],x,y,_,_,h=>⟨rfl,by simpa using h⟩
 | [],z::b,x,y,_,hb,h=>by
  have h1:c=z:=by simpa using(List.cons.inj h).1
  exact absurd h1.symm (hb z yz)
 | z::a,[],x,y,ha,_,h=>by
  have h1:z=c:=by simpa using(List.cons.inj h).1
  exact absurd h1 (ha z yz)
 | z::a,w::b,x,y,ha,hb,h=>by
  obtain⟨h1,h2⟩:=List.cons.inj h
  obtain⟨h3,h4⟩:=Zjn (fun q hq=>ha q (List.mem_cons_of_mem _ hq)) (fun q hq=>hb q (List.mem_cons_of_mem _ hq)) h2
  exact⟨by rw[h1,h3],h4⟩
theorem ZdZ {x y:List UInt8} {l:List (List UInt8)} {c:UInt8}:Lib.join (x::y::l) [c]=x++c::Lib.join (y::l) [c]:=by
 simp[Lib.join,List.intercalate,List.intersperse]
theorem ZlO {c:UInt8}:∀ {l m:List (List UInt8)},l≠[]→m≠[]→(∀ x∈l,∀ z∈x,z≠c)→(∀ x∈m,∀ z∈x,z≠c)→Lib.join l [c]=Lib.join m [c]→l=m
 | [],_,h,_,_,_,_=>absurd rfl h
 | _,[],_,h,_,_,_=>absurd rfl h
 | [x],[y],_,_,_,_,h=>by simpa [Lib.join,List.intercalate]using h
 | [x],y::z::m,_,_,hl,_,h=>by
  rw[ZdZ]at h
  have h1:Lib.join [x] [c]=x:=by simp[Lib.join,List.intercalate]
  rw[h1]at h
  exact absurd rfl (hl x yz c (by rw[h];simp))
 | x::z::l,[y],_,_,_,hm,h=>by
  rw[ZdZ]at h
  have h1:Lib.join [y] [c]=y:=by simp[Lib.join,List.intercalate]
  rw[h1]at h
  exact absurd rfl (hm y yz c (by rw[←h];simp))
 | x::z::l,y::w::m,_,_,hl,hm,h=>by
  rw[ZdZ,ZdZ]at h
  obtain⟨h1,h2⟩:=Zjn (hl x yz) (hm y yz) h
  rw[h1,ZlO yz yz (fun q hq=>hl q (List.mem_cons_of_mem _ hq)) (fun q hq=>hm q (List.mem_cons_of_mem _ hq)) h2]
theorem Zk5 {d:Db} (h:Zdu d=0):∀ s,syD d s→∀ z∈s.data.toList,z≠10:=by
 have key:∀ {s:BA},ZfP s=true→∀ z∈s.data.toList,z≠10:=fun {s} hs z hz e=>by
  simp only[ZfP,Zvn,Bool.and_eq_true,List.all_eq_true]at hs
  have:=hs.2.1.1 z hz
  rw[e]at this
  revert this;decide
 unfold Zdu at h
 split at h
 · rename_i h2
   rw[h]at h2
   simp at h2
 · rename_i h2
   have h2:Xy d.consts.length (ZhI d)=0:=by simpa using h2
   rintro s (hs | hs)
   · obtain⟨j,hj,rfl⟩:=Xc hs
     have h3:=Xw h2 j hj
     unfold ZhI at h3
     cases h4:ZfP (ge d.consts j)with
     | true=>exact key h4
     | false=>rw[h4]at h3;cases h3
   · obtain⟨j,hj,rfl⟩:=Xc hs
     have h3:=Xw h j hj
     unfold ZkU at h3
     cases h4:ZfP (ge d.vars j)with
     | true=>exact key h4
     | false=>rw[h4]at h3;cases h3
theorem Zok:∀ {a b:List BA},a.map (·.data.toList)=b.map (·.data.toList)→a=b
 | [],[],_=>rfl
 | [],_::_,h=>by simp at h
 | _::_,[],h=>by simp at h
 | x::a,y::b,h=>by
  rw[List.map_cons,List.map_cons]at h
  obtain⟨h1,h2⟩:=List.cons.inj h
  have h3:x=y:=ByteArray.ext (Array.toList_inj.1 h1)
  rw[h3,Zok h2]
theorem ZwI {d:Db} (hd:Zdu d=0) {a b:List BA} (h1:a≠[]) (h2:b≠[]) (ha:∀ s∈a,syD d s) (hb:∀ s∈b,syD d s) (h:XB a=XB b):a=b:=by
 have h3:Lib.join (a.map (·.data.toList)) [10]=Lib.join (b.map (·.data.toList)) [10]:=by
  have:=congrArg (fun s:BA=>s.data.toList) h
  simpa [XB,ZiJ]using this
 refine Zok (ZlO (by simpa using h1) (by simpa using h2) (fun x hx=>?_) (fun x hx=>?_) h3)
 · obtain⟨s,hs,rfl⟩:=List.mem_map.1 hx
   exact Zk5 hd s (ha s hs)
 · obtain⟨s,hs,rfl⟩:=List.mem_map.1 hx
   exact Zk5 hd s (hb s hs)
section
variable {ts:List (List BA)} {s:BA} {z:Int} {i:Nat}
theorem Zqi:∀ k,k≤ts.length→∀ z,Zy (ZaX ts k) s=some z→ts.length-k≤z.toNat∧0≤z∧z< (ts.length:Int)∧XB (ge ts z.toNat)=s∧∀ j,ts.length-k≤j→j<z.toNat→XB (ge ts j)≠s
 | 0,_,z,h=>by cases h
 | k+1,hk,z,h=>by
  rw[ZaX,QO]at h
  split at h
  · rename_i e
    obtain rfl:=Option.some.inj h
    refine⟨oz,oz,oz,?_,fun j h1 h2=>by omega⟩
    rw[e];rfl
  · rename_i e
    obtain⟨h1,h2,h3,h4,h5⟩:=Zqi k oz z h
    refine⟨oz,h2,h3,h4,fun j h6 h7=>?_⟩
    by_cases h8:j=ts.length-1-k
    · rw[h8];exact fun e2=>e e2.symm
    · exact h5 j oz h7
theorem Zl3:∀ k,k≤ts.length→∀ i,ts.length-k≤i→i<ts.length→∃ z,Zy (ZaX ts k) (XB (ge ts i))=some z∧z≤(i:Int)
 | 0,_,i,h1,h2=>by omega
 | k+1,hk,i,h1,h2=>by
  rw[ZaX]
  by_cases e:XB (ge ts i)=XB (ge ts (ts.length-1-k))
  · exact⟨_,by rw[QO,if_pos e],oz⟩
  · have h3:¬ i=ts.length-1-k:=fun h=>e (by rw[h])
    obtain⟨z,hz,hl⟩:=Zl3 k oz i oz h2
    exact⟨z,by rw[QO,if_neg e];exact hz,hl⟩
theorem ZiX (h:Zy (ZaX ts ts.length) s=some z):0≤z∧z< (ts.length:Int)∧XB (ge ts z.toNat)=s∧∀ j,j<z.toNat→XB (ge ts j)≠s:=by
 obtain⟨_,h2,h3,h4,h5⟩:=Zqi ts.length nlr z h
 exact⟨h2,h3,h4,fun j hj=>h5 j oz hj⟩
theorem Zkp (h:i<ts.length):∃ z,Zy (ZaX ts ts.length) (XB (ge ts i))=some z∧0≤z∧z≤(i:Int):=by
 obtain⟨z,hz,hl⟩:=Zl3 ts.length nlr i oz h
 exact⟨z,hz,(ZiX hz).1,hl⟩
end
section
variable {j:Jb} {hs:List Hy} {step t:Nat} {h:Hy} {M:BM}
theorem Zov (hm:∀ s z,Zy j.M s=some z→0≤z):(Za6 j hs step h M).2≤step:=by
 unfold Za6
 split
 · split
   · split
     · split
       · rename_i z he h1
         have:=hm _ _ he
         dsimp only;omega
       · exact Nat.zero_le _
     · exact Nat.zero_le _
   · exact Nat.zero_le _
 · exact Nat.le_refl _
end
inductive Nd (ss:List Stp):Nat→Prop
 | last:Nd ss (ss.length-1)
 | kid {i a:Nat}:Nd ss i→i<ss.length→a∈Yi ss i→Nd ss a
section
variable {ss:List Stp} {m:List Bool} {i k:Nat}
theorem ZeW {l:List Bool} {a i:Nat}:ge (l.set a true) i=(ge l i||decide (a=i∧i<l.length)):=by
 simp only[ge,List.getD_eq_getElem?_getD,List.getElem?_set]
 by_cases h:a=i
 · subst h
   by_cases h2:a<l.length
   · simp[h2]
   · simp[h2]
 · simp[h]
theorem ZlL:∀(al:List Int) (m:List Bool),ge (Zdg m al) i=(ge m i||decide (i∈al.map Int.toNat∧i<m.length))
 | [],m=>by simp[Zdg]
 | a::al,m=>by
  rw[Zdg,List.foldl_cons]
  have h:=ZlL al (m.set a.toNat true)
  rw[Zdg]at h
  rw[h,ZeW,List.length_set,List.map_cons]
  by_cases h1:a.toNat=i
  · subst h1
    by_cases h2:a.toNat<m.length<;>simp[h2]
  · have h3:¬ i=a.toNat:=fun e=>h1 e.symm
    simp[h1,h3]
theorem ZdW (hk:k<ss.length):ge (ZfA ss m k) i=(ge m i|| (ge m k&&decide (i∈Yi ss k∧i<m.length))):=by
 unfold ZfA
 split
 · rename_i h
   rw[ZlL,h,Bool.true_and,QA hk,Yj hk]
 · rename_i h
   have h:ge m k=false:=by simpa using h
   rw[h];simp
theorem ZlM {n:Nat} (hn:0<n):ge (Zsw n) i=decide (i=n-1):=by
 rw[Zsw,ZeW]
 have h:ge (List.replicate n false) i=false:=by
  simp only[ge,List.getD_eq_getElem?_getD,List.getElem?_replicate]
  split<;>rfl
 rw[h,Bool.false_or,List.length_replicate]
 by_cases e:i=n-1
 · simp[e];omega
 · simp[e];omega
theorem Zg2 (hok:Okay ss):∀ k,k≤ss.length→∀ i,ge (Qp ss k) i=true→Nd ss i
 | 0,_,i,h=>by
  rw[Qp,ZlM hok.1]at h
  rw[of_decide_eq_true h];exact .last
 | k+1,hk,i,h=>by
  rw[Qp,ZdW oz]at h
  rcases Bool.or_eq_true_iff.1 h with h | h
  · exact Zg2 hok k oz i h
  · obtain⟨h1,h2⟩:=Bool.and_eq_true_iff.1 h
    exact .kid (Zg2 hok k oz _ h1) oz (of_decide_eq_true h2).1
theorem ZlK (k:Nat) (hk:k<ss.length) (h:ge (Qp ss k) i=true):ge (Qp ss (k+1)) i=true:=by
 rw[Qp,ZdW oz,h,Bool.true_or]
theorem Zf8 (hok:Okay ss):∀ k,k≤ss.length→ge (Qp ss k) (ss.length-1)=true
 | 0,_=>by rw[Qp,ZlM hok.1];simp
 | k+1,hk=>ZlK k oz (Zf8 hok k oz)
theorem ZiA (hok:Okay ss):∀ k,k≤ss.length→∀ j a,ss.length-k≤j→j<ss.length→ge (Qp ss k) j=true→a∈Yi ss j→ge (Qp ss k) a=true
 | 0,_,j,a,h1,h2,_,_=>by omega
 | k+1,hk,j,a,h1,h2,h3,h4=>by
  have hl:=ZcJ ss k
  have ha:=hok.kid h4
  rw[Qp,ZdW oz]at h3
  by_cases e:j=ss.length-1-k
  · subst e
    have h5:ge (Qp ss k) (ss.length-1-k)=true:=by
     rcases Bool.or_eq_true_iff.1 h3 with h | h
     · exact h
     · exact(Bool.and_eq_true_iff.1 h).1
    rw[Qp,ZdW oz,h5]
    simp[h4];omega
  · have h5:ge (Qp ss k) j=true:=by
     rcases Bool.or_eq_true_iff.1 h3 with h | h
     · exact h
     · have h6:=(of_decide_eq_true (Bool.and_eq_true_iff.1 h).2).1
       have:=hok.kid h6
       omega
    exact ZlK k oz (ZiA hok k oz j a oz h2 h5 h4)
theorem Zap (hok:Okay ss):ge (Y8 ss) i=true↔Nd ss i:=by
 constructor
 · exact Zg2 hok ss.length nlr i
 · intro h
   induction h with
   | last=>exact Zf8 hok ss.length nlr
   | kid h1 h2 h3 ih=>exact ZiA hok ss.length nlr _ _ oz h2 ih h3
theorem Nd.lt (hok:Okay ss) (h:Nd ss i):i<ss.length:=by
 induction h with
 | last=>have:=hok.1;omega
 | kid h1 h2 h3 ih=>have:=hok.kid h3;omega
theorem Zog (hok:Okay ss):∀(f x:Nat) (o:List Nat),Nd ss x→(∀ y∈o,Nd ss y)→∀ y∈ZaE (Yi ss) f x o,Nd ss y
 | 0,x,o,hx,ho,y,hy=>ho y hy
 | f+1,x,o,hx,ho,y,hy=>by
  rw[ZaE]at hy
  split at hy
  · exact ho y hy
  · rcases List.mem_append.1 hy with hy | hy
    · have key:∀(l:List Nat) (o:List Nat),(∀ a∈l,a∈Yi ss x)→(∀ y∈o,Nd ss y)→∀ y∈l.foldl (fun o a=>ZaE (Yi ss) f a o) o,Nd ss y:=by
       intro l
       induction l with
       | nil=>exact fun o _ ho=>ho
       | cons a l ih=>exact fun o hl ho=>ih _ (fun b hb=>hl b (List.mem_cons_of_mem _ hb)) (Zog hok f a o (.kid hx (hx.lt hok) (hl a yz)) ho)
      exact key _ o (fun a ha=>ha) ho y hy
    · rw[List.mem_singleton.1 hy];exact hx
theorem ZrV (hok:Okay ss):i∈post ss↔Nd ss i:=by
 constructor
 · exact Zog hok _ _ _ .last (fun y hy=>by cases hy) i
 · intro h
   induction h with
   | last=>
    have:=hok.1
    have h:=Zk1 (kids:=Yi ss) (ss.length-1) (ss.length-1) ([]:List Nat)
    rw[show ss.length-1+1=ss.length by omega]at h
    exact h
   | kid h1 h2 h3 ih=>
    obtain⟨p,r,hr⟩:=List.append_of_mem ih
    have hs:=hok.shut p _ ⟨r,((List.append_assoc _ _ _).trans rfl).trans hr.symm⟩
    rw[hr]
    exact List.mem_append_left _ (hs.2 _ h3)
theorem Zff (m:List Bool):Zfg m=((List.range m.length).filter fun i=>ge m i).length:=by
 have key:∀ n,n≤m.length→Zfg (m.take n)=((List.range n).filter fun i=>ge m i).length:=by
  intro n
  induction n with
  | zero=>intro _;rfl
  | succ n ih=>
   intro hn
   rw[Zku oz,ih oz,List.range_succ,List.filter_append,List.length_append]
   cases h:ge m n<;>simp[h]
 have:=key m.length nlr
 rwa [List.take_length]at this
theorem Zh0 (hok:Okay ss):Yh ss=(post ss).length:=by
 rw[Yh,Zff,XU]
 refine List.Perm.length_eq ((List.perm_ext_iff_of_nodup (List.nodup_range.filter _) (ZmY hok.shut)).2 fun i=>?_)
 rw[List.mem_filter,List.mem_range,ZrV hok,Zap hok]
 exact⟨fun h=>h.2,fun h=>⟨h.lt hok,h⟩⟩
end
def rkB (m:List Bool) (k:Nat):Nat:=((List.range k).filter fun i=>ge m i).length
section
variable {ss:List Stp} {m:List Bool} {i j k:Nat}
theorem Zdb:rkB m (k+1)=rkB m k+(if ge m k then 1 else 0):=by
 rw[rkB,rkB,List.range_succ,List.filter_append,List.length_append]
 cases h:ge m k<;>simp[h]
theorem ZvV (h:i≤j):rkB m i≤rkB m j:=by
 induction j with
 | zero=>rw[show i=0 by omega];exact Nat.le_refl _
 | succ j ih=>
  rcases Nat.lt_or_ge j i with h1 | h1
  · rw[show i=j+1 by omega];exact Nat.le_refl _
  · have:=ih h1
    rw[Zdb];omega
theorem ZvW (h:i<j) (hm:ge m i=true):rkB m i<rkB m j:=by
 have h1:=ZvV (m:=m) (show i+1≤j from h)
 rw[Zdb,if_pos hm]at h1
 omega
theorem ZoG:∀ k j,j<rkB m k→∃ i,i<k∧ge m i=true∧rkB m i=j
 | 0,j,h=>by simp[rkB]at h
 | k+1,j,h=>by
  rw[Zdb]at h
  by_cases h1:j<rkB m k
  · obtain⟨i,h2,h3,h4⟩:=ZoG k j h1
    exact⟨i,oz,h3,h4⟩
  · cases h2:ge m k with
    | true=>rw[h2]at h;simp only[if_true]at h;exact⟨k,oz,h2,oz⟩
    | false=>rw[h2]at h;simp at h;omega
theorem ZsV {α:Type} [Inhabited α] {l r:List α} (h:i<l.length):ge (l++r) i=ge l i:=by
 simp only[ge,List.getD_eq_getElem?_getD,List.getElem?_append_left h]
theorem ZsW {α:Type} [Inhabited α] {l:List α} {x:α}:ge (l++[x]) l.length=x:=by
 simp[ge,List.getD_eq_getElem?_getD]
theorem Znr {l:List Int} {x:Int} (h:¬ i=j):ge (l.set i x) j=ge l j:=by
 simp only[ge,List.getD_eq_getElem?_getD]
 rw[List.getElem?_set_ne h]
theorem ZjZ (hl:m.length=ss.length):∀ k,k≤ss.length→(X7 ss m k).2.length=rkB m k∧∀ i,i<k→ge m i=true→ge (X7 ss m k).1 i=(rkB m i:Int)
 | 0,_=>⟨rfl,fun i hi=>by omega⟩
 | k+1,hk=>by
  obtain⟨h1,h2⟩:=ZjZ hl k oz
  cases h:ge m k with
  | false=>
   rw[ZrW h,Zdb,h]
   refine⟨by simpa using h1,fun i hi hi2=>h2 i ?_ hi2⟩
   rcases Nat.lt_or_ge i k with h3 | h3
   · exact h3
   · rw[show i=k by omega,h]at hi2;cases hi2
  | true=>
   rw[Zic h,Zdb,h]
   refine⟨by simp[h1],fun i hi hi2=>?_⟩
   dsimp only
   by_cases e:k=i
   · subst e
     rw[Yj (by rw[List.length_set,(Zo3 ss m k).1];omega),List.getElem_set_self,h1]
   · rw[Znr e]
     exact h2 i oz hi2
theorem Zo2 (hok:Okay ss) (hl:m.length=ss.length) (hc:∀ j a,j<ss.length→ge m j=true→a∈Yi ss j→ge m a=true):∀ k,k≤ss.length→∀ i,i<k→ge m i=true→ge (X7 ss m k).2 (rkB m i)=⟨(ge ss i).label,(ge ss i).args.map fun a=>(rkB m a.toNat:Int)⟩
 | 0,_,i,hi,_=>by omega
 | k+1,hk,i,hi,hi2=>by
  obtain⟨h1,h2⟩:=ZjZ hl k oz
  obtain⟨h3,h4⟩:=ZjZ hl (k+1) hk
  have key:∀ i,i<k→ge m i=true→ge (X7 ss m (k+1)).2 (rkB m i)=ge (X7 ss m k).2 (rkB m i):=fun i hi hi2=>by
   cases h:ge m k with
   | false=>rw[ZrW h]
   | true=>
    rw[Zic h]
    exact ZsV (by rw[h1];exact ZvW hi hi2)
  by_cases e:i=k
  · subst e
    rw[Zic hi2]at h4 ⊢
    dsimp only at h4 ⊢
    have h5:rkB m i=(X7 ss m i).2.length:=h1.symm
    have h6:ZgL ((X7 ss m i).1.set i ((X7 ss m i).2.length:Int)) (ge ss i).args=(ge ss i).args.map fun a=>(rkB m a.toNat:Int):=by
     refine List.map_congr_left fun a ha=>?_
     have ha2:a.toNat∈Yi ss i:=by rw[QA oz,←Yj oz];exact List.mem_map_of_mem ha
     exact h4 _ (by have:=hok.kid ha2;omega) (hc _ _ oz hi2 ha2)
    rw[h6,h5,ZsW]
  · rw[key i oz hi2]
    exact Zo2 hok hl hc k oz i oz hi2
end
section
variable {ss:List Stp} {i j:Nat}
theorem ZlG (hok:Okay ss):∀ j a,j<ss.length→ge (Y8 ss) j=true→a∈Yi ss j→ge (Y8 ss) a=true:=fun _ _ hj h ha=>
 (Zap hok).2 (.kid ((Zap hok).1 h) hj ha)
theorem ZrT (ss:List Stp):(Qd ss).length=Yh ss:=by
 rw[Qd,(ZjZ (XU ss) ss.length nlr).1,Yh,Zff,XU];rfl
theorem ZgK (hok:Okay ss) (hi:i<ss.length) (h:ge (Y8 ss) i=true):rkB (Y8 ss) i< (Qd ss).length∧ge (Qd ss) (rkB (Y8 ss) i)=⟨(ge ss i).label,(ge ss i).args.map fun a=>(rkB (Y8 ss) a.toNat:Int)⟩:=by
 refine⟨?_,Zo2 hok (XU ss) (ZlG hok) ss.length nlr i hi h⟩
 rw[Qd,(ZjZ (XU ss) ss.length nlr).1]
 exact ZvW hi h
theorem ZoY (hok:Okay ss) (hi:i<ss.length) (h:ge (Y8 ss) i=true):Yi (Qd ss) (rkB (Y8 ss) i)=(Yi ss i).map (rkB (Y8 ss)):=by
 obtain⟨h1,h2⟩:=ZgK hok hi h
 rw[QA h1,←Yj h1,h2,QA hi,←Yj hi,List.map_map,List.map_map]
 exact List.map_congr_left fun a _=>by simp
theorem Zib (h:j< (Qd ss).length):∃ i,i<ss.length∧ge (Y8 ss) i=true∧rkB (Y8 ss) i=j:=by
 rw[Qd,(ZjZ (XU ss) ss.length nlr).1]at h
 exact ZoG _ _ h
theorem Zv4 (hok:Okay ss) (h:Nd ss i):Nd (Qd ss) (rkB (Y8 ss) i):=by
 induction h with
 | last=>
  have h1:=hok.1
  have h2:ge (Y8 ss) (ss.length-1)=true:=(Zap hok).2 .last
  have h3:rkB (Y8 ss) (ss.length-1)=(Qd ss).length-1:=by
   have:=Zdb (m:=Y8 ss) (k:=ss.length-1)
   rw[if_pos h2,show ss.length-1+1=ss.length by omega]at this
   rw[Qd,(ZjZ (XU ss) ss.length nlr).1,this];rfl
  rw[h3];exact .last
 | kid h1 h2 h3 ih=>
  have h4:=(Zap hok).2 h1
  exact .kid ih (ZgK hok h2 h4).1 (by rw[ZoY hok h2 h4];exact List.mem_map_of_mem h3)
theorem ZoX (hok:Okay ss):Okay (Qd ss):=by
 have h0:ge (Y8 ss) (ss.length-1)=true:=(Zap hok).2 .last
 have h1:=hok.1
 have h2:=(ZgK hok oz h0).1
 have h3:=ZrT ss
 have h4:=Zcw ss
 refine⟨oz,by have:=hok.2.1;omega,fun j hj=>?_⟩
 obtain⟨i,hi,hn,rfl⟩:=Zib hj
 obtain⟨h5,h6⟩:=ZgK hok hi hn
 obtain⟨h7,h8⟩:=hok.2.2 i hi
 rw[←Yj hj,h6]
 refine⟨by rw[List.length_map,Yj hi];exact h7,fun a ha=>?_⟩
 obtain⟨b,hb,rfl⟩:=List.mem_map.1 ha
 rw[Yj hi]at hb
 have h9:=h8 b hb
 have h10:b.toNat∈Yi ss i:=by rw[QA hi];exact List.mem_map_of_mem hb
 refine⟨oz,?_⟩
 have:=ZvW (m:=Y8 ss) (show b.toNat<i by omega) (ZlG hok i _ hi hn h10)
 omega
theorem ZoW (hok:Okay ss):Yh (Qd ss)=(Qd ss).length:=by
 have h1:=ZoX hok
 rw[Yh,Zff,XU,List.filter_eq_self.2,List.length_range]
 intro j hj
 obtain⟨i,hi,hn,rfl⟩:=Zib (List.mem_range.1 hj)
 exact(Zap h1).2 (Zv4 hok ((Zap hok).1 hn))
end
section
variable {hs:List Hy} {es:List (List BA)} {w:BA} {i k:Nat}
theorem Zha:∀ k,((gvM hs es k).map Prod.fst).Nodup
 | 0=>List.nodup_nil
 | k+1=>by
  have ih:=Zha k
  rw[gvM]
  split
  · have h:=Ziv (gvM hs es k) (ge (ge hs k).text 1) ((ge es k).drop 1)
    rw[show(fun x:BA×List BA=>x.1)=Prod.fst from rfl]at h
    rw[h]
    split
    · exact ih
    · rename_i h1
      rw[List.nodup_append]
      exact⟨ih,by simp,fun a ha b hb e=>h1 (by rw[←List.mem_singleton.1 hb,←e];exact ha)⟩
  · exact ih
end
theorem Zxl {d:Db} (h:ZcU d=0) {k:Nat} (hk:k<d.frames.length):frL d k (ge d.frames k).label=false∧hyL d k (ge d.frames k).label=false:=by
 have h:=ZqG h k hk
 unfold frE ZwX at h
 split at h
 · cases h
 split at h
 · cases h
 · rename_i h2
   simp only[Bool.or_eq_true,not_or,Bool.not_eq_true]at h2
   exact h2.1
theorem Zqk {d:Db} (h:ZcU d=0) {k:Nat} (hk:k<d.frames.length):Yk d (ge d.frames k).label=(k:Int):=by
 refine Zql hk rfl fun j hj e=>?_
 have h1:=(Zxl h hk).1
 unfold frL at h1
 have h2:=List.any_eq_false.1 h1 (ge d.frames j) (List.mem_of_getElem? (i:=j) (by rw[List.getElem?_take,if_pos hj,ZeX oz]))
 exact h2 (by simpa using e)
section
variable {j:Jb} {g:Fr} {step:Nat}
theorem ZkZ (hm:∀ s z,Zy j.M s=some z→0≤z):∀(hs:List Hy) (M:BM) (al:List Int),(∀ a∈al,0≤a∧a< (step:Int))→∀ x∈(ZhG j g step hs M al).1,Zdj j g x step=true∧x.length=al.length+hs.length∧∀ a∈x,0≤a∧a< (step:Int)
 | [],M,al,ha,x,hx=>by
  rw[ZhG]at hx
  split at hx
  · split at hx
    · rename_i h
      obtain rfl:=List.mem_singleton.1 hx
      exact⟨h,rfl,ha⟩
    · cases hx
  · cases hx
 | h::hs,M,al,ha,x,hx=>by
  rw[ZhG]at hx
  split at hx
  · have key:∀(l:List Nat) (q:List (List Int)×BM),(∀ t∈l,t<step)→(∀ x∈q.1,Zdj j g x step=true∧x.length=al.length+(h::hs).length∧∀ a∈x,0≤a∧a< (step:Int))→
     ∀ x∈(l.foldl (Zjv (ZhG j g step hs) j h al) q).1,Zdj j g x step=true∧x.length=al.length+(h::hs).length∧∀ a∈x,0≤a∧a< (step:Int):=by
     intro l
     induction l with
     | nil=>exact fun q _ hq=>hq
     | cons t l ih=>
      intro q hl hq
      refine ih _ (fun b hb=>hl b (List.mem_cons_of_mem _ hb)) ?_
      unfold Zjv
      split
      · intro x hx
        rcases List.mem_append.1 hx with hx | hx
        · exact hq x hx
        · have ht:=hl t yz
          obtain⟨h1,h2,h3⟩:=ZkZ hm hs _ (al++[(t:Int)]) (fun a ha'=>by
           rcases List.mem_append.1 ha' with ha' | ha'
           · exact ha a ha'
           · rw[List.mem_singleton.1 ha'];omega) x hx
          refine⟨h1,?_,h3⟩
          simp only[List.length_append,List.length_cons,List.length_nil]at h2 ⊢;omega
      · exact hq
    refine key _ _ (fun t ht=>?_) (fun x hx=>by cases hx) x hx
    have h1:=Zov (j:=j) (hs:=g.hyps) (step:=step) (h:=h) (M:=M) hm
    have h2:=List.mem_range'_1.1 ht
    omega
  · cases hx
theorem Zd5 (hm:∀ s z,Zy j.M s=some z→0≤z) {x:List Int} (h:x∈Zi9 j g step):Zdj j g x step=true∧x.length=g.hyps.length∧∀ a∈x,0≤a∧a< (step:Int):=by
 have:=ZkZ hm _ _ [] (fun a ha=>by cases ha) x h
 simpa using this
def ZaR (j:Jb) (c:Chg):Bool:=
 c.args.all (fun a=>decide (0≤a∧a<c.step))&& (if c.reason=1 then decide (c.label=⟨#[]⟩∧c.args.length=1∧ge j.ts (ge c.args 0).toNat=ge j.ts c.step.toNat)
  else decide (0≤Yk j.d c.label∧Yk j.d c.label< (j.i:Int)∧c.args.length=(ge j.d.frames (Yk j.d c.label).toNat).hyps.length)&&Zdj j (ge j.d.frames (Yk j.d c.label).toNat) c.args c.step.toNat)
 &&decide ((Y6 j.ss c).length<Yh j.ss∧(Yh j.ss:Int)=c.before∧((Y6 j.ss c).length:Int)=c.after)
end
structure JbOk (j:Jb):Prop where
 chk:ZcU j.d=0
 at':j.i<j.d.frames.length
 len:j.ts.length=j.ss.length
 ne:∀ t∈j.ts,t≠[]
 sy:∀ t∈j.ts,∀ w∈t,syD j.d w
 fir:j.M=ZaX j.ts j.ts.length
theorem ZiS {j:Jb} {c0 c:Chg} (h:XW j.ss c0=some c) (h1:∀ a∈c0.args,0≤a∧a<c0.step)
 (h2:if c0.reason=1 then c0.label=⟨#[]⟩∧c0.args.length=1∧ge j.ts (ge c0.args 0).toNat=ge j.ts c0.step.toNat
  else(0≤Yk j.d c0.label∧Yk j.d c0.label< (j.i:Int)∧c0.args.length=(ge j.d.frames (Yk j.d c0.label).toNat).hyps.length)∧Zdj j (ge j.d.frames (Yk j.d c0.label).toNat) c0.args c0.step.toNat=true):ZaR j c=true:=by
 unfold XW at h
 split at h
 · rename_i h3
   obtain rfl:=Option.some.inj h
   have h4:((X3 j.ss c0).args.all fun a=>decide (0≤a∧a< (X3 j.ss c0).step))=true:=List.all_eq_true.2 fun a ha=>decide_eq_true (h1 a ha)
   have h5:decide ((Y6 j.ss (X3 j.ss c0)).length<Yh j.ss∧(Yh j.ss:Int)=(X3 j.ss c0).before∧((Y6 j.ss (X3 j.ss c0)).length:Int)=(X3 j.ss c0).after)=true:=decide_eq_true ⟨h3,rfl,rfl⟩
   rw[ZaR,h4,h5,Bool.true_and,Bool.and_true]
   by_cases h6:c0.reason=1
   · rw[if_pos h6]at h2
     exact(if_pos (show(X3 j.ss c0).reason=1 from h6)).trans (decide_eq_true h2)
   · rw[if_neg h6]at h2
     refine(if_neg (show ¬ (X3 j.ss c0).reason=1 from h6)).trans ?_
     rw[Bool.and_eq_true]
     exact⟨decide_eq_true h2.1,h2.2⟩
 · cases h
theorem Ztl {j:Jb} (hj:JbOk j) {step:Nat} (hs:step<j.ss.length) {c:Chg} (h:c∈Zd4 j step):ZaR j c=true:=by
 obtain⟨c0,h0,hg⟩:=List.mem_filterMap.1 h
 have hm:∀ s z,Zy j.M s=some z→0≤z:=fun s z hz=>by rw[hj.fir]at hz;exact(ZiX hz).1
 have hst:step<j.ts.length:=by rw[hj.len];exact hs
 rcases List.mem_append.1 h0 with h0 | h0
 · unfold Zc9 at h0
   split at h0
   · rename_i h1
     obtain rfl:=List.mem_singleton.1 h0
     obtain⟨z,hz,hz0,hzl⟩:=Zkp hst
     rw[←hj.fir]at hz
     rw[hz,Option.getD_some]at h1 hg
     have hz':=hz
     rw[hj.fir]at hz'
     obtain⟨h2,h3,h4,_⟩:=ZiX hz'
     refine ZiS hg (fun a ha=>?_) ?_
     · obtain rfl:=List.mem_singleton.1 ha
       exact⟨h2,h1⟩
     · rw[if_pos rfl]
       refine⟨rfl,rfl,?_⟩
       have h5:z.toNat<j.ts.length:=by omega
       exact ZwI (Zhk hj.chk) (hj.ne _ (Zp h5)) (hj.ne _ (Zp hst)) (hj.sy _ (Zp h5)) (hj.sy _ (Zp hst)) h4
   · cases h0
 · obtain⟨g,hg1,hg2⟩:=List.mem_flatMap.1 h0
   unfold Znt at hg2
   split at hg2
   · cases hg2
   · obtain⟨al,hal,rfl⟩:=List.mem_map.1 hg2
     obtain⟨h1,h2,h3⟩:=Zd5 hm hal
     obtain⟨k,hk,rfl⟩:=Xc hg1
     have hk':k<j.i∧k<j.d.frames.length:=by rw[List.length_take]at hk;omega
     rw[Zkg hk'.1]at hg h1 h2
     have h4:=Zqk hj.chk hk'.2
     refine ZiS hg h3 ?_
     rw[if_neg (show ¬ (2:Int)=1 by decide)]
     dsimp only
     rw[h4]
     exact⟨⟨oz,oz,h2⟩,h1⟩
section
variable {d:Db} {z:Int} {ss:List Stp}
theorem QN (h:ZD d z ss=0):ZfC d z ss=0∧(Yq d z ss).2.1=0:=by
 unfold ZD at h
 split at h
 · rename_i h1
   split at h
   · rename_i h2;exact⟨h1,h2⟩
   · cases h
 · rename_i h1;exact absurd h h1
theorem ZfB (h:ZD d z ss=0):JbOk (jbG d z ss)∧Okay ss:=by
 obtain⟨h1,h2⟩:=QN h
 obtain⟨ha,hf⟩:=Zfj h1
 have hok:=(Zdl ss).1 hf
 obtain⟨hck,hz0,hz1⟩:=Zc1 ha
 have hi:z.toNat<d.frames.length:=by omega
 have h3:Yq d z ss=Zoc d z.toNat ss:=if_pos h1
 have h4:∀ q,q<ss.length→erG d z.toNat ss q=0:=by
  rw[h3]at h2
  unfold Zoc at h2
  split at h2
  · rename_i k hk
    have h5:=List.find?_some hk
    exact absurd h2 (of_decide_eq_true h5)
  · rename_i hk
    intro q hq
    have h5:=List.find?_eq_none.1 hk q (List.mem_range.2 hq)
    simpa using h5
 have h5:(Yq d z ss).1=fmG d z.toNat ss ss.length:=by rw[h3,ZkX h4]
 have h6:=Zhb hck hi ss.length (fun q hq=>h4 q hq)
 refine⟨⟨hck,hi,?_,fun t ht e=>?_,?_,rfl⟩,hok⟩
 · show(Yq d z ss).1.length=ss.length
   rw[h5,Ze3]
 · have ht:t∈fmG d z.toNat ss ss.length:=by rw[←h5];exact ht
   have:=(h6 t ht).1
   rw[e]at this;cases this
 · intro t ht
   have ht:t∈fmG d z.toNat ss ss.length:=by rw[←h5];exact ht
   exact Zw1 hck hi hok ss.length nlr t ht
end
def YW (d:Db) (z:Int) (ss:List Stp) (c:Chg):List Stp×Int:=
 if ¬ ZD d z ss=0 then([],ZD d z ss)else if ¬ c.reason=1∧¬ c.reason=2 then([],1)
 else if c.step<0∨(ss.length:Int)≤c.step then([],3)else if ZaR (jbG d z ss) c=false then([],260)else(Y6 ss c,0)
instance instDecStpM:DecidableEq Stp:=fun s t=>if h:s.label=t.label∧s.args=t.args then .isTrue (by cases s;cases t;simp_all)else .isFalse fun e=>h (by rw[e];exact⟨rfl,rfl⟩)
def QH (d:Db) (z:Int) (q:List Stp):Nat→List Stp→List Chg→Int×Int
 | n,ss,[]=>if ss=q then((n:Int),0)else((n:Int),261)
 | n,ss,c::l=>if(YW d z ss c).2=0 then QH d z q (n+1) (YW d z ss c).1 l else((n:Int),(YW d z ss c).2)
theorem Zma {j:Jb} {step:Nat} {c:Chg} (h:c∈Zd4 j step):(c.reason=1∨c.reason=2)∧c.step=(step:Int)∧c.before=(Yh j.ss:Int)∧c.after=((Y6 j.ss c).length:Int):=by
 obtain⟨c0,h0,hg⟩:=List.mem_filterMap.1 h
 have h1:(c0.reason=1∨c0.reason=2)∧c0.step=(step:Int):=by
  rcases List.mem_append.1 h0 with h0 | h0
  · unfold Zc9 at h0
    split at h0
    · obtain rfl:=List.mem_singleton.1 h0
      exact⟨.inl rfl,rfl⟩
    · cases h0
  · obtain⟨g,_,hg2⟩:=List.mem_flatMap.1 h0
    unfold Znt at hg2
    split at hg2
    · cases hg2
    · obtain⟨al,_,rfl⟩:=List.mem_map.1 hg2
      exact⟨.inr rfl,rfl⟩
 unfold XW at hg
 split at hg
 · obtain rfl:=Option.some.inj hg
   exact⟨h1.1,h1.2,rfl,rfl⟩
 · cases hg
theorem Zra {d:Db} {z:Int} {ss:List Stp} (hr:ZD d z ss=0) {c:Chg} (h:c∈Zb3 (jbG d z ss)):YW d z ss c=(Y6 ss c,0):=by
 obtain⟨s,hs,h1⟩:=List.mem_flatMap.1 h
 have hs:s<ss.length:=List.mem_range.1 hs
 obtain⟨h2,h3,_,_⟩:=Zma h1
 have h4:=Ztl (ZfB hr).1 (step:=s) hs h1
 rw[YW,if_neg (by simp[hr]),if_neg oz,if_neg oz,if_neg (by simp[h4])]
theorem Zg0 {d:Db} {z:Int} (q:List Stp):∀(k:Nat) (ss:List Stp) (l:List Chg),ZD d z ss=0→(Zb2 (ZD d z) (fun s=>Zb3 (jbG d z s)) k ss l).2.2=0→
 ∃ l',(Zb2 (ZD d z) (fun s=>Zb3 (jbG d z s)) k ss l).2.1=l++l'∧l'.length≤k∧∀ n,((Zb2 (ZD d z) (fun s=>Zb3 (jbG d z s)) k ss l).1=q→QH d z q n ss l'=(((n+l'.length:Nat):Int),0))∧(¬ (Zb2 (ZD d z) (fun s=>Zb3 (jbG d z s)) k ss l).1=q→QH d z q n ss l'=(((n+l'.length:Nat):Int),261))
 | 0,ss,l,_,_=>⟨[],by simp[Zb2],Nat.le_refl _,fun n=>⟨fun e=>if_pos e,fun e=>if_neg e⟩⟩
 | k+1,ss,l,hr,he=>by
  rw[Zb2]at he ⊢
  cases hl:Zb3 (jbG d z ss)with
  | nil=>exact⟨[],by simp,nzl,fun n=>⟨fun e=>if_pos e,fun e=>if_neg e⟩⟩
  | cons c cs=>
   rw[hl]at he
   dsimp only at he ⊢
   have hm:Xd c cs∈Zb3 (jbG d z ss):=by rw[hl];rcases ZaQ cs c with h | h<;>simp[h]
   by_cases h0:ZD d z (Y6 ss (Xd c cs))=0
   · rw[if_pos h0]at he ⊢
     obtain⟨l',h1,h2,h3⟩:=Zg0 q k _ _ h0 he
     have h4:∀ n,QH d z q n ss (Xd c cs::l')=QH d z q (n+1) (Y6 ss (Xd c cs)) l':=fun n=>by
      rw[QH,Zra hr hm,if_pos rfl]
     refine⟨Xd c cs::l',by rw[h1];simp,by simpa using h2,fun n=>?_⟩
     rw[h4,List.length_cons,show n+(l'.length+1)=n+1+l'.length by omega]
     exact h3 (n+1)
   · rw[if_neg h0]at he
     exact absurd he h0
theorem Ztk {j:Jb} (hj:JbOk j) (hok:Okay j.ss) {step:Nat} (hs:step<j.ss.length) {c:Chg} (h:c∈Zd4 j step):∃ ss',Okay ss'∧Y6 j.ss c=Qd ss':=by
 obtain⟨c0,h0,hg⟩:=List.mem_filterMap.1 h
 have hm:∀ s z,Zy j.M s=some z→0≤z:=fun s z hz=>by rw[hj.fir]at hz;exact(ZiX hz).1
 have hst:step<j.ts.length:=by rw[hj.len];exact hs
 have hc:Y6 j.ss c=Y6 j.ss c0:=by
  unfold XW at hg
  split at hg
  · obtain rfl:=Option.some.inj hg;rfl
  · cases hg
 rw[hc]
 rcases List.mem_append.1 h0 with h0 | h0
 · unfold Zc9 at h0
   split at h0
   · rename_i h1
     obtain rfl:=List.mem_singleton.1 h0
     obtain⟨z,hz,hz0,hzl⟩:=Zkp hst
     rw[←hj.fir]at hz
     rw[hz,Option.getD_some]at h1 ⊢
     have h2:Okay (j.ss.map (Zb5 ⟨1,step,⟨#[]⟩,[z],0,0⟩)):=Zf5 hok (show 0≤z from hz0) (show z< (step:Int)from h1)
     unfold Y6
     rw[if_neg (show ¬ (1:Int)=2 by decide)]
     split
     · refine⟨_,ZcH h2 ?_,rfl⟩
       show 1≤(z+1).toNat
       omega
     · exact⟨_,h2,rfl⟩
   · cases h0
 · obtain⟨g,hg1,hg2⟩:=List.mem_flatMap.1 h0
   unfold Znt at hg2
   split at hg2
   · cases hg2
   · rename_i h4
     obtain⟨al,hal,rfl⟩:=List.mem_map.1 hg2
     obtain⟨h1,h2,h3⟩:=Zd5 hm hal
     unfold Y6
     rw[if_pos (show(2:Int)=2 from rfl)]
     refine⟨_,ZdU hok (k:=((step:Nat):Int).toNat) ⟨by show al.length≤40;omega,fun a ha=>?_⟩,rfl⟩
     have:=h3 a ha
     exact⟨this.1,oz⟩
theorem Zuo {d:Db} {z:Int} {ss:List Stp} (hr:ZD d z ss=0) {c:Chg} (h:c∈Zb3 (jbG d z ss)):c.before=(Yh ss:Int)∧c.after=(Yh (Y6 ss c):Int)∧c.after<c.before:=by
 have h0:=Zkv ss c h
 obtain⟨s,hs,h1⟩:=List.mem_flatMap.1 h
 have hs:s<ss.length:=List.mem_range.1 hs
 obtain⟨_,_,h2,h3⟩:=Zma h1
 obtain⟨hj,hok⟩:=ZfB hr
 obtain⟨ss',h4,h5⟩:=Ztk hj hok (step:=s) hs h1
 have h5:Y6 ss c=Qd ss':=h5
 have h2:c.before=(Yh ss:Int):=h2
 have h3:c.after=((Y6 ss c).length:Int):=h3
 refine⟨h2,by rw[h3,h5,ZoW h4],oz⟩
def ZoE:Int→List Chg→Option Int
 | s,[]=>some s
 | s,c::l=>if c.before=s∧c.after<s then ZoE c.after l else none
theorem Ziw {d:Db} {z:Int}:∀(k:Nat) (ss:List Stp) (l:List Chg),ZD d z ss=0→(Zb2 (ZD d z) (fun s=>Zb3 (jbG d z s)) k ss l).2.2=0→
 ZD d z (Zb2 (ZD d z) (fun s=>Zb3 (jbG d z s)) k ss l).1=0∧∃ l',(Zb2 (ZD d z) (fun s=>Zb3 (jbG d z s)) k ss l).2.1=l++l'∧ZoE (Yh ss) l'=some (Yh (Zb2 (ZD d z) (fun s=>Zb3 (jbG d z s)) k ss l).1:Int)
 | 0,ss,l,hr,_=>⟨hr,[],by simp[Zb2],rfl⟩
 | k+1,ss,l,hr,he=>by
  rw[Zb2]at he ⊢
  cases hl:Zb3 (jbG d z ss)with
  | nil=>exact⟨hr,[],by simp,rfl⟩
  | cons c cs=>
   rw[hl]at he
   dsimp only at he ⊢
   have hm:Xd c cs∈Zb3 (jbG d z ss):=by rw[hl];rcases ZaQ cs c with h | h<;>simp[h]
   obtain⟨h1,h2,h3⟩:=Zuo hr hm
   by_cases h0:ZD d z (Y6 ss (Xd c cs))=0
   · rw[if_pos h0]at he ⊢
     obtain⟨h4,l',h5,h6⟩:=Ziw k _ _ h0 he
     refine⟨h4,Xd c cs::l',by rw[h5];simp,?_⟩
     rw[ZoE,if_pos ⟨h1,oz⟩,h2]
     exact h6
   · rw[if_neg h0]at he
     exact absurd he h0
theorem ZoD:∀(l:List Chg) (s t:Int),ZoE s l=some t→t≤s∧(l≠[]→t<s)
 | [],s,t,h=>by
  obtain rfl:=Option.some.inj h
  exact⟨Int.le_refl _,fun e=>absurd rfl e⟩
 | c::l,s,t,h=>by
  rw[ZoE]at h
  split at h
  · rename_i h1
    have:=(ZoD l _ _ h).1
    exact⟨oz,fun _=>by omega⟩
  · cases h
theorem Zm2 {d:Db} {z:Int} {ss:List Stp} (h:ZD d z ss=0):(Yq d z ss).2=(0,0):=by
 obtain⟨h1,h2⟩:=QN h
 have h3:Yq d z ss=Zoc d z.toNat ss:=if_pos h1
 rw[h3]at h2 ⊢
 unfold Zoc at h2 ⊢
 cases hb:Zx4 d z.toNat ss with
 | some k=>
  rw[hb]at h2
  have hb':=List.find?_some hb
  exact absurd h2 (of_decide_eq_true hb')
 | none=>
  rw[hb]at h2
  dsimp only at h2 ⊢
  split at h2
  · rename_i h4;rw[if_pos h4]
  · cases h2
theorem Znk {d:Db} {z:Int} {ss:List Stp} {most:Nat} (he:(Y5 d z ss most).2.2=0):
 ZD d z ss=0∧ZD d z (Y5 d z ss most).1=0∧(Y5 d z ss most).2.1.length≤most∧ZoE (Yh ss) (Y5 d z ss most).2.1=some (Yh (Y5 d z ss most).1:Int)∧
 QH d z (Y5 d z ss most).1 0 ss (Y5 d z ss most).2.1=((((Y5 d z ss most).2.1.length:Nat):Int),0)∧((Y5 d z ss most).2.1≠[]→QH d z ss 0 ss (Y5 d z ss most).2.1=((((Y5 d z ss most).2.1.length:Nat):Int),261)):=by
 have h0:ZD d z ss=0:=by
  unfold Y5 at he;split at he
  · assumption
  · exact he
 have h2:Y5 d z ss most=Zb2 (ZD d z) (fun s=>Zb3 (jbG d z s)) most ss []:=if_pos h0
 rw[h2]at he ⊢
 obtain⟨h3,l',h4,h5⟩:=Ziw most ss [] h0 he
 rw[List.nil_append]at h4
 obtain⟨m',g1,g2,g3⟩:=Zg0 (Zb2 (ZD d z) (fun s=>Zb3 (jbG d z s)) most ss []).1 most ss [] h0 he
 obtain⟨m2,k1,_,k3⟩:=Zg0 ss most ss [] h0 he
 rw[List.nil_append]at g1 k1
 refine⟨h0,h3,by rw[g1];exact g2,by rw[h4];exact h5,?_,fun hne=>?_⟩
 · have:=(g3 0).1 rfl
   rw[Nat.zero_add]at this
   rw[g1];exact this
 · have h6:=(ZoD l' _ _ h5).2 (by rw[←h4];exact hne)
   have:=(k3 0).2 fun e=>by rw[e]at h6;omega
   rw[Nat.zero_add]at this
   rw[k1];exact this
theorem ZlI {d:Db} {z:Int}:∀(k:Nat) (ss:List Stp) (l:List Chg),¬ (Zb2 (ZD d z) (fun s=>Zb3 (jbG d z s)) k ss l).2.2=0→(Zb2 (ZD d z) (fun s=>Zb3 (jbG d z s)) k ss l).1=[]∧(Zb2 (ZD d z) (fun s=>Zb3 (jbG d z s)) k ss l).2.1=[]
 | 0,ss,l,h=>absurd rfl h
 | k+1,ss,l,h=>by
  rw[Zb2]at h ⊢
  cases hl:Zb3 (jbG d z ss)with
  | nil=>rw[hl]at h;exact absurd rfl h
  | cons c cs=>
   rw[hl]at h
   dsimp only at h ⊢
   by_cases h0:ZD d z (Y6 ss (Xd c cs))=0
   · rw[if_pos h0]at h ⊢
     exact ZlI k _ _ h
   · rw[if_neg h0]
     exact⟨rfl,rfl⟩
section
variable {ss:List Stp} {pre:List (Nat×Stp)} {x:Nat×Stp} {ys:List Bool}
theorem ZgY (hm:ys=Qp ss pre.length) (_:pre.length<ss.length) (h2:x.1=ss.length-1-pre.length):ZfA ss ys x.1=Qp ss (pre++[x]).length:=by
 rw[List.length_append,List.length_singleton,h2,hm];rfl
end
def Zjw {α:Type} (f:α→α) (l:List α) (q:Nat):List α:=(l.take q).map f++l.drop q
section
variable {α:Type} [Inhabited α] {f:α→α} {l:List α} {q:Nat}
omit [Inhabited α]in
theorem mf_zero:Zjw f l 0=l:=by simp[Zjw]
omit [Inhabited α]in
theorem ZuX (h:q=l.length):Zjw f l q=l.map f:=by simp[Zjw,h]
omit [Inhabited α]in
theorem ZpA:(Zjw f l q).length=l.length:=by simp[Zjw];omega
theorem Zww (h:q<l.length):ge (Zjw f l q) q=ge l q:=by
 have h1:((l.take q).map f).length=q:=by simp;omega
 simp only[ge,Zjw,List.getD_eq_getElem?_getD]
 rw[List.getElem?_append_right oz,h1,Nat.sub_self,List.getElem?_drop,Nat.add_zero]
theorem Zg1 (h:q<l.length):(Zjw f l q).set q (f (ge l q))=Zjw f l (q+1):=by
 have h1:((l.take q).map f).length=q:=by simp;omega
 rw[Zjw,Zjw,List.set_append_right _ _ oz,h1,Nat.sub_self,List.drop_eq_getElem_cons h,List.set_cons_zero,ZZ h,List.map_append,List.append_assoc]
 rfl
theorem Zpz (h:q<l.length) (e:f (ge l q)=ge l q):Zjw f l q=Zjw f l (q+1):=by
 have h1:=Zg1 (f:=f) h
 rw[←h1,e,←Zww (f:=f) h,Yj (by rw[ZpA];exact h),List.set_getElem_self]
end
def Zx2 (c:Chg) (a:Int):Int:=if a=c.step then ge c.args 0 else a
theorem ZrB (c:Chg) (s:Stp):(⟨s.label,s.args.map (Zx2 c)⟩:Stp)=Zb5 c s:=rfl

section
variable {hs:List Hy} {M:BM} {p t p0 t0:List BA} {k:Nat}
theorem bgI (f:XJ hs M p0 t0=XJ hs M (p.drop k) t) (hk:k<p.length) (h:(((Zy M (ge p k)).isSome&&decide (((((Zy M (ge p k)).getD default).length:Nat):Int)≤((t.length:Nat):Int)))&&decide (((Zy M (ge p k)).getD default)=t.take ((Zy M (ge p k)).getD default).length))=true):
 XJ hs M p0 t0=XJ hs M (p.drop (k+1)) (t.drop ((Zy M (ge p k)).getD default).length):=by
 simp only[Bool.and_eq_true,decide_eq_true_eq]at h
 obtain⟨⟨h1,h2⟩,h3⟩:=h
 obtain⟨y,hy⟩:=Option.isSome_iff_exists.1 h1
 rw[hy]at h2 h3 ⊢
 simp only[Option.getD_some]at h2 h3 ⊢
 exact bg_in f hk hy oz h3
theorem bgN (f:XJ hs M p0 t0=XJ hs M (p.drop k) t) (hk:k<p.length) (h:(((Zy M (ge p k)).isSome&&decide (((((Zy M (ge p k)).getD default).length:Nat):Int)≤((t.length:Nat):Int)))&&decide (((Zy M (ge p k)).getD default)=t.take ((Zy M (ge p k)).getD default).length))=false) (hs1:(Zy M (ge p k)).isSome=true):
 XJ hs M p0 t0=(false,false):=by
 obtain⟨y,hy⟩:=Option.isSome_iff_exists.1 hs1
 rw[hy]at h
 simp only[Option.isSome_some,Option.getD_some,Bool.true_and,Bool.and_eq_false_iff,decide_eq_false_iff_not]at h
 exact bg_no f hk hy fun h9=>by rcases h with h | h;exact h oz;exact h h9.2
theorem bgF (f:XJ hs M p0 t0=XJ hs M (p.drop k) t) (hk:k<p.length) (hs1:(Zy M (ge p k)).isSome=false) (hf:ZlP hs (ge p k)=true):XJ hs M p0 t0=(true,false):=
 bg_fl f hk (by simpa using hs1) hf
theorem bgE (f:XJ hs M p0 t0=XJ hs M (p.drop k) t) (hk:k<p.length) (hs1:(Zy M (ge p k)).isSome=false) (hf:ZlP hs (ge p k)=false) (h:(decide (((t.length:Nat):Int)=(0:Int))|| !decide (ge t 0=ge p k))=true):XJ hs M p0 t0=(false,false):=
 bg_ne f hk (by simpa using hs1) hf (by simp only[Bool.or_eq_true,decide_eq_true_eq,Bool.not_eq_true',decide_eq_false_iff_not]at h;rcases h with h | h;exact .inl oz;exact .inr h)
theorem bgS (f:XJ hs M p0 t0=XJ hs M (p.drop k) t) (hk:k<p.length) (hs1:(Zy M (ge p k)).isSome=false) (hf:ZlP hs (ge p k)=false) (h:(decide (((t.length:Nat):Int)=(0:Int))|| !decide (ge t 0=ge p k))=false):XJ hs M p0 t0=XJ hs M (p.drop (k+1)) (t.drop 1):=
 bg_eq f hk (by simpa using hs1) hf (by simp only[Bool.or_eq_false_iff,decide_eq_false_iff_not,Bool.not_eq_false',decide_eq_true_eq]at h;rintro(h9 | h9);exact h.1 oz;exact h9 h.2)
end

section
variable {M:BM} {vis:List BA}
theorem ZwC {k:BA} (h1:vis.Nodup) (h2:∀ q∈vis,q∈M.map (·.1)) (h3:k∉vis∧(Zy M k).isSome=true):M.length-(vis++[k]).length<M.length-vis.length:=by
 have hk:k∈M.map (·.1):=by have:=h3.2;rw[Y1]at this;simpa using this
 have hn:(vis++[k]).Nodup:=by
  rw[List.nodup_append]
  exact⟨h1,by simp,fun x hx y hy e=>by rw[List.mem_singleton.1 hy]at e;subst e;exact h3.1 hx⟩
 have:=Zao (ys:=M.map (·.1)) hn fun x hx=>by
  rcases List.mem_append.1 hx with h | h
  · exact h2 x h
  · rw[List.mem_singleton.1 h];exact hk
 simp at this ⊢
 omega
theorem Zu1 (h1:vis.Nodup) (h2:∀ q∈vis,q∈M.map (·.1)):vis.length≤M.length:=by
 have:=Zao (ys:=M.map (·.1)) h1 h2
 simpa using this
theorem ls_get {s:BA} {t:List BA} (hn:(M.map Prod.fst).Nodup) (h:(s,t)∈M):Zy M s=some t:=by
 induction M with
 | nil=>cases h
 | cons p M ih=>
  rw[List.map_cons,List.nodup_cons]at hn
  rw[XF]
  rcases List.mem_cons.1 h with e | h
  · rw[←e];simp
  · rw[if_neg (fun e=>hn.1 (by rw[←e];exact List.mem_map_of_mem (f:=Prod.fst) h))]
    exact ih hn.2 h
theorem ls_eq (hn:(M.map Prod.fst).Nodup):M.map (fun q=>(⟨q.1,q.2⟩:Bd))=(M.map Prod.fst).map fun s=>(⟨s,(Zy M s).getD default⟩:Bd):=by
 rw[List.map_map]
 refine List.map_congr_left fun q hq=>?_
 show(⟨q.1,q.2⟩:Bd)=⟨q.1,(Zy M q.1).getD default⟩
 rw[ls_get hn (t:=q.2) hq];rfl
theorem ZwB (hn:(M.map Prod.fst).Nodup) (h1:vis.Nodup) (h2:∀ q∈vis,q∈M.map (·.1)) (h3:∀ k,(Zy M k).isSome=true→k∈vis):(vis.map fun s=>(⟨s,(Zy M s).getD default⟩:Bd)).Perm (M.map fun q=>(⟨q.1,q.2⟩:Bd)):=by
 rw[ls_eq hn]
 refine List.Perm.map _ ?_
 refine List.perm_iff_count.2 fun s=>?_
 have e1:=List.Nodup.count h1 (a:=s)
 have e2:=List.Nodup.count hn (a:=s)
 rw[e1,e2]
 have:s∈vis↔s∈M.map Prod.fst:=⟨h2 s,fun h=>h3 s (by rw[Y1];simpa using h)⟩
 simp only[this]
end

section
variable {j:Jb} {g:Fr} {al:List Int} {step k:Nat}
theorem ZwQ (hk:k<g.hyps.length) (h:ZdY g.hyps (YJ j.ts al) 0 k=false):Zdj j g al step=false:=by
 have:(List.range g.hyps.length).all (ZdY g.hyps (YJ j.ts al) 0)=false:=by
  rw[List.all_eq_false]
  exact⟨k,List.mem_range.2 hk,by simp[h]⟩
 simp[Zdj,this]
theorem ZwR (hk:k<g.hyps.length) (h:ZsO g.hyps (gvM g.hyps (YJ j.ts al) g.hyps.length) (YJ j.ts al) k=false):Zdj j g al step=false:=by
 have:(List.range g.hyps.length).all (ZsO g.hyps (gvM g.hyps (YJ j.ts al) g.hyps.length) (YJ j.ts al))=false:=by
  rw[List.all_eq_false]
  exact⟨k,List.mem_range.2 hk,by simp[h]⟩
 simp[Zdj,this]
theorem ZwS (h:(XJ g.hyps (gvM g.hyps (YJ j.ts al) g.hyps.length) g.text (ge j.ts step)).1=false):Zdj j g al step=false:=by simp[Zdj,h]
theorem gvx_ok (h1:∀ k,k<g.hyps.length→ZdY g.hyps (YJ j.ts al) 0 k=true) (h2:∀ k,k<g.hyps.length→ZsO g.hyps (gvM g.hyps (YJ j.ts al) g.hyps.length) (YJ j.ts al) k=true) (h3:(XJ g.hyps (gvM g.hyps (YJ j.ts al) g.hyps.length) g.text (ge j.ts step)).1=true):
 Zdj j g al step= !ZfE (YY (gvM g.hyps (YJ j.ts al) g.hyps.length)) g.apart j.d.vars (ge j.d.frames j.i).wide:=by
 have e1:(List.range g.hyps.length).all (ZdY g.hyps (YJ j.ts al) 0)=true:=List.all_eq_true.2 fun k hk=>h1 k (List.mem_range.1 hk)
 have e2:(List.range g.hyps.length).all (ZsO g.hyps (gvM g.hyps (YJ j.ts al) g.hyps.length) (YJ j.ts al))=true:=List.all_eq_true.2 fun k hk=>h2 k (List.mem_range.1 hk)
 simp[Zdj,e1,e2,h3]
theorem ZgZ {L:BM} {k:BA} {v:List BA} {q:BA×List BA} (h:q∈XK L k v):q∈L∨q.1=k∧q.2=v:=by
 induction L with
 | nil=>
  obtain rfl:=List.mem_singleton.1 h
  exact .inr ⟨rfl,rfl⟩
 | cons p L ih=>
  rw[XK]at h
  split at h
  · rename_i e
    rcases List.mem_cons.1 h with rfl | h
    · exact .inr ⟨e.symm,rfl⟩
    · exact .inl (List.mem_cons_of_mem _ h)
  · rcases List.mem_cons.1 h with rfl | h
    · exact .inl List.mem_cons_self
    · rcases ih h with h | h
      · exact .inl (List.mem_cons_of_mem _ h)
      · exact .inr h
theorem Zss {L:BM} {k:BA} {v:List BA}:(XK L k v).length≤L.length+1:=by
 induction L with
 | nil=>simp[XK]
 | cons p L ih=>rw[XK];split<;>simp;omega
theorem Zp5 {hs:List Hy} {es:List (List BA)}:∀ k,(gvM hs es k).length≤k
 | 0=>Nat.le_refl _
 | k+1=>by
  have h1:=Zp5 (hs:=hs) (es:=es) k
  rw[gvM];split
  · exact Nat.le_trans Zss oz
  · omega
theorem Zkf {hs:List Hy} {es:List (List BA)} {p:List BA→Prop} (hp:∀ t∈es,p (t.drop 1)) (hl:es.length=hs.length):∀ k,k≤hs.length→∀ q∈gvM hs es k,p q.2∧∃ h∈hs,h.floating=true∧q.1=ge h.text 1
 | 0,_,q,h=>by cases h
 | k+1,hk,q,h=>by
  rw[gvM]at h
  split at h
  · rename_i hf
    rcases ZgZ h with h | ⟨h1,h2⟩
    · exact Zkf hp hl k oz q h
    · exact⟨by rw[h2];exact hp _ (Zp oz),ge hs k,Zp oz,hf,h1⟩
  · exact Zkf hp hl k oz q h
theorem ZpD {M:BM} {p:List BA→Prop} (h:∀ q∈M,p q.2):∀ b∈YY M,p b.text:=fun b hb=>by
 obtain⟨q,hq,rfl⟩:=List.mem_map.1 ((ZiE M).mem_iff.1 hb)
 exact h q hq
end
end Go.Proofs.YtdfadihhfppjaaaGreatDoor
