/-
  THE ENGINE: a store into a part of an element of an own row; texts one behind the other.
  THE REFERENCE's RUN AND THE PROGRAM's (plain).
  THE ENGINE: rows of structs from given parts; a struct of a row and a verdict; verdicts compared.
  CONTRACTS of the reference: steps of a proof.
  PROOFS AS GRAPHS (plain): sizes, the flat form, step by step.
  THE ENGINE: the lesser of two whole numbers.
  CONTRACTS of the program: the form of a graph, its flat form, its labels.
  PROOFS AS GRAPHS (plain): the formulas of steps, their lengths; the numbers of frames.
  CONTRACTS of the program: the formulas of a graph.
  CONTRACTS of the program: Texts.
  CONTRACTS of the program: Texts.
  THE ENGINE: closures of an iterator's own that call themselves, and yield.
  CONTRACTS of the program: postorder.
  MINIMIZE (plain): what is needed, changes, candidates, the search; behind it no step has a good change.
  MINIMIZE (plain): what a pattern begins with under a binding; what an assertion gives; the candidates, in order.
  MINIMIZE (plain): the candidates by recursion, the changes of a step, the search.
  MINIMIZE (plain): the words of formulas are symbols of the database, so they and the keys are short.
  MINIMIZE (plain): a binding's substitutions in the order of their variables are one list alone; what is bound by them.
  MINIMIZE (plain): a row from behind, what its rounds do; the inner loops of what is needed and of what is kept.
  MINIMIZE (plain): the chapter's example.
  MINIMIZE (plain): the first steps, by their formulas.
  MINIMIZE (plain): what the program takes an assertion to give is what a step gives.
  MINIMIZE (plain): what each change that is made fulfils.
  MINIMIZE (plain): what the search makes, Check takes.
  MINIMIZE (plain): small laws for the walk: what is needed, counted, kept.
  CONTRACTS of the program: what is needed of a proof.
  THE ENGINE: an element of an own row that names another own row; a job is built; stores into own rows in drawn regions.
  CONTRACTS of the program: what is kept of a proof; its size; keys; what a change makes of it.
-/
import Derived.Test.YtdfadihhfppjaaaGreatDoorPZ
import Derived.Laws.Concat
namespace Go.Proofs.YtdfadihhfppjaaaGreatDoor
open Go.RowKit
section
variable {n:Rn} {N:Nat} {P:Program} {J X:WP} {S S' S'':Nat→Prop} {O:List OB} {w0:World} {env:List (Nat×AV)} {Q:Exit→Act→WP}
variable {o:Oper} {a:Act} {w:World} {x y:Operand} {t e:TypeId} {v:Value} {k:Nat} {rows:List (List CD)}
theorem ZhT {c:CD} {r:List CD} {i j:Nat} (hJ:Stab J) (hJ0:J w0) (hs:Y9 P t 1) (hop:o.op= .store t x y) (hk0:Keeps All w0 w) (hx:XO J S w0.heap.size (OB.row v e k rows::O) w) (h1:Rel S' w (.lit (YS v (i*k+j))) (a.eval x))
 (h2:Rel (SO S (OB.row v e k rows::O)) w (.rd c) (a.eval y)) (hrow:rows[i]?=some r) (hj:j<r.length):
 Does n P o a w fun _ w'=>QS J S w0 (OB.row v e k rows::O) w (OB.row v e k (rows.set i (r.set j c))::O) w':=by
 have hl:i<rows.length:=(List.getElem?_eq_some_iff.1 hrow).1
 obtain⟨g,cap,old,cur,rfl,hlo,hg,hnc,hcm,hcs,htake,hul,hrd,hlen⟩:=ZaD (hx.2.1 (OB.row v e k rows) yz) oz
 simp only[Rel]at h2
 have hv:(a.eval y).cells.toList=[a.eval y]:=by rw[Zaw h2.one]
 have hge:rows[i]=r:=(List.getElem?_eq_some_iff.1 hrow).2
 have hrk:r.length=k:=hlen r (hge▸List.getElem_mem hl)
 have hik:i*k+j+1≤rows.length*k:=by
  have:=Nat.mul_le_mul_right k hl
  rw[Nat.succ_mul]at this
  omega
 have hset:(rows.set i (r.set j c)).flatten=rows.flatten.take (i*k+j)++[c]++rows.flatten.drop (i*k+j+1):=by
  have hd:rows.flatten.drop (i*k)=r++rows.flatten.drop (i*k+k):=by
   rw[Qj rows i hlen,List.drop_eq_getElem_cons hl,hge,List.flatten_cons,show i*k+k=(i+1)*k by rw[Nat.add_mul];omega,Qj rows (i+1) hlen]
  have hd2:rows.flatten.drop (i*k+j+1)=r.drop (j+1)++rows.flatten.drop (i*k+k):=by
   rw[show i*k+j+1=i*k+(j+1) by omega,←List.drop_drop,hd,List.drop_append_of_le_length oz]
  have hd3:rows.flatten.take (i*k+j)=rows.flatten.take (i*k)++r.take j:=by
   rw[List.take_add,hd,List.take_append_of_le_length oz]
  rw[Zgh rows i (r.set j c) hlen hl,hd3,hd2,List.set_eq_take_append_cons_drop,if_pos hj]
  simp
 have hlen':∀ q∈rows.set i (r.set j c),q.length=k:=fun q hq=>by
  rcases List.mem_or_eq_of_mem_set hq with h | rfl
  · exact hlen q h
  · rw[List.length_set];exact hrk
 generalize hp:i*k+j=p at*
 have hrc:rows.length*k≤cap*k:=Nat.mul_le_mul_right k hnc
 have hr:RdL (SO S (OB.row (.slice (some ⟨g,0,none⟩) rows.length cap) e k rows::O)) w [c] [a.eval y]:=⟨h2,trivial⟩
 have hrun:=QE (P:=P) (ty:=t) (o:=p) (cur:=cur.toList) (t:=e) hv (by simpa using hs) (by simpa using hg) (by simp;omega) hr.one
 have hlt:g<w.heap.size:=(Array.getElem?_eq_some_iff.1 hg).1
 have hk:Keeps (fun b=>¬ (OB.row (.slice (some ⟨g,0,none⟩) rows.length cap) e k rows).blk b) w (w.setRow g (cur.toList.take p++[a.eval y]++cur.toList.drop (p+ [a.eval y].length)).toArray):=
  (Q4 (g:=g)).sub fun b _ hb e=>hb (by simp[OB.row,Value.ownBlock,e])
 have hsub:∀ b,b<w.heap.size→SO S (OB.row (.slice (some ⟨g,0,none⟩) rows.length cap) e k rows::O) b→(¬ (OB.row (.slice (some ⟨g,0,none⟩) rows.length cap) e k rows).blk b)∧SO S (OB.row (.slice (some ⟨g,0,none⟩) rows.length cap) e k (rows.set i (r.set j c))::O) b:=fun b _ hs=>⟨hs.2 (OB.row (.slice (some ⟨g,0,none⟩) rows.length cap) e k rows) yz,hs.1,fun p hp=>by
  rcases List.mem_cons.1 hp with rfl | hp
  · exact hs.2 (OB.row (.slice (some ⟨g,0,none⟩) rows.length cap) e k rows) yz
  · exact hs.2 p (List.mem_cons_of_mem _ hp)⟩
 refine Zbc (w':=w.setRow g (cur.toList.take p++[a.eval y]++cur.toList.drop (p+ [a.eval y].length)).toArray) ?_ (QW hJ hJ0 hk0 hx hk (fun b hb=>.inl hb) ⟨old.take p++[a.eval y]++old.drop (p+1),⟨?_,.inr ⟨g,cap,_,?_,hlo,setRow_heap w g _ _ e _ hg,?_,hcm,?_,?_⟩⟩,?_,hlen'⟩)
 · have hv':=h1.lit
   simp only[YS]at hv'
   rw[execOp,hop]
   simp only[hv',Sem.run_bind,hrun]
   rfl
 · simp;omega
 · simp
 · simpa using hnc
 · simp;omega
 · simp only[List.length_set]
   rw[←htake]
   exact ZjO cur.toList p (rows.length*k) [a.eval y] (by simpa using hik) (by simp;omega)
 · rw[hset]
   exact(((hrd.take p).move hk hsub).append (hr.move hk hsub)).append ((hrd.drop (p+1)).move hk hsub)
end
theorem r_addS {n:Rn} {P:Program} {X:WP} {S:Nat→Prop} {o:Oper} {a:Act} {w:World} {x y:Operand} {t u:TypeId} {i j:BA} (hop:o.op= .binOp .add t x y u) (h1:Rel S w (.str i) (a.eval x)) (h2:Rel S w (.str j) (a.eval y)) (hl:i.size+j.size≤9223372036854775807) (hx:X w):Does n P o a w (YC S X (.str (i++j)) w):=
 Zbu (v:=.string (i++j)) (show(i++j).size≤maxLen by rw[ByteArray.size_append];exact hl) (Zat ..) (by simp only[binOp];exact run_string_add_sum w i j hl) hop h1 h2 hx
end Go.Proofs.YtdfadihhfppjaaaGreatDoor
namespace Go.Proofs.YtdfadihhfppjaaaGreatDoor
section
variable {d:Db} {i:Nat} {t:List BA}
section
variable {f:Fr}
variable (h0:ZoI t=true)
include h0
variable (h2:¬ (letE t).2.2=20)
include h2
variable (h3:(f.hyps.any fun h=>decide (h.label∈cutL t))=false)
include h3
variable (h4:¬ (letE t).2.2=21)
include h4
end
end
section
variable {d:Db} {i:Nat} {r:Ri} {x:Itm} {gv sk tg:List (List BA)} {tgs:List Int}
end
section
variable {fs:List Fr} {vars:List BA} {f:Fr} {xs:List Itm}
structure Rs where
 sk:List (List BA)
 n:Nat
 kn:Bool
 v:Int×Int
instance instInhRs:Inhabited Rs:=⟨⟨[],0,false,(0,0)⟩⟩
def rsOf (m:Ms):Rs:=⟨m.sk,m.n,m.kn,m.v⟩
end
structure RunI (d:Db) (i:Nat) (t:List BA) (n:Nat) (sk gv:List (List BA)):Prop where
 le:n≤(Zn3 d i t).length
 st:rsOf (runM d.frames d.vars (ge d.frames i) (Zn3 d i t) n (mchV d i t))=⟨sk,n,decide (n=(Zn3 d i t).length),if n=(Zn3 d i t).length then endD (ge d.frames i) sk n else(0,0)⟩
 tg:(runM d.frames d.vars (ge d.frames i) (Zn3 d i t) n (mchV d i t)).tg=(tagL ((Zn3 d i t).take n) 0).map fun z=>ge gv z.toNat
 gl:gv.length=n
 inv:InvM (Zn3 d i t) (runM d.frames d.vars (ge d.frames i) (Zn3 d i t) n (mchV d i t))
section
variable {d:Db} {i n:Nat} {t:List BA} {sk gv:List (List BA)} {r:Ri}
variable (hI:RunI d i t n sk gv) (hn:n< (Zn3 d i t).length)
include hI hn
variable (hc:ZcG d=0) (hi:i<d.frames.length) (hr:RelI (ge d.frames i) (namL (d.frames.take i)) (tagL ((Zn3 d i t).take n) 0) (ge (Zn3 d i t) n) r)
include hc hi hr
end
section
variable {d:Db} {i n most:Nat} {t:List BA} {sk gv:List (List BA)} {r:Ri}
end
section
variable {d:Db} {i n most:Nat} {t:List BA} {sk gv:List (List BA)} {r:Ri}
end
end Go.Proofs.YtdfadihhfppjaaaGreatDoor
namespace Go.Proofs.YtdfadihhfppjaaaGreatDoor
open Go.RowKit
theorem Znd:∀(r:List Value) (s off:Nat) (pre old post:List Value),pre.length=off+s→old.length=r.length→
 (r.zipIdx s).foldl (fun(cs:Array Value) (x:Value×Nat)=>cs.setIfInBounds (off+x.2) x.1) (pre++old++post).toArray=(pre++r++post).toArray
 | [],s,off,pre,old,post,_,h2=>by
  have:old=[]:=List.length_eq_zero_iff.1 (by simpa using h2)
  subst this
  rfl
 | v::r,s,off,pre,old,post,h1,h2=>by
  match old,h2 with
  | u::old,h2=>
   rw[List.zipIdx_cons,List.foldl_cons]
   have e:((pre++u::old++post).toArray.setIfInBounds (off+s) v)=((pre++[v])++old++post).toArray:=by
    rw[List.setIfInBounds_toArray]
    congr 1
    rw[List.append_assoc,List.set_append_right _ _ oz,h1.symm,Nat.sub_self]
    simp
   rw[e,Znd r (s+1) off (pre++[v]) old post (by simp;omega) (by simpa using h2)]
   simp
theorem ZhO {k:Nat}:∀(rows:List (List Value)) (i:Nat) (pre z:List Value),pre.length=i*k→z.length=rows.length*k→(∀ r∈rows,r.length=k)→
 Instr.fill (fun i=>some (i*k,k)) (pre++z).toArray ((rows.zipIdx i).map fun p=>(p.2,Value.agg p.1.toArray))=some (pre++rows.flatten).toArray
 | [],i,pre,z,_,h2,_=>by
  have:z=[]:=List.length_eq_zero_iff.1 (by simpa using h2)
  subst this
  simp[Instr.fill]
 | r::rows,i,pre,z,h1,h2,h3=>by
  have hr:=h3 r yz
  have hz:z.length=k+rows.length*k:=by rw[h2,List.length_cons,Nat.succ_mul,Nat.add_comm]
  have hcell:(Value.agg r.toArray).cells=r.toArray:=rfl
  simp only[List.zipIdx_cons,List.map_cons,Instr.fill,hcell]
  rw[if_neg (by simp[hr];omega)]
  have e:(Array.foldl (fun cs (x:Value×Nat)=>cs.setIfInBounds (i*k+x.snd) x.fst) (pre++z).toArray r.toArray.zipIdx)=((pre++r)++z.drop k).toArray:=by
   have:=Znd r 0 (i*k) pre (z.take k) (z.drop k) h1 (by rw[List.length_take];omega)
   rw[List.append_assoc pre,List.take_append_drop]at this
   rw[←this]
   simp
  rw[e,ZhO rows (i+1) (pre++r) (z.drop k) (by rw[List.length_append,h1,hr,Nat.succ_mul]) (by rw[List.length_drop];omega) fun q hq=>h3 q (by simp[hq])]
  simp
section
variable {n:Rn} {N:Nat} {P:Program} {J X:WP} {S S' S'':Nat→Prop} {O:List OB} {w0:World} {env:List (Nat×AV)} {Q:Exit→Act→WP}
variable {o:Oper} {a:Act} {w:World} {t e u:TypeId} {x y:Operand}
theorem Zm4 {k:Nat}:∀ {cs:List (List CD)} {vs:List Value},RelL S w (cs.map AV.agg) vs→(∀ r∈cs,r.length=k)→
 ∃ us:List (List Value),vs=us.map (fun r=>Value.agg r.toArray)∧us.length=cs.length∧(∀ r∈us,r.length=k)∧RdL S w cs.flatten us.flatten
 | [],vs,h,_=>by
  simp only[List.map_nil,RelL]at h
  subst h
  exact⟨[],rfl,rfl,by simp,trivial⟩
 | c::cs,vs,h,hk=>by
  simp only[List.map_cons,RelL]at h
  obtain⟨v,vs',rfl,h1,h2⟩:=h
  simp only[Rel]at h1
  obtain⟨u,rfl,hr⟩:=h1
  obtain⟨us,rfl,hl,hk2,hr2⟩:=Zm4 (cs:=cs) h2 fun r hr=>hk r (by simp[hr])
  refine⟨u::us,rfl,by simp[hl],fun r hr3=>?_,?_⟩
  · rcases List.mem_cons.1 hr3 with rfl | hr3
    · rw[hr.length];exact hk c yz
    · exact hk2 r hr3
  · rw[List.flatten_cons,List.flatten_cons]
    exact hr.append hr2
theorem Zsr {k m:Nat} {cs:List (List CD)} {vs:List Value} {z:Array Value} {parts:Array (Nat×Operand)} (ht:Yl P t e k) (hz:∀ w,(zeroValue e).run P w= .ok (.agg z) w) (hop:o.op= .buildSlice t m parts) (hp:(parts.map fun(i,x)=>(i,a.eval x)).toList=vs.zipIdx.map fun p=>(p.2,p.1)) (h:RelL S w (cs.map AV.agg) vs) (hk:∀ r∈cs,r.length=k) (hl:cs.length=m) (h1:1≤k) (hm:1≤m*k) (hm2:m*k≤16777216)
 (hS:S w.heap.size) (hx:∀ w',Keeps All w w'→X w'):Does n P o a w (YC S X (.rd (.sl cs)) w):=by
 obtain⟨us,rfl,hul,huk,hall⟩:=Zm4 h hk
 have hfl:us.flatten.length=m*k:=by
  have:∀ us:List (List Value),(∀ r∈us,r.length=k)→us.flatten.length=us.length*k:=by
   intro us
   induction us with
   | nil=>simp
   | cons r us ih=>intro h;rw[List.flatten_cons,List.length_append,h r yz,ih fun q hq=>h q (by simp[hq]),List.length_cons,Nat.succ_mul,Nat.add_comm]
  rw[this us huk,hul,hl]
 have hf:=ZhO us 0 [] ((List.range (m*k)).map (z[· %z.size]!)) yz (by simp[hul,hl]) huk
 have hf2:Instr.fill (fun i=>some (i*k,k)) ((Array.range (m*k)).map (z[· %z.size]!)) (parts.map fun(i,x)=>(i,a.eval x)).toList=some us.flatten.toArray:=by
  rw[hp,List.zipIdx_map,List.map_map]
  have e:(Array.range (m*k)).map (z[· %z.size]!)=([]++(List.range (m*k)).map (z[· %z.size]!)).toArray:=by
   apply Array.ext'
   simp[Array.toList_range]
  rw[e]
  exact hf
 have hk':Keeps All w (w.alloc (.cells us.flatten.toArray e)):=(Keeps.refl _ _).alloc _
 refine ZR (v:=.slice (some ⟨w.heap.size,0,none⟩) m m) (w':=w.alloc (.cells us.flatten.toArray e)) ?_ ⟨?_,hk',hx _ hk'⟩
 · have hcz:(Value.agg z).cells=z:=rfl
   rw[execOp,hop]
   simp only[Sem.run_bind,Instr.buildSlice,run_underlying ht.1,Result.andThen_ok,ht.2 w]
   simp[newRow,newObj]
   rw[hz w]
   simp only[Result.andThen_ok,hcz]
   have hf3:=hf2
   simp only[Array.toList_map]at hf3
   simp only[hf3]
   rw[if_neg oz,if_neg oz]
   rfl
 · simp only[Rel]
   rw[show(m:Nat)=cs.length from hl.symm]
   refine Rd.of_cells (n:=k) (us:=us.flatten) nlr (by rw[hl];exact Nat.le_trans (Nat.le_mul_of_pos_right m h1) (Nat.le_trans hm2 dz)) yz hS hk (hall.keep hk' fun _ _ _=>trivial) fun j u hj=>Qz j u hj
end
set_option maxHeartbeats 8000000
set_option maxRecDepth 100000
theorem Zev:ZbB Tryz.prog 182 2:=⟨#[.string ⟨#[]⟩,.slice none 0 0],rfl,fun i=>(#[(0,1),(1,1)]:Array (Nat×Nat))[i]?,fun j hj=>by rcases j with _ | _ | j<;>first | rfl | omega,fun parts=>by kernel_rfl⟩
end Go.Proofs.YtdfadihhfppjaaaGreatDoor
namespace Go.Proofs.YtdfadihhfppjaaaGreatDoor
section
variable {ss:List Stp} {k j n:Nat}
end
theorem fs_len {ss:List Stp} {k:Nat} (h:40< (ge ss k).args.length):fsE ss k=4:=if_pos h
theorem fs_bad {ss:List Stp} {k:Nat} (h:¬ 40< (ge ss k).args.length) (hb:((ge ss k).args.any (Zch k))=true):fsE ss k=3:=(if_neg h).trans (if_pos hb)
theorem fs_ok {ss:List Stp} {k:Nat} (h:¬ 40< (ge ss k).args.length) (hb:((ge ss k).args.any (Zch k))=false):fsE ss k=0:=(if_neg h).trans (if_neg (by simp[hb]))
theorem Zf3 {ss:List Stp} (hok:ZeD ss) {k j:Nat} (hk:k<ss.length) (hj:j< (ge ss k).args.length):0≤ge (ge ss k).args j∧ge (ge ss k).args j< (k:Int):=by
 rw[YL hk]at hj ⊢
 exact(hok.2.2 k hk).2 _ (Zg hj)
theorem Zf2 {ss:List Stp} (hok:ZeD ss) {k:Nat} (hk:k<ss.length):(ge ss k).args.length≤40:=by
 rw[YL hk];exact(hok.2.2 k hk).1
section
variable {ss:List Stp} {i j m:Nat}
end
section
variable {d:Db} {z:Int} {ss:List Stp}
theorem Zer (h:Zfx d z ss=0):Q7 d z=0∧Za7 ss=0:=by
 unfold Zfx at h
 split at h
 · exact⟨by assumption,h⟩
 · exact absurd h (by assumption)
end
end Go.Proofs.YtdfadihhfppjaaaGreatDoor
namespace Go.Proofs.YtdfadihhfppjaaaGreatDoor
open Go.RowKit
section
variable {n:Rn} {P:Program} {X:WP} {S S' S'':Nat→Prop}
variable {S:Nat→Prop} {d:Db}
def Zpi (P:Program) (t:TypeId):Prop:=∀(x y z:Value) (i:Int),P.built t [(0,.agg #[x,y,z]),(1,.int .i64 i)]=some #[x,y,z,.int .i64 i,.slice none 0 0]
theorem Zna {o:Oper} {a:Act} {w:World} {x y:Operand} {t:TypeId} {i:Int} (ht:Zpi P t) (hop:o.op= .build t #[(0,x),(1,y)]) (h:Rel S w (.agg (dbC d)) (a.eval x)) (h2:Rel S w (.int i) (a.eval y)) (hx:X w):
 Does n P o a w (YC S X (.agg (dbC d++[.lit (.int .i64 i),.lit (.slice none 0 0)])) w):=by
 simp only[Rel]at h
 obtain⟨us,hv,hr⟩:=h
 have hi:=h2.lit
 match us,hr with
 | [u1,u2,u3],hr=>
  refine Zr (v:=.agg #[u1,u2,u3,.int .i64 i,.slice none 0 0]) ?_ (by simp only[Rel];exact⟨[u1,u2,u3,.int .i64 i,.slice none 0 0],rfl,hr.append (ds:=[.lit (.int .i64 i),.lit (Value.slice none 0 0)]) (us:=[.int .i64 i,.slice none 0 0]) ⟨.lit _ True.intro,.lit _ True.intro,trivial⟩⟩) hx
  have hrun:=run_build (P:=P) w t #[(0,a.eval x),(1,a.eval y)] #[u1,u2,u3,.int .i64 i,.slice none 0 0] (by rw[hv,hi];exact ht u1 u2 u3 _)
  rw[execOp,hop]
  simp only[List.map_toArray,List.map_cons,List.map_nil,Sem.run_bind,hrun]
  rfl
end
theorem Zgb {J:WP} {S:Nat→Prop} {N:Nat} {P:Program} {w0:World} {O:List OB} {env:List (Nat×AV)} {fn:Func} {a:Act} {w:World} {b:Nat} {cs cs':List CD} {t:TypeId} {d m q u x z k:Nat} {r1 r2 r3 r4:AV} (hr:fn.results= #[.tmp x,.cell d t,.tmp u]) (h1:Xl P t k) (h:So J S w0 N (OB.var b cs::O) env a w) (he:env[m]?=some (d,.at b 0)) (hl:cs.length=k) (hE:cs=cs') (he1:env[z]?=some (x,r1)) (hE1:r1=r2) (he2:env[q]?=some (u,r3)) (hE2:r3=r4):
 bodyPost P fn (fun e w'=>∃ v,e= .returned v∧Rel S w' (.tup [r2,.agg cs',r4]) v∧Keeps All w0 w'∧J w') .ret a w:=by
 subst hE
 subst hE1
 subst hE2
 obtain⟨h0,us,e,hb,hrd⟩:=h.x.2.1 (OB.var b cs) yz
 have hd:a.tmps.getD d undef= .pointer (some ⟨b,0,none⟩):=(h.get m he).lit
 have hrun:=Yj (P:=P) b 0 w us 0 #[] fun j u hj=>by rw[Nat.zero_add];simp[World.cell?,hb,hj]
 rw[show us.length=k by rw[hrd.length,hl]]at hrun
 have hd':a.tmps[d]?.getD undef= .pointer (some ⟨b,0,none⟩):=by rw[←Array.getD_eq_getD_getElem?];exact hd
 refine⟨h.defs,.tuple #[a.tmps.getD x undef,.agg us.toArray,a.tmps.getD u undef],by simp[results,hr,hd',asAddr,Sem.run_bind,loadVar,loadCells,h1.1 w,h1.2 w,hrun],_,rfl,?_,h.keep,h.x.1⟩
 have h2:=(h.get q he2).sub (T:=S) fun _ _ hk=>hk.1
 have h3:=(h.get z he1).sub (T:=S) fun _ _ hk=>hk.1
 simp only[Rel,RelL]
 exact⟨_,rfl,_,_,rfl,h3,_,_,rfl,⟨us,rfl,hrd.sub fun _ _ hk=>hk.1⟩,_,_,rfl,h2,rfl⟩
set_option maxHeartbeats 8000000
set_option maxRecDepth 100000
theorem ZlV:Zsc Tryz.prog 29 3 8 (.int .i64 0):=makeT (by kernel_rfl) (by kernel_rfl) rfl True.intro
theorem ZtK {J:WP} (hJ:Stab J) (y:Int) (k:Nat)  :Fn Tryz.prog J 109 [.int y,.ptr [.lit (.int .i64 (((k:Nat):Int)))]] (.bool (Zch (k:Int) y)):=by
 refine fE Tryz.func109 fun S w0 hS hJ0=>?_
 clear hJ0
 refine qs tb hJ [0,1] [_] [_,_] ?_
 refine qs tb hJ [1007] [_,_,_,_,_,_,_,_] [_] ?_
 exact tRn 0 (hE:=eB (rfl))
theorem p_form {J:WP} (hJ:Stab J) (ss:List Stp)  :Fn Tryz.prog J 81 [.agg (pfC ss)] (.int (Za7 ss)):=by
 refine fE Tryz.func81 fun S w0 hS hJ0=>?_
 refine tw Ye (ZK tb hJ [1000] [.ptr (pfC ss),_] [0] [_] rfl ⟨iBo hS hJ,trivial⟩ ?_)
 refine Zh (ZK tb hJ [0,1001,1009] [_,_,.int (ss.length:Nat),_,_,_,_,.int (ss.length:Nat),_,_] [2,7] [_,_,_] rfl ⟨Ym Z1,Ym Z1,trivial⟩ ?_)
 refine ln 1 fun hl1=>?_
 refine cj 2 (fun hb1=>?_) fun hb1=>?_
 ·
  have eU:Za7 ss=4:=Zok (by simp only[Bool.or_eq_true,decide_eq_true_eq]at hb1;omega)
  refine qso tb hJ [1000] [_] [_] ?_
  exact tRo 0 (hE:=eI (by rw[eU]))
 ·
  have hn:¬ (ss.length<1∨2000<ss.length):=by simp only[Bool.or_eq_false_iff,decide_eq_false_iff_not]at hb1;omega
  refine Zc (nx (Zh (ZK tb hJ [1001,1002,1003] [_,_,.int (ss.length:Nat),_] [2] [_,_,_] rfl ⟨Ym Z1,trivial⟩ ?_)))
  refine Ze (lpo (ι:=Nat) (fun k=>(k≤ss.length)∧(∀ j,j<k→fsE ss j=0)) (fun _=>[]) (fun k=>[(18,.int (k:Nat))]) (fun k=>ss.length-k) [0,1,2] [_,_] 0 ⟨nzl,fun j hj=>by omega⟩ ?_)
  rintro k ⟨f1_1,f1_2⟩
  refine qso tb hJ [0,1,2,1000] [_] [_,_,_,_] ?_
  refine cjS 3 (fun hb2=>?_) fun hb2=>?_
  ·
   try simp at hb2
   refine Zc (nx (Zh (Ze (tsq (snK 1 tb rfl (sy (.ptr (spC (ge ss k))) (fun h=>ZU (i:=((k:Nat):Int)) Z3 rfl (h.get 1 rfl) (h.get 3 rfl) nnn (Z0 (xs:=ss) (k:=k) (by first | omega | (simp;omega) | grind[Zg])) rfl h.x) ?_))))))
   refine snK 1 tb rfl (ZA Zpx hJ rfl rfl rfl (lb rfl) fun b1=>?_)
   refine ZA Xv hJ rfl rfl rfl (lb rfl) fun b2=>?_
   refine kw pm1 (Yb (b:=b1) (off:=0) (es:=[_]) hJ hJ0 ZbU rfl rfl rfl (lb rfl) rfl (fun a w h=>⟨(h.get 1 rfl),(h.get 4 rfl)⟩) ?_)
   refine kw pm1 (Zt (b:=b2) (off:=0) (es:=[_,_]) (news:=[_,_]) hJ hJ0 Qe rfl rfl rfl (lb rfl) rfl (fun a w h=>⟨(h.get 0 rfl),(h.get 2 rfl)⟩) ?_)
   refine kw pm1 (kw (fun h=>ZM hS h (m:=1) (s:=3) rfl) ?_)
   refine kw (fun h=>ZM hS h (m:=1) (s:=4) rfl) (seK [0,1,5,6,7] [_,_,_,_,_] rfl ?_)
   refine nx (Zh (ZK tb hJ [0,1,2,3,4,1001,1003] [_,_,.int (((ge ss k).args).length:Nat),_] [2] [_,_,_,_,_,_,_] rfl ⟨Ym YE,trivial⟩ ?_))
   refine ln 5 fun hl2=>?_
   refine cj 6 (fun hb3=>?_) fun hb3=>?_
   ·
    try simp at hb3
    have eU:Za7 ss=4:=by have e9:=fs_len (ss:=ss) (k:=k) oz;rw[ZkH hn oz f1_2 (by rw[e9];decide),e9]
    refine qso tb hJ [1000] [_] [_] ?_
    exact tRo 0 (hE:=eI (by rw[eU]))
   ·
    try simp at hb3
    refine Zc (nx (ZK tb hJ [2,3,4,1003] [_,_,.fn 109 [.ptr [.lit (.int .i64 (((k:Nat):Int)))]],.bool (((ge ss k).args).any (Zch (k:Int)))] [2,3] [_,_,_,_] rfl ⟨fun _ _ _ hx hl _=>YW (caps:=[(Go.Operand.tmp 3)]) rfl (Za (hl.env 1 3 _ rfl rfl) Zd) hx,fun _ _ hk hx hl _=>YX (ZdP hJ ((ge ss k).args) 109 [.ptr [.lit (.int .i64 (((k:Nat):Int)))]] [] (Zch (k:Int)) (fun q'=>(ZtK hJ q' k).rr) (ZrW)) Zu2 rfl (Zm hS _ hk hx) (hx.1) Zq (Za (hl.D 1 28 rfl rfl) (Za (hl.D 2 29 rfl rfl) Zd)) (jo hJ hx),trivial⟩ ?_))
    refine cj 3 (fun hb4=>?_) fun hb4=>?_
    ·
     have eU:Za7 ss=3:=by have e9:=fs_bad (ss:=ss) (k:=k) oz (hb4);rw[ZkH hn oz f1_2 (by rw[e9];decide),e9]
     refine qso tb hJ [1000] [_] [_] ?_
     exact tRo 0 (hE:=eI (by rw[eU]))
    ·
     have eF:=fs_ok (ss:=ss) (k:=k) oz hb4
     refine Zc (nx (YR tb hJ [0,1,1001] [.int (k+1:Nat),_] [0] [_,_,_] rfl ⟨YN,trivial⟩ ?_))
     exact Xf (k+1) [0,1,2] ⟨oz,ZY f1_2 eF⟩
  ·
   try simp at hb2
   have eU:Za7 ss=0:=Zol hn fun j hj=>f1_2 j oz
   refine Zu (nx (qso tb hJ [1000] [_] [_] ?_))
   exact tRo 0 (hE:=eI (by rw[eU]))
theorem Zp1 {J:WP} (hJ:Stab J) (d:Db) (z:Int) (hw:∀ f∈d.frames,f.wide.length*32≤140737488351232) (hG:XI J):Fn Tryz.prog J 85 [.agg (dbC d),.int z] (.int (Q7 d z)):=by
 refine fE Tryz.func85 fun S w0 hS hJ0=>?_
 clear hJ0
 refine hqs tb hJ [1,1000] [.ptr (dbC d),_] [0] [_,_] rfl ⟨iBs hS hJ,trivial⟩ ?_
 refine Zh (hqs tb hJ [0,1,1002] [_,.int (ZcG d),_] [1] [_,_,_] rfl ⟨iFn hS hJ (ZtT hJ d (by exact hw) (by exact hG)) ZrV,trivial⟩ ?_)
 refine qs tb hJ [0,1,2,1001] [_,_] [_,_,_,_] ?_
 refine cj 3 (fun hb1=>?_) fun hb1=>?_
 ·
  try simp at hb1
  have e3:Q7 d z=ZcG d:=by rw[Q7,if_pos (by simpa using hb1)]
  refine qs tb hJ [1001] [_,_] [_] ?_
  exact tRn 0 (hE:=eI (by rw[e3]))
 ·
  try simp at hb1
  refine Zc (nx (Zh (hqs tb hJ [1008] [_,_,_,_,_,_,.int (d.frames.length:Nat),_,_] [6] [_] rfl ⟨Ym QA,trivial⟩ ?_)))
  refine cj 0 (fun hb2=>?_) fun hb2=>?_
  ·
   have e3:Q7 d z=5:=by rw[Q7,if_neg (by simpa using hb1),if_pos (by simpa using hb2)]
   refine qs tb hJ [1000] [_] [_] ?_
   exact tRn 0 (hE:=eI (by rw[e3]))
  ·
   have e3:Q7 d z=0:=by rw[Q7,if_neg (by simpa using hb1),if_neg (by simpa using hb2)]
   refine Zc (nx (qs tb hJ [1000] [_] [_] ?_))
   exact tRn 0 (hE:=eI (by rw[e3]))
theorem Zf0 {J:WP} (hJ:Stab J) (d:Db) (z:Int) (ss:List Stp) (hw:∀ f∈d.frames,f.wide.length*32≤140737488351232) (hG:XI J):Fn Tryz.prog J 56 [.agg (dbC d),.int z,.agg (pfC ss)] (.int (Zfx d z ss)):=by
 refine fE Tryz.func56 fun S w0 hS hJ0=>?_
 clear hJ0
 refine hqs tb hJ [1,1000,1001] [.ptr (dbC d),.ptr (pfC ss),_] [0,1] [_,_,_] rfl ⟨iBs hS hJ,iBs hS hJ,trivial⟩ ?_
 refine Zh (hqs tb hJ [2,1003] [_,_,.int (Q7 d z),_] [2] [_,_] rfl ⟨iFn hS hJ (Zp1 hJ d z (by exact hw) (by exact hG)) ZuW,trivial⟩ ?_)
 refine qs tb hJ [0,1,1001] [_,_] [_,_,_] ?_
 refine cj 2 (fun hb1=>?_) fun hb1=>?_
 ·
  try simp at hb1
  have eU:Zfx d z ss=Q7 d z:=if_neg (by simpa using hb1)
  refine qs tb hJ [1001] [_,_] [_] ?_
  exact tRn 0 (hE:=eI (by rw[eU]))
 ·
  try simp at hb1
  have eU:Zfx d z ss=Za7 ss:=if_pos (by simpa using hb1)
  refine Zc (nx (hqs tb hJ [1002] [_,.int (Za7 ss),_] [1] [_] rfl ⟨iFn hS hJ (p_form hJ ss) ZuX,trivial⟩ ?_))
  exact tRn 0 (hE:=eI (by rw[eU]))
end Go.Proofs.YtdfadihhfppjaaaGreatDoor
namespace Go.Proofs.YtdfadihhfppjaaaGreatDoor
section
variable {d:Db} {i k j:Nat} {s:Stp} {a es:List (List BA)} {ag:List Int} {ss:List Stp} {vars:List BA} {wide:List Pr} {g:Fr}
theorem Zdb:(YD a ag).length=ag.length:=by simp[YD]
theorem Zel (hj:j<ag.length):ge (YD a ag) j=ge a (ge ag j).toNat:=by
 rw[YL (by rw[Zdb];exact hj),YL hj];simp[YD]
theorem ZkN {p:List BA→Prop} (h:∀ t∈a,p t) (hb:∀ j,j<ag.length→0≤ge ag j∧ge ag j< (a.length:Int)):∀ t∈YD a ag,p t:=fun t ht=>by
 obtain⟨j,hj,rfl⟩:=Xe ht
 rw[Zdb]at hj
 have:=hb j hj
 rw[Zel hj]
 exact h _ (Zg oz)
theorem Ztc {c:Int} (h:Zlq vars wide g es 0= .error c):¬ c=0:=by
 unfold Zlq at h
 split at h
 · injection h with h;omega
 split at h
 · injection h with h;omega
 split at h
 · injection h with h;omega
 split at h
 · injection h with h;omega
 · cases h
theorem Zpy (hg:okT g) (h:(Zbw vars wide g es).2=0):1≤(Zbw vars wide g es).1.length∧(Zbw vars wide g es).1.length≤2000:=by
 unfold Zbw at h ⊢
 cases h9:Zlq vars wide g es 0 with
 | ok t=>exact Ztb hg h9
 | error c=>rw[h9]at h;exact absurd h (Ztc h9)
theorem ZpC (hc:ZcG d=0) (hi:i<d.frames.length) (h:(Zah d i s a).2=0):1≤(Zah d i s a).1.length∧(Zah d i s a).1.length≤2000:=by
 unfold Zah at h ⊢
 split at h
 · cases h
 rename_i h0
 rw[if_neg h0]
 cases h9:Za6 (ge d.frames i) s.label with
 | some y=>
  rw[h9]at h
  simp only at h ⊢
  split at h
  · cases h
  rename_i h1
  rw[if_neg h1]
  exact(Zcc hc _ (Zg hi)).2.2 y (List.mem_of_find?_eq_some h9)
 | none=>
  rw[h9]at h
  simp only at h ⊢
  split at h
  · cases h
  rename_i h1
  rw[if_neg h1]
  split at h
  · cases h
  rename_i h2
  rw[if_neg h2]
  exact Zpy (Zcc hc _ (Zg (ZgE h1).2.2)).2.1 h
theorem Zgg (hc:ZcG d=0) (hi:i<d.frames.length):∀ k,(∀ j,j<k→erG d i ss j=0)→∀ t∈fmG d i ss k,1≤t.length∧t.length≤2000
 | 0,_,t,ht=>by simp[fmG]at ht
 | k+1,h,t,ht=>by
  rw[fmG]at ht
  rcases List.mem_append.1 ht with ht | ht
  · exact Zgg hc hi k (fun j hj=>h j oz) t ht
  · rw[List.mem_singleton.1 ht]
    exact ZpC hc hi (h k oz)
theorem ZqS {z:BA} (hi:i≤d.frames.length) (h:ZcF d z<0∨(i:Int)≤ZcF d z):YZ d i z= -1:=Zmm fun j hj e=>by
 have h1:¬ XZ (fun f=>decide (f.label=z)) d.frames= -1:=fun e1=>by
  have e2:d.frames.findIdx? (fun f=>decide (f.label=z))=none:=by
   unfold XZ at e1
   cases h9:d.frames.findIdx? (fun f=>decide (f.label=z))with
   | none=>rfl
   | some q=>rw[h9]at e1;simp only at e1;omega
  have e3:=List.findIdx?_eq_none_iff.1 e2 _ (Zg (show j<d.frames.length by omega))
  simp[e]at e3
 obtain⟨h2,h3,h4,h5⟩:=QI h1
 have h6:ZcF d z=XZ (fun f=>decide (f.label=z)) d.frames:=rfl
 rw[h6]at h
 have h7:=h5 j oz
 simp[e]at h7
theorem Zot {z:BA} (hi:i≤d.frames.length) (h:¬ ZcF d z<0) (h0:ZcF d z< (i:Int)):YZ d i z=ZcF d z:=by
 have h6:ZcF d z=XZ (fun f=>decide (f.label=z)) d.frames:=rfl
 obtain⟨h2,h3,h4,h5⟩:=QI (p:=fun f=>decide (f.label=z)) (xs:=d.frames) (by rw[←h6];omega)
 rw[←h6]at h2 h3 h4 h5
 rw[Zpg (k:=(ZcF d z).toNat) hi oz (fun j hj e=>by have:=h5 j hj;simp[e]at this) (by simpa using h4)]
 omega
theorem ZnD (hok:ZeD ss) (hk:k<ss.length):∀ j,j< (ge ss k).args.length→0≤ge (ge ss k).args j∧ge (ge ss k).args j< (k:Int):=fun _ hj=>Zf3 hok hk hj
def Ys (d:Db) (z:Int) (ss:List Stp):List (List BA)×(Int×Int):=if Zfx d z ss=0 then Zpz d z.toNat ss else([],(0,0))
theorem Zov:erG d i ss k=(Zah d i (ge ss k) (fmG d i ss k)).2:=rfl
theorem ZqP:fmG d i ss (k+1)=fmG d i ss k++[(Zah d i (ge ss k) (fmG d i ss k)).1]:=rfl
end
end Go.Proofs.YtdfadihhfppjaaaGreatDoor
set_option maxHeartbeats 8000000
set_option maxRecDepth 100000
namespace Go.Proofs.YtdfadihhfppjaaaGreatDoor
open Go.RowKit
theorem p_useG {J:WP} (hJ:Stab J) (bc:Nat) (d:Db) (i:Nat) (fv:Value) (fs:List (List BA)) (gf:Fr) (ag:List Int) (hi:i<d.frames.length) (hfs:∀ t∈fs,1≤t.length∧t.length≤2000) (hag:∀ j,j<ag.length→0≤ge ag j∧ge ag j< (fs.length:Int)) (hgl:ag.length=gf.hyps.length) (hf:∀ h∈gf.hyps,h.floating=true→h.text.length=2) (hh:gf.hyps.length≤2000) (hwd:(ge d.frames i).wide.length*32≤140737488351232):FnR Tryz.prog J 88 [OB.var bc [Zb d.consts,Zb d.vars,Yq d.frames,.lit (.int .i64 (((i:Nat):Int))),.lit fv],OB.row fv 22 1 (fs.map Zdx)] [.at bc 0,.agg (frC gf),.rd (ZX ag)] (.tup [.rd (Zb ((Zbw d.vars (ge d.frames i).wide gf (YD fs ag)).1)),.int ((Zbw d.vars (ge d.frames i).wide gf (YD fs ag)).2)]):=by
 refine fER Tryz.func88 fun S w0 hS hJ0 hH=>?_
 refine tw Ye (ln 2 fun hl1=>?_)
 have het:∀ t∈(YD fs ag),1≤t.length∧t.length≤2000:=ZkN hfs hag
 have hes:(YD fs ag).length=gf.hyps.length:=by rw[Zdb];exact hgl
 refine ZK tb hJ [0,2,1000] [.ptr (frC gf),_,_] [0] [_,_,_] rfl ⟨iBo hS hJ,trivial⟩ ?_
 refine qso tb hJ [0,1,2,1000] [_] [_,_,_,_] ?_
 refine Zh (ZK tb hJ [0,1,2,3,1001,1002,1003] [_,_,.int (gf.hyps.length:Nat),_] [2] [_,_,_,_,_,_,_] rfl ⟨Ym ZB,trivial⟩ ?_)
 refine ln 4 fun hl2=>?_
 refine Ze (tw (Z7 182 2 hJ) (lpo (ι:=Nat×Value×(List Bd)) (fun(k,_,bs)=>(k≤gf.hyps.length)∧(bs=X2 gf.hyps (YD fs ag) 0 k)∧(∀ j,j<k→Zda gf.hyps (YD fs ag) 0 j=true)) (fun(_,wv,bs)=>[OB.row wv 182 2 (bs.map bdC)]) (fun(k,wv,_)=>[(21,.int (k:Nat)),(8,.lit wv)]) (fun(k,_,_)=>gf.hyps.length-k) [0,1,2,4,5,6,3] [_,_,_,_,_] (0,(.slice none 0 0),([]:List Bd)) ⟨nzl,rfl,fun j hj=>by omega⟩ ?_))
 rintro⟨k,wv,bs⟩ ⟨f1_1,f1_2,f1_3⟩
 refine qso tb hJ [0,1,2,3,4,5,6,1000] [_] [_,_,_,_,_,_,_,_] ?_
 refine cjS 7 (fun hb1=>?_) fun hb1=>?_
 ·
  try simp at hb1
  have e0:ge (YD fs ag) k=(ge fs (ge ag k).toNat):=Zel oz
  have e1:=hag k oz
  refine Zc (nx (Zh (Ze (tsq (snK 1 tb rfl (sy (.ptr (hyC (ge gf.hyps k))) (fun h=>ZU (i:=((k:Nat):Int)) ZG rfl (h.get 4 rfl) (h.get 6 rfl) nnn (Z0 (xs:=gf.hyps) (k:=k) (by first | omega | (simp;omega) | grind[Zg])) rfl h.x) ?_))))))
  refine snK 1 tb rfl (ZA Yr hJ rfl rfl rfl (lb rfl) fun b1=>?_)
  refine snK 1 tb rfl (Zt (b:=b1) (off:=0) (es:=[_,_,_]) (news:=[_,_,_]) hJ hJ0 YI rfl rfl rfl (lb rfl) rfl (fun a w h=>⟨(h.get 1 rfl),(h.get 2 rfl)⟩) ?_)
  refine kw (fun h=>ZM hS h (m:=1) (s:=10) rfl) (seK [0,1,5,6,7,8,9,10,11] [_,_,_,_,_,_,_,_,_] rfl ?_)
  refine nx (ZK tb hJ [0,2,3,4,5,6,7,8,1009,1010] [_,.at bc 0,.at bc 4,.lit fv,_,_,.ptr [.lit (.int .i64 (ge ag k))],_,.lit (YS fv (((ge ag k).toNat)*1)),.rd (Zb ((ge fs ((ge ag k).toNat)))),_] [1,2,3,6,8,9] [_,_,_,_,_,_,_,_,_,_] rfl ⟨fun _ _ _ hx hl _=>Z5 rfl (hl.D 0 26 rfl rfl) hx,fun _ _ _ hx hl _=>Zy Xq rfl (hl.D 1 27 rfl rfl) hx,fun _ _ hk hx hl _=>Zs ZdS rfl (ZI hH hk hx (mo 0 rfl)) (hl.D 2 28 rfl rfl) rfl hx,iIx ZC,fun _ _ hk hx hl _=>Yc (i:=(ge ag k)) Yh rfl (ZI hH hk hx (mo 1 rfl)) (hl.D 3 29 rfl rfl) (hl.D 7 33 rfl rfl) (by first | omega | (simp;omega) | grind[Zg]) (by rw[List.length_map];exact(by first | omega | (simp;omega) | grind[Zg])) hx,fun _ _ hk hx hl _=>Zal (i:=(ge ag k).toNat) Qg rfl (ZI hH hk hx (mo 1 rfl)) (hl.D 8 34 rfl rfl) (Qq (xs:=fs) (k:=(ge ag k).toNat) (by first | omega | (simp;omega) | grind[Zg])) hx,trivial⟩ ?_)
  refine ln 8 fun hl3=>?_
  refine Zh (qso tb hJ [0,1,2,3,4,5,6,7,9,1002] [_,_,_] [_,_,_,_,_,_,_,_,_,_] ?_)
  refine cj 9 (fun hb2=>?_) fun hb2=>?_
  ·
   try simp at hb2
   refine Zu (nx (YR tb hJ [1,2,3,4,5,7,1001] [.int (k+1:Nat),_] [0] [_,_,_,_,_,_,_] rfl ⟨YN,trivial⟩ ?_))
   exact Xf (k+1,wv,bs) [0,1,2,3,4,6,5] ⟨oz,by rw[Zib,←f1_2];simp[Zr3,hb2],ZY f1_3 (by simp[Zda,hb2])⟩
  ·
   try simp at hb2
   have e3:(ge gf.hyps k).text.length=2:=hf _ (Zg oz) (by simpa using hb2)
   have e4:=hfs _ (Zg (xs:=fs) (k:=(ge ag k).toNat) oz)
   refine Zc (nx (Zh (ZK tb hJ [0,1,2,3,4,5,6,7,8,1012] [_,.int (((ge fs ((ge ag k).toNat))).length:Nat),_,_,_,.ptr [.lit (.string ((ge ((ge fs ((ge ag k).toNat))) 0)))],_,_,_,.ptr [.lit (.string ((ge ((ge gf.hyps k).text) 0)))],_,_,_] [1,5,9] [_,_,_,_,_,_,_,_,_,_] rfl ⟨Ym Zx,gIx (k:=0) Zl (hk:=fun(hc':(((decide (((((ge fs ((ge ag k).toNat))).length:Nat):Int)=(0:Int)))==false))=true)=>by(try simp at hc');first | omega | (simp;omega) | grind[Zg]),gIx (k:=0) Zl (hk:=fun(hc':(((decide (((((ge fs ((ge ag k).toNat))).length:Nat):Int)=(0:Int)))==false))=true)=>by(try simp at hc');first | omega | (simp;omega) | grind[Zg]),trivial⟩ ?_)))
   refine cj 9 (fun hb3=>?_) fun hb3=>?_
   ·
    have e5:Zda gf.hyps (YD fs ag) 0 k=false:=by simp only[Zda,Nat.zero_add,e0,Bool.or_eq_false_iff,Bool.not_eq_false',decide_eq_false_iff_not];exact⟨by simpa using hb2,fun e=>by simp[e]at hb3;have:=e4.1;simp[hb3]at this⟩
    have eU:(Zbw d.vars (ge d.frames i).wide gf (YD fs ag))=([],24):=ux_24 oz e5
    refine qso tb hJ [1000,1001] [_,_] [_,_] ?_
    exact tw (fun h=>Xk h (m:=0) (s:=6) rfl) (Zv (fun a w h=>YP (m:=0) (k:=1) rfl (Z6 h) rfl rfl (congrArg (fun z=>AV.rd (Zb z)) (show([]:List BA)=((Zbw d.vars (ge d.frames i).wide gf (YD fs ag)).1)from by first | (rw[eU];done) | (rw[eU,if_neg (by simp[e9])]))) (eI (by first | (rw[eU];done) | (rw[eU,if_neg (by simp[e9])])))))
   ·
    have e5:Zda gf.hyps (YD fs ag) 0 k=true:=by simp only[Bool.or_eq_false_iff,Bool.not_eq_false',decide_eq_true_eq]at hb3;simp[Zda,e0,hb3.2]
    refine Zc (nx (fun a w h=>Za0 [] (γ:=Value) (fun ix'=>([.lit wv,.ptr [Zb ((ge gf.hyps k).text)],.rd (Zb ((ge gf.hyps k).text)),.ptr [.lit (.string ((ge ((ge gf.hyps k).text) 1)))],.str ((ge ((ge gf.hyps k).text) 1)),.rd (Zb ((ge fs ((ge ag k).toNat)))),.rd (Zb (((ge fs ((ge ag k).toNat))).drop 1)),.agg (bdC ((⟨(ge ((ge gf.hyps k).text) 1),((ge fs ((ge ag k).toNat))).drop 1⟩:Bd))),.rd (ZfC ([(⟨(ge ((ge gf.hyps k).text) 1),((ge fs ((ge ag k).toNat))).drop 1⟩:Bd)])),.any,.any]:List AV).getD ix' .any) (fun _=>true) [(0,fun _=>.at bc 0),(2,fun _=>.rd (ZX ag)),(4,fun _=>.ptr (frC gf)),(19,fun _=>.rd (XC gf.hyps)),(20,fun _=>.int (gf.hyps.length:Nat)),(21,fun _=>.int (k:Nat)),(8,fun g=>.lit g)] (fun j' g=>match j' with | 0=>[OB.row wv 182 2 (bs.map bdC)] | _=>[OB.row g 182 2 ((bs++([(⟨(ge ((ge gf.hyps k).text) 1),((ge fs ((ge ag k).toNat))).drop 1⟩:Bd)])).map bdC)]) (fun k' g=>match k' with | 0=>g | 1=>g | _=>undef) [9,10] 2 (.slice none 0 0) (fun _=>rfl) h hJ Yk rfl rfl rfl rfl rfl rfl hsb ⟨?_,?_,?_,?_,?_,?_,?_,?_,?_,?_,?_,trivial⟩ ⟨?e9_1_0,?e9_1_1,trivial⟩ ⟨.old 1 0 _,.old 2 2 _,.old 3 4 _,.old 4 19 _,.old 5 20 _,.old 6 21 _,.eff 1 10 8 (fun(g:Value)=>g) rfl rfl (fun _=>rfl) (fun _ _ hx=>ZaX (hx.2.1 _ (mo 0 rfl))),trivial⟩ ?n9_1))
    exact oX rfl fun hx hl=>ZW rfl (hl.env 7 8 _ rfl rfl) hx
    exact oX rfl fun hx hl=>ZE Y0 rfl (hl.env 0 10 _ rfl rfl) hx
    exact oX rfl fun hx hl=>Zz Qg rfl (hl.D 1 53 rfl rfl) hx
    exact oX rfl fun hx hl=>ZU (i:=((1:Nat):Int)) Zl rfl (hl.D 2 54 rfl rfl) (Rel.of_lit (Go.Value.int Go.IntKind.i64 1)) nnn (Z0 (xs:=(ge gf.hyps k).text) (k:=1) (by first | omega | (simp;omega) | grind[Zg])) rfl hx
    exact oX rfl fun hx hl=>Zz Qf rfl (hl.D 3 55 rfl rfl) hx
    exact oX rfl fun hx hl=>ZW rfl (hl.env 8 11 _ rfl rfl) hx
    exact oX rfl fun hx hl=>QY (ys:=((ge fs ((ge ag k).toNat))).drop 1) (lo:=1) (hi:=((ge fs ((ge ag k).toNat))).length) (by rw[List.take_length]) Zl (fun _=>rfl) rfl (hl.D 5 57 rfl rfl) (Rel.of_lit (Go.Value.int Go.IntKind.i64 1)) rfl (by first | omega | (simp;omega) | grind[Zg]) (by first | omega | (simp;omega) | grind[Zg]) hx
    exact fun _ O' _=>⟨rfl,fun a _ _ hx hl _=>XD (us:=[a.eval (Go.Operand.tmp 56),a.eval (Go.Operand.tmp 58)]) Zev rfl yz (Zp (hl.D 4 56 rfl rfl) (Zp (hl.D 6 58 rfl rfl) Z4)) rfl hx⟩
    exact oY rfl fun hk hx hl=>Zb1 Zaa ZjA dz rfl rfl (hl.D 7 59 rfl rfl) (Zm hS _ hk hx _ nlr) (jo hJ hx)
    exact Zi rfl
    exact Zi rfl
    case e9_1_0=>exact⟨_,rfl,rfl,rfl,rfl,fun _ _ w hk hx hl _=>Zk (Zbo (f:=bdC) bs ([(⟨(ge ((ge gf.hyps k).text) 1),((ge fs ((ge ag k).toNat))).drop 1⟩:Bd)]) (fun _=>rfl) Zex hJ hJ0 rfl hk hx (hl.D 0 52 rfl rfl).lit (hl.D 8 60 rfl rfl) (by have:=Zlc gf.hyps (YD fs ag) 0 k;rw[f1_2];simp;omega) (by have:=Zlc gf.hyps (YD fs ag) 0 k;rw[f1_2];simp;omega)) fun v w' hp=>⟨v,rfl,fun k' hk'=>absurd hk' (Nat.not_lt_zero _),fun _=>rfl,hp⟩⟩
    case e9_1_1=>exact⟨_,rfl,rfl,rfl,rfl,fun g _ w hk hx _ hs=>Zk (Zdd (.inl rfl) (hs 0 9 _ 61 oz rfl rfl rfl) hk hx) fun v w' hp=>⟨g,rfl,fun _ _=>rfl,fun _=>hp.1,hp.2⟩⟩
    clear a w h
    intro v2
    dsimp only[List.map]
    refine nx (YR tb hJ [0,1,2,3,4,6,1001] [.int (k+1:Nat),_] [0] [_,_,_,_,_,_,_] rfl ⟨YN,trivial⟩ ?_)
    exact Xf (k+1,v2,bs++([(⟨(ge ((ge gf.hyps k).text) 1),((ge fs ((ge ag k).toNat))).drop 1⟩:Bd)])) [0,1,2,3,4,6,5] ⟨oz,by rw[Zib,←f1_2];simp[Zr3,e0,hb2],ZY f1_3 e5⟩
 ·
  try simp at hb1
  have e6:∀ j,j<gf.hyps.length→Zda gf.hyps (YD fs ag) 0 j=true:=fun j hj=>f1_3 j oz
  refine Zu (nx (Zh (tw (fun h=>Ya hS h (m:=6) (s:=8) rfl) (tw (sa 0 rfl (congrArg (fun z'=>AV.rd (ZfC z')) (show bs=((X2 gf.hyps (YD fs ag) 0 gf.hyps.length))from by rw[f1_2,show k=gf.hyps.length by omega]))) ?_))))
  refine ZK tb hJ [0,1,2,3,1001,1002,1003] [_,_,.int (gf.hyps.length:Nat),_] [2] [_,_,_,_,_,_,_] rfl ⟨Ym ZB,trivial⟩ ?_
  refine ln 0 fun hl4=>?_
  refine Ze (lpo (ι:=Nat) (fun j=>(j≤gf.hyps.length)∧(∀ i',i'<j→Zqp gf.hyps (YD fs ag) 0 (X2 gf.hyps (YD fs ag) 0 gf.hyps.length) i'=true)) (fun _=>[]) (fun j=>[(66,.int (j:Nat))]) (fun j=>gf.hyps.length-j) [0,1,2,3,4,5,6] [_,_,_,_,_,_] 0 ⟨nzl,fun j hj=>by omega⟩ ?_)
  rintro j ⟨f2_1,f2_2⟩
  refine qso tb hJ [0,1,2,3,4,5,6,1000] [_] [_,_,_,_,_,_,_,_] ?_
  refine cjS 7 (fun hb4=>?_) fun hb4=>?_
  ·
   try simp at hb4
   have e0:ge (YD fs ag) j=(ge fs (ge ag j).toNat):=Zel oz
   have e1:=hag j oz
   refine Zc (nx (Zh (Ze (tsq (snK 1 tb rfl (sy (.ptr (hyC (ge gf.hyps j))) (fun h=>ZU (i:=((j:Nat):Int)) ZG rfl (h.get 5 rfl) (h.get 7 rfl) nnn (Z0 (xs:=gf.hyps) (k:=j) (by first | omega | (simp;omega) | grind[Zg])) rfl h.x) ?_))))))
   refine snK 1 tb rfl (ZA Yr hJ rfl rfl rfl (lb rfl) fun b3=>?_)
   refine snK 1 tb rfl (Zt (b:=b3) (off:=0) (es:=[_,_,_]) (news:=[_,_,_]) hJ hJ0 YI rfl rfl rfl (lb rfl) rfl (fun a w h=>⟨(h.get 1 rfl),(h.get 2 rfl)⟩) ?_)
   refine kw (fun h=>ZM hS h (m:=1) (s:=13) rfl) (seK [0,1,5,6,7,8,9,10,11] [_,_,_,_,_,_,_,_,_] rfl ?_)
   refine nx (ZK tb hJ [2,3,4,5,6,7,8,1019] [_,_,_,_,_,_,_,_,.at bc 0,.at bc 4,.lit fv,_,_,.ptr [.lit (.int .i64 (ge ag j))],_,.lit (YS fv (((ge ag j).toNat)*1)),.rd (Zb ((ge fs ((ge ag j).toNat)))),.bool (fitB ((ge gf.hyps j).text) ((X2 gf.hyps (YD fs ag) 0 gf.hyps.length)) ((ge fs ((ge ag j).toNat)))),_,_] [8,9,10,13,15,16,17] [_,_,_,_,_,_,_,_] rfl ⟨fun _ _ _ hx hl hc=>Z5 rfl (hl.D 7 78 rfl hc) hx,fun _ _ _ hx hl hc=>Zy Xq rfl (hl.D 8 79 rfl hc) hx,fun _ _ hk hx hl hc=>Zs ZdS rfl (ZI hH hk hx (mo 0 rfl)) (hl.D 9 80 rfl hc) rfl hx,gIx ZC (hk:=fun(hc':(((!((ge gf.hyps j).floating))==true))=true)=>by(try simp at hc');first | omega | (simp;omega) | grind[Zg]),fun _ _ hk hx hl hc=>Yc (i:=(ge ag j)) Yh rfl (ZI hH hk hx (mo 1 rfl)) (hl.D 10 81 rfl hc) (hl.D 14 85 rfl hc) (by have hc':(((!((ge gf.hyps j).floating))==true))=true:=hc;(try simp at hc');(first | omega | (simp;omega) | grind[Zg])) (by rw[List.length_map];exact(by have hc':(((!((ge gf.hyps j).floating))==true))=true:=hc;(try simp at hc');(first | omega | (simp;omega) | grind[Zg]))) hx,fun _ _ hk hx hl hc=>Zal (i:=(ge ag j).toNat) Qg rfl (ZI hH hk hx (mo 1 rfl)) (hl.D 15 86 rfl hc) (Qq (xs:=fs) (k:=(ge ag j).toNat) (by have hc':(((!((ge gf.hyps j).floating))==true))=true:=hc;(try simp at hc');(first | omega | (simp;omega) | grind[Zg]))) hx,iFo hS hJ (p_Fits hJ ((ge gf.hyps j).text) ((X2 gf.hyps (YD fs ag) 0 gf.hyps.length)) ((ge fs ((ge ag j).toNat)))) ZrU,trivial⟩ ?_)
   refine cj 7 (fun hb5=>?_) fun hb5=>?_
   ·
    have e7:Zqp gf.hyps (YD fs ag) 0 (X2 gf.hyps (YD fs ag) 0 gf.hyps.length) j=false:=by simp only[Zqp,Nat.zero_add,e0];simpa using hb5
    have eU:(Zbw d.vars (ge d.frames i).wide gf (YD fs ag))=([],25):=ux_25 e6 oz e7
    refine qso tb hJ [1000,1001] [_,_] [_,_] ?_
    exact tw (fun h=>Xk h (m:=0) (s:=6) rfl) (Zv (fun a w h=>YP (m:=0) (k:=1) rfl (Z6 h) rfl rfl (congrArg (fun z=>AV.rd (Zb z)) (show([]:List BA)=((Zbw d.vars (ge d.frames i).wide gf (YD fs ag)).1)from by first | (rw[eU];done) | (rw[eU,if_neg (by simp[e9])]))) (eI (by first | (rw[eU];done) | (rw[eU,if_neg (by simp[e9])])))))
   ·
    refine Zc (nx (YR tb hJ [0,1,2,3,4,5,1001] [.int (j+1:Nat),_] [0] [_,_,_,_,_,_,_] rfl ⟨YN,trivial⟩ ?_))
    exact Xf (j+1) [0,1,2,3,4,5,6] ⟨oz,ZY f2_2 (by cases h9:(ge gf.hyps j).floating<;>simp_all[Zqp])⟩
  ·
   try simp at hb4
   have e8:∀ j,j<gf.hyps.length→Zqp gf.hyps (YD fs ag) 0 (X2 gf.hyps (YD fs ag) 0 gf.hyps.length) j=true:=fun j hj=>f2_2 j oz
   refine Zu (nx (ZK tb hJ [0,1,3,1001,1005,1007,1008] [_,_,_,.tup [.rd (Zb (((if XL (ZO ((X2 gf.hyps (YD fs ag) 0 gf.hyps.length))) gf.text 2000 then Xb (ZO ((X2 gf.hyps (YD fs ag) 0 gf.hyps.length))) gf.text else [])))),.int ((if XL (ZO ((X2 gf.hyps (YD fs ag) 0 gf.hyps.length))) gf.text 2000 then 0 else 15))],_,_,_,_,_] [3] [_,_,_,_,_,_,_] rfl ⟨iFo hS hJ (Zhf hJ gf.text ((X2 gf.hyps (YD fs ag) 0 gf.hyps.length)) 2000 (by first | omega | (simp;omega) | grind[Zg]) (Zia (fun t ht=>(het t ht).2) oz)) Zla,trivial⟩ ?_))
   refine ln 3 fun hl5=>?_
   refine ln 4 fun hl6=>?_
   refine Zh (qso tb hJ [0,1,2,5,1001] [_,_] [_,_,_,_,_] ?_)
   refine cj 4 (fun hb6=>?_) fun hb6=>?_
   ·
    try simp at hb6
    have e9:XL (ZO (X2 gf.hyps (YD fs ag) 0 gf.hyps.length)) gf.text 2000=false:=by cases h9:XL (ZO (X2 gf.hyps (YD fs ag) 0 gf.hyps.length)) gf.text 2000<;>simp_all
    have eU:(Zbw d.vars (ge d.frames i).wide gf (YD fs ag))=([],15):=ux_15 e6 e8 e9
    refine qso tb hJ [1000,1001] [_,_] [_,_] ?_
    exact tw (fun h=>Xk h (m:=0) (s:=6) rfl) (Zv (fun a w h=>YP (m:=0) (k:=1) rfl (Z6 h) rfl rfl (congrArg (fun z=>AV.rd (Zb z)) (show([]:List BA)=((Zbw d.vars (ge d.frames i).wide gf (YD fs ag)).1)from by first | (rw[eU];done) | (rw[eU,if_neg (by simp[e9])]))) (eI (by first | (rw[eU];done) | (rw[eU,if_neg (by simp[e9])])))))
   ·
    try simp at hb6
    have e9:XL (ZO (X2 gf.hyps (YD fs ag) 0 gf.hyps.length)) gf.text 2000=true:=by cases h9:XL (ZO (X2 gf.hyps (YD fs ag) 0 gf.hyps.length)) gf.text 2000<;>simp_all
    refine tw (sa 3 rfl (show(.rd (Zb (((if XL (ZO ((X2 gf.hyps (YD fs ag) 0 gf.hyps.length))) gf.text 2000 then Xb (ZO ((X2 gf.hyps (YD fs ag) 0 gf.hyps.length))) gf.text else [])))):AV)= .rd (Zb (Xb (ZO (X2 gf.hyps (YD fs ag) 0 gf.hyps.length)) gf.text))from by rw[if_pos e9])) (Zc (nx (ln 3 fun hl7=>?_)))
    refine Zh (Zh (fun a w h=>YJ (γ:=Nat) (fun ix'=>([.rd (ZfC ((X2 gf.hyps (YD fs ag) 0 gf.hyps.length))),.ptr [XS gf.apart,Zb gf.text,XC gf.dummies,XS gf.wide,Zb gf.proof],.rd (XS gf.apart),.at bc 0,.at bc 0,.at bc 0,.at bc 1,.rd (Zb d.vars),.at bc 0,.at bc 0,.at bc 0,.at bc 2,.rd (Yq d.frames),.at bc 0,.at bc 0,.at bc 3,.int (i:Nat),.ptr (frC (ge d.frames i)),.ptr [XS ((ge d.frames i).wide),Zb ((ge d.frames i).proof)],.rd (XS ((ge d.frames i).wide)),.tup [.agg (prC ((Zh6 ((X2 gf.hyps (YD fs ag) 0 gf.hyps.length)) gf.apart d.vars ((ge d.frames i).wide)))),.bool (ZeO ((X2 gf.hyps (YD fs ag) 0 gf.hyps.length)) gf.apart d.vars ((ge d.frames i).wide))],.tup [.agg (prC ((Zh6 ((X2 gf.hyps (YD fs ag) 0 gf.hyps.length)) gf.apart d.vars ((ge d.frames i).wide)))),.bool (ZeO ((X2 gf.hyps (YD fs ag) 0 gf.hyps.length)) gf.apart d.vars ((ge d.frames i).wide))],.agg (prC ((Zh6 ((X2 gf.hyps (YD fs ag) 0 gf.hyps.length)) gf.apart d.vars ((ge d.frames i).wide)))),.bool (ZeO ((X2 gf.hyps (YD fs ag) 0 gf.hyps.length)) gf.apart d.vars ((ge d.frames i).wide)),.any,.any,.bool (ZeO ((X2 gf.hyps (YD fs ag) 0 gf.hyps.length)) gf.apart d.vars ((ge d.frames i).wide))]:List AV).getD ix' .any) (fun _=>true) [(14,fun _=>.rd (Zb (Xb (ZO (X2 gf.hyps (YD fs ag) 0 gf.hyps.length)) gf.text))),(17,fun _=>.bool (ZeO ((X2 gf.hyps (YD fs ag) 0 gf.hyps.length)) gf.apart d.vars ((ge d.frames i).wide)))] (fun j' g=>match j' with | 0=>[] | 1=>[OB.var g [.lit (.string (⟨#[]⟩:BA)),.lit (.string (⟨#[]⟩:BA))]] | _=>[OB.var g (prC (((Zh6 ((X2 gf.hyps (YD fs ag) 0 gf.hyps.length)) gf.apart d.vars ((ge d.frames i).wide)))))]) (fun k' g=>match k' with | 0=>(.pointer (some ⟨g,0,none⟩)) | _=>undef) [24,25] 2 0 (fun _=>rfl) h hJ Yk rfl rfl rfl rfl rfl rfl hsb ⟨?_,?_,?_,?_,?_,?_,?_,?_,?_,?_,?_,?_,?_,?_,?_,?_,?_,?_,?_,?_,?_,?_,?_,?_,?_,?_,?_,trivial⟩ ⟨?e20_2_0,?e20_2_1,trivial⟩ ⟨.old 3 14 _,.new 26 17 _,trivial⟩ ?n20_2))
    exact oX rfl fun hx hl=>ZW rfl (hl.env 0 8 _ rfl rfl) hx
    exact oX rfl fun hx hl=>ZE Zfo rfl (hl.env 2 4 _ rfl rfl) hx
    exact oX rfl fun hx hl=>Zz Zks rfl (hl.D 1 103 rfl rfl) hx
    exact oX rfl fun hx hl=>ZW rfl (hl.env 1 0 _ rfl rfl) hx
    exact oX rfl fun hx hl=>Z5 rfl (hl.D 3 105 rfl rfl) hx
    exact oX rfl fun hx hl=>Zy Qb rfl (hl.D 4 106 rfl rfl) hx
    exact oX rfl fun hx hl=>Zy Zfs rfl (hl.D 5 107 rfl rfl) hx
    exact oY rfl fun hk hx hl=>Zs Qg rfl (ZI hH hk hx (mo 0 rfl)) (hl.D 6 108 rfl rfl) rfl hx
    exact oX rfl fun hx hl=>ZW rfl (hl.env 1 0 _ rfl rfl) hx
    exact oX rfl fun hx hl=>Z5 rfl (hl.D 8 110 rfl rfl) hx
    exact oX rfl fun hx hl=>Zy Qb rfl (hl.D 9 111 rfl rfl) hx
    exact oX rfl fun hx hl=>Zy Zau rfl (hl.D 10 112 rfl rfl) hx
    exact oY rfl fun hk hx hl=>Zs Zho rfl (ZI hH hk hx (mo 0 rfl)) (hl.D 11 113 rfl rfl) rfl hx
    exact oX rfl fun hx hl=>ZW rfl (hl.env 1 0 _ rfl rfl) hx
    exact oX rfl fun hx hl=>Z5 rfl (hl.D 13 115 rfl rfl) hx
    exact oX rfl fun hx hl=>Zy ZbJ rfl (hl.D 14 116 rfl rfl) hx
    exact oY rfl fun hk hx hl=>Zs Zcv rfl (ZI hH hk hx (mo 0 rfl)) (hl.D 15 117 rfl rfl) rfl hx
    exact oX rfl fun hx hl=>ZU (i:=((i:Nat):Int)) YH rfl (hl.D 12 114 rfl rfl) (hl.D 16 118 rfl rfl) nnn (Z0 (xs:=d.frames) (k:=i) (by first | omega | (simp;omega) | grind[Zg])) rfl hx
    exact oX rfl fun hx hl=>ZE Zfn rfl (hl.D 17 119 rfl rfl) hx
    exact oX rfl fun hx hl=>Zz Zks rfl (hl.D 18 120 rfl rfl) hx
    exact oY rfl fun hk hx hl=>Zbj (Zkp hJ ((X2 gf.hyps (YD fs ag) 0 gf.hyps.length)) gf.apart d.vars ((ge d.frames i).wide) (Zia (fun t ht=>(het t ht).2) oz) (by exact hwd)) ZoR rfl (Zm hS _ hk hx) (hx.1) (Za (hl.D 0 102 rfl rfl) (Za (hl.D 2 104 rfl rfl) (Za (hl.D 7 109 rfl rfl) (Za (hl.D 19 121 rfl rfl) Zd)))) (jo hJ hx)
    exact oX rfl fun hx hl=>ZW rfl (hl.D 20 122 rfl rfl) hx
    exact oX rfl fun hx hl=>Yo rfl (hl.D 21 101 rfl rfl) rfl hx
    exact oX rfl fun hx hl=>Yo rfl (hl.D 21 101 rfl rfl) rfl hx
    exact Zi rfl
    exact Zi rfl
    exact oX rfl fun hx hl=>YK rfl (hl.D 23 124 rfl rfl) hx
    case e20_2_0=>exact⟨_,rfl,rfl,rfl,rfl,fun g _ w hk hx _ _=>Zk (Xs XM hJ rfl hk hx) fun v w' ⟨g',hv,hp⟩=>⟨g',rfl,fun k' hk'=>absurd hk' (Nat.not_lt_zero _),fun _=>hv,hp⟩⟩
    case e20_2_1=>exact⟨_,rfl,rfl,rfl,rfl,fun g a w hk hx hl hs=>(by obtain⟨us2,hv2,hr3⟩:=X6 (hl.D 22 123 rfl rfl);exact Zk (Y3 (S':=S) (off:=0) (news:=[_,_]) (es:=[_,_]) (us:=us2) hJ hJ0 Y6 rfl hk hx (ZaY (hs 0 24 _ 16 oz rfl rfl rfl)) (by rw[hv2];rfl) hr3 (lb rfl) rfl) fun v w' hp=>⟨g,rfl,fun _ _=>rfl,fun e=>(by cases e),hp⟩)⟩
    clear a w h
    intro b4
    dsimp only[List.map]
    refine kw ZJ (nx (ln 0 fun hl8=>?_))
    refine qso tb hJ [0,1000] [_] [_,_] ?_
    refine cj 1 (fun hb7=>?_) fun hb7=>?_
    ·
     try simp at hb7
     have eU:(Zbw d.vars (ge d.frames i).wide gf (YD fs ag))=([],26):=ux_26 e6 e8 e9 hb7
     refine qso tb hJ [1000,1001] [_,_] [_,_] ?_
     exact tw (fun h=>Xk h (m:=0) (s:=6) rfl) (Zv (fun a w h=>YP (m:=0) (k:=1) rfl (Z6 h) rfl rfl (congrArg (fun z=>AV.rd (Zb z)) (show([]:List BA)=((Zbw d.vars (ge d.frames i).wide gf (YD fs ag)).1)from by first | (rw[eU];done) | (rw[eU,if_neg (by simp[e9])]))) (eI (by first | (rw[eU];done) | (rw[eU,if_neg (by simp[e9])])))))
    ·
     try simp at hb7
     have eU:(Zbw d.vars (ge d.frames i).wide gf (YD fs ag))=(Xb (ZO (X2 gf.hyps (YD fs ag) 0 gf.hyps.length)) gf.text,0):=ux_ok e6 e8 e9 hb7
     refine Zc (nx (qso tb hJ [1001,1002] [_,_,_] [_,_] ?_))
     exact Zv (fun a w h=>YP (m:=0) (k:=1) rfl (Z6 h) rfl rfl (congrArg (fun z=>AV.rd (Zb z)) (show((Xb (ZO (X2 gf.hyps (YD fs ag) 0 gf.hyps.length)) gf.text))=((Zbw d.vars (ge d.frames i).wide gf (YD fs ag)).1)from by first | (rw[eU];done) | (rw[eU,if_neg (by simp[e9])]))) (eI (by first | (rw[eU];done) | (rw[eU,if_neg (by simp[e9])]))))
theorem ZtS {J:WP} (hJ:Stab J) (f:Fr) (s:BA)  :Fn Tryz.prog J 93 [.agg (frC f),.ptr [.lit (.string s)]] (.bool (decide (f.label=s))):=by
 refine fE Tryz.func93 fun S w0 hS hJ0=>?_
 clear hJ0
 refine hqs tb hJ [1,1000] [.ptr (frC f),_] [0] [_,_] rfl ⟨iBs hS hJ,trivial⟩ ?_
 refine qs tb hJ [1004] [_,_,_,_,_] [_] ?_
 exact tRn 0 (hE:=rfl)
theorem p_Find {J:WP} (hJ:Stab J) (d:Db) (s:BA)  :Fn Tryz.prog J 67 [.agg (dbC d),.str s] (.int (ZcF d s)):=by
 refine fE Tryz.func67 fun S w0 hS hJ0=>?_
 clear hJ0
 refine hqs tb hJ [1000,1001] [.ptr (dbC d),.ptr [.lit (.string s)],_] [0,1] [_,_] rfl ⟨iBs hS hJ,fun _ _ hk hx hl _=>Zao rfl (hl.env 1 1 _ rfl rfl) (hS _ hk.size) (js hJ hx),trivial⟩ ?_
 refine hqs tb hJ [1001,1004] [_,_,.fn 93 [.ptr [.lit (.string s)]],.int (XZ (fun(f':Fr)=>decide (f'.label=s)) d.frames),_] [2,3] [_,_] rfl ⟨fun _ _ _ hx hl _=>YW (caps:=[(Go.Operand.tmp 3)]) rfl (Za (hl.env 1 3 _ rfl rfl) Zd) hx,fun _ _ hk hx hl _=>YX (ZcQ hJ d.frames 93 [.ptr [.lit (.string s)]] [] (fun(f':Fr)=>decide (f'.label=s)) (fun q'=>(ZtS hJ q' s).r) (ZuP)) ZoY rfl (nm hS hk) (hx) Zq (Za (hl.D 1 6 rfl rfl) (Za (hl.D 2 7 rfl rfl) Zd)) (js hJ hx),trivial⟩ ?_
 refine ln 0 fun hl1=>?_
 exact tRn 1 (hE:=eI (rfl))
theorem ZlS {J:WP} (hJ:Stab J) (bc:Nat) (d:Db) (i:Nat) (fv:Value) (fs:List (List BA)) (s:Stp) (hi:i<d.frames.length) (hck:ZcG d=0) (hfs:∀ t∈fs,1≤t.length∧t.length≤2000) (hag:∀ j,j<s.args.length→0≤ge s.args j∧ge s.args j< (fs.length:Int)) (hwd:(ge d.frames i).wide.length*32≤140737488351232):FnR Tryz.prog J 57 [OB.var bc [Zb d.consts,Zb d.vars,Yq d.frames,.lit (.int .i64 (((i:Nat):Int))),.lit fv],OB.row fv 22 1 (fs.map Zdx)] [.at bc 0,.agg (spC s)] (.tup [.rd (Zb ((Zah d i s fs).1)),.int ((Zah d i s fs).2)]):=by
 refine fER Tryz.func57 fun S w0 hS hJ0 hH=>?_
 refine tw Ye ?_
 have hgh:Zun (ge d.frames i):=(Zcc hck _ (Zg hi)).2.2
 refine ZK tb hJ [0,1000] [.ptr (spC s),_,_] [0] [_,_] rfl ⟨iBo hS hJ,trivial⟩ ?_
 refine Zh (qso tb hJ [0,1,1002] [_,_,_] [_,_,_] ?_)
 refine cj 2 (fun hb1=>?_) fun hb1=>?_
 ·
  have eU:=sg_27 (d:=d) (i:=i) (s:=s) (a:=fs) (by simpa using hb1)
  refine qso tb hJ [1000,1001] [_,_] [_,_] ?_
  exact tw (fun h=>Xk h (m:=0) (s:=4) rfl) (Zv (fun a w h=>YP (m:=0) (k:=1) rfl (Z6 h) rfl rfl (congrArg (fun z=>AV.rd (Zb z)) (show([]:List BA)=((Zah d i s fs).1)from by rw[eU])) (eI (by rw[eU]))))
 ·
  have h0:¬ s.label=⟨#[63]⟩:=by simpa using hb1
  refine Zc (nx (Zh (Zh (fun a w h=>YJ (γ:=Nat) (fun ix'=>([.at bc 0,.at bc 0,.at bc 0,.at bc 2,.rd (Yq d.frames),.at bc 0,.at bc 0,.at bc 3,.int (i:Nat),.ptr (frC (ge d.frames i)),.agg (frC (ge d.frames i)),.ptr (spC s),.str s.label,.tup [.agg (hyC ((((Za6 (ge d.frames i) s.label).getD default)))),.bool ((Za6 (ge d.frames i) s.label).isSome)],.tup [.agg (hyC ((((Za6 (ge d.frames i) s.label).getD default)))),.bool ((Za6 (ge d.frames i) s.label).isSome)],.agg (hyC ((((Za6 (ge d.frames i) s.label).getD default)))),.bool ((Za6 (ge d.frames i) s.label).isSome),.any,.any,.bool ((Za6 (ge d.frames i) s.label).isSome)]:List AV).getD ix' .any) (fun _=>true) [(0,fun _=>.at bc 0),(3,fun _=>.ptr (spC s)),(6,fun g=>.at g 0),(7,fun _=>.bool ((Za6 (ge d.frames i) s.label).isSome))] (fun j' g=>match j' with | 0=>[] | 1=>[OB.var g [.lit (.string (⟨#[]⟩:BA)),.lit (.bool false),Zb ([]:List BA)]] | _=>[OB.var g (hyC (((((Za6 (ge d.frames i) s.label).getD default)))))]) (fun k' g=>match k' with | 0=>(.pointer (some ⟨g,0,none⟩)) | _=>undef) [17,18] 2 0 (fun _=>rfl) h hJ Yk rfl rfl rfl rfl rfl rfl hsb ⟨?_,?_,?_,?_,?_,?_,?_,?_,?_,?_,?_,?_,?_,?_,?_,?_,?_,?_,?_,?_,trivial⟩ ⟨?e3_1_0,?e3_1_1,trivial⟩ ⟨.old 0 0 _,.old 1 3 _,.eff 0 17 6 (fun g=>(.pointer (some ⟨g,0,none⟩))) rfl rfl (fun _=>rfl) (fun _=>True.intro),.new 19 7 _,trivial⟩ ?n3_1))))
  exact oX rfl fun hx hl=>ZW rfl (hl.env 0 0 _ rfl rfl) hx
  exact oX rfl fun hx hl=>Z5 rfl (hl.D 0 13 rfl rfl) hx
  exact oX rfl fun hx hl=>Zy Qb rfl (hl.D 1 14 rfl rfl) hx
  exact oX rfl fun hx hl=>Zy Zau rfl (hl.D 2 15 rfl rfl) hx
  exact oY rfl fun hk hx hl=>Zs Zho rfl (ZI hH hk hx (mo 0 rfl)) (hl.D 3 16 rfl rfl) rfl hx
  exact oX rfl fun hx hl=>ZW rfl (hl.env 0 0 _ rfl rfl) hx
  exact oX rfl fun hx hl=>Z5 rfl (hl.D 5 18 rfl rfl) hx
  exact oX rfl fun hx hl=>Zy ZbJ rfl (hl.D 6 19 rfl rfl) hx
  exact oY rfl fun hk hx hl=>Zs Zcv rfl (ZI hH hk hx (mo 0 rfl)) (hl.D 7 20 rfl rfl) rfl hx
  exact oX rfl fun hx hl=>ZU (i:=((i:Nat):Int)) YH rfl (hl.D 4 17 rfl rfl) (hl.D 8 21 rfl rfl) nnn (Z0 (xs:=d.frames) (k:=i) (by first | omega | (simp;omega) | grind[Zg])) rfl hx
  exact oX rfl fun hx hl=>X7 Zbs rfl (hl.D 9 22 rfl rfl) nlr hx
  exact oX rfl fun hx hl=>ZE Zl8 rfl (hl.env 1 3 _ rfl rfl) hx
  exact oX rfl fun hx hl=>Zz Qf rfl (hl.D 11 24 rfl rfl) hx
  exact oY rfl fun hk hx hl=>Zbj (p_Hyp hJ (ge d.frames i) s.label (by exact fun h hh=>(hgh h hh).2)) ZuV rfl (Zm hS _ hk hx) (hx.1) (Za (hl.D 10 23 rfl rfl) (Za (hl.D 12 25 rfl rfl) Zd)) (jo hJ hx)
  exact oX rfl fun hx hl=>ZW rfl (hl.D 13 26 rfl rfl) hx
  exact oX rfl fun hx hl=>Yo rfl (hl.D 14 12 rfl rfl) rfl hx
  exact oX rfl fun hx hl=>Yo rfl (hl.D 14 12 rfl rfl) rfl hx
  exact Zi rfl
  exact Zi rfl
  exact oX rfl fun hx hl=>YK rfl (hl.D 16 28 rfl rfl) hx
  case e3_1_0=>exact⟨_,rfl,rfl,rfl,rfl,fun g _ w hk hx _ _=>Zk (Xs Yr hJ rfl hk hx) fun v w' ⟨g',hv,hp⟩=>⟨g',rfl,fun k' hk'=>absurd hk' (Nat.not_lt_zero _),fun _=>hv,hp⟩⟩
  case e3_1_1=>exact⟨_,rfl,rfl,rfl,rfl,fun g _ w hk hx hl hs=>(by obtain⟨us2,hv2,hr3⟩:=X6 (hl.D 15 27 rfl rfl);exact Zk (Y3 (S':=S) (off:=0) (news:=[_,_,_]) (es:=[_,_,_]) (us:=us2) hJ hJ0 YI rfl hk hx (ZaY (hs 0 17 _ 6 oz rfl rfl rfl)) (by rw[hv2];rfl) hr3 (lb rfl) rfl) fun v w' hp=>⟨g,rfl,fun _ _=>rfl,fun e=>(by cases e),hp⟩)⟩
  clear a w h
  intro b1
  dsimp only[List.map]
  refine kw (fun h=>ZM hS h (m:=2) (s:=6) rfl) (nx (qso tb hJ [0,1,2,1000] [_] [_,_,_,_] ?_))
  refine cj 3 (fun hb2=>?_) fun hb2=>?_
  ·
   refine Zh (ZK tb hJ [0,1001,1003] [_,_,.int (s.args.length:Nat),_] [2] [_,_,_] rfl ⟨Ym YE,trivial⟩ ?_)
   refine ln 1 fun hl1=>?_
   refine cj 2 (fun hb3=>?_) fun hb3=>?_
   ·
    try simp at hb3
    have eU:=sg_h23 (a:=fs) h0 hb2 oz
    refine qso tb hJ [1000,1001] [_,_] [_,_] ?_
    exact tw (fun h=>Xk h (m:=0) (s:=4) rfl) (Zv (fun a w h=>YP (m:=0) (k:=1) rfl (Z6 h) rfl rfl (congrArg (fun z=>AV.rd (Zb z)) (show([]:List BA)=((Zah d i s fs).1)from by rw[eU])) (eI (by rw[eU]))))
   ·
    try simp at hb3
    have eU:=sg_hyp (a:=fs) h0 hb2 (by simpa using hb3)
    have e3:(((Za6 (ge d.frames i) s.label).getD default).text).length≤2000:=by obtain⟨y,hy⟩:=Option.isSome_iff_exists.1 hb2;rw[hy];exact(hgh y (List.mem_of_find?_eq_some hy)).2
    refine Zc (nx (tsq (snK 2 tb rfl (QT (O:=[]) (R:=[]) (Zko hJ (((((Za6 (ge d.frames i) s.label).getD default))).text) oz) ZoT rfl rfl rfl (lb rfl) hS hJ0 Zq (fun a w h=>(Za (h.get 0 rfl) Zd)) fun z2=>?_))))
    refine snK 2 tb rfl (seK [0,1,3] [_,_,_] rfl ?_)
    refine nx (ln 2 fun hl2=>?_)
    exact tw (fun h=>Ya hS h (m:=1) (s:=4) rfl) (Zv (fun a w h=>YP (m:=0) (k:=1) rfl (Z6 h) rfl rfl (congrArg (fun z=>AV.rd (Zb z)) (show((((((Za6 (ge d.frames i) s.label).getD default))).text))=((Zah d i s fs).1)from by rw[eU])) (eI (by rw[eU]))))
  ·
   have e2:(Za6 (ge d.frames i) s.label)=none:=by cases h9:(Za6 (ge d.frames i) s.label)with | none=>rfl | some y=>rw[h9]at hb2;cases hb2
   refine Zc (nx (ZK tb hJ [1,2,1007] [_,.at bc 0,.at bc 0,.agg (dbC d),_,_,.int (ZcF d s.label),_] [1,2,3,6] [_,_,_] rfl ⟨fun _ _ _ hx hl _=>Z5 rfl (hl.D 0 37 rfl rfl) hx,fun _ _ _ hx hl _=>Zy Qb rfl (hl.D 1 38 rfl rfl) hx,fun _ _ hk hx hl _=>Yt (ds:=[Zb d.consts,Zb d.vars,Yq d.frames]) ZgG rfl (ZI hH hk hx (mo 0 rfl)) (hl.D 2 39 rfl rfl) rfl rfl hx,iFo hS hJ (p_Find hJ d s.label) Zu1,trivial⟩ ?_))
   refine Zh (Ze (ZK tb hJ [0,1,2,1010] [_,_,_,_,_,.at bc 0,.at bc 3,.int (i:Nat),_,_,_] [5,6,7] [_,_,_,_] rfl ⟨fun _ _ _ hx hl hc=>Z5 rfl (hl.D 4 49 rfl hc) hx,fun _ _ _ hx hl hc=>Zy ZbJ rfl (hl.D 5 50 rfl hc) hx,fun _ _ hk hx hl hc=>Zs Zcv rfl (ZI hH hk hx (mo 0 rfl)) (hl.D 6 51 rfl hc) rfl hx,trivial⟩ ?_))
   refine cj 3 (fun hb4=>?_) fun hb4=>?_
   ·
    have eU:=sg_22 (a:=fs) h0 e2 (show(YZ d i s.label)<0 by rw[ZqS oz (by simpa [-Int.not_lt]using hb4)];decide)
    refine qso tb hJ [1000,1001] [_,_] [_,_] ?_
    exact tw (fun h=>Xk h (m:=0) (s:=4) rfl) (Zv (fun a w h=>YP (m:=0) (k:=1) rfl (Z6 h) rfl rfl (congrArg (fun z=>AV.rd (Zb z)) (show([]:List BA)=((Zah d i s fs).1)from by rw[eU])) (eI (by rw[eU]))))
   ·
    have e4:¬ ZcF d s.label<0∧ZcF d s.label< (i:Int):=by simp only[Bool.or_eq_false_iff,decide_eq_false_iff_not]at hb4;omega
    have e7:=Zot (d:=d) (i:=i) oz e4.1 e4.2
    have e5:=ZgE (d:=d) (i:=i) (s:=s.label) oz
    have e6:=Zcc hck _ (Zg e5.2.2)
    refine tw (sa 2 rfl (show(.int (ZcF d s.label):AV)= .int ((YZ d i s.label).toNat:Nat)from congrArg AV.int oz)) (ZK tb hJ [0,1,2,1001,1007,1011,1014] [_,_,.int (s.args.length:Nat),_,.at bc 0,.at bc 0,.at bc 2,.rd (Yq d.frames),_,.ptr (frC ((ge d.frames ((YZ d i s.label).toNat)))),_,_,.int ((((ge d.frames ((YZ d i s.label).toNat))).hyps).length:Nat),_,_] [2,4,5,6,7,9,12] [_,_,_,_,_,_,_] rfl ⟨Ym YE,fun _ _ _ hx hl _=>Z5 rfl (hl.D 3 59 rfl rfl) hx,fun _ _ _ hx hl _=>Zy Qb rfl (hl.D 4 60 rfl rfl) hx,fun _ _ _ hx hl _=>Zy Zau rfl (hl.D 5 61 rfl rfl) hx,fun _ _ hk hx hl _=>Zs Zho rfl (ZI hH hk hx (mo 0 rfl)) (hl.D 6 62 rfl rfl) rfl hx,iIx YH,Ym ZB,trivial⟩ ?_)
    refine ln 3 fun hl3=>?_
    refine ln 4 fun hl4=>?_
    refine ln 5 fun hl5=>?_
    refine cj 6 (fun hb5=>?_) fun hb5=>?_
    ·
     try simp at hb5
     have eU:=sg_23 (a:=fs) h0 e2 oz oz
     refine qso tb hJ [1000,1001] [_,_] [_,_] ?_
     exact tw (fun h=>Xk h (m:=0) (s:=4) rfl) (Zv (fun a w h=>YP (m:=0) (k:=1) rfl (Z6 h) rfl rfl (congrArg (fun z=>AV.rd (Zb z)) (show([]:List BA)=((Zah d i s fs).1)from by rw[eU])) (eI (by rw[eU]))))
    ·
     try simp at hb5
     have eU:=sg_use (a:=fs) h0 e2 oz (show s.args.length=(ge d.frames (YZ d i s.label).toNat).hyps.length by omega)
     refine Zc (nx (ZK tb hJ [1012,1014,1015] [_,_,.at bc 0,.at bc 0,.at bc 2,.rd (Yq d.frames),_,.ptr (frC ((ge d.frames ((YZ d i s.label).toNat)))),_,_,_,.tup [.rd (Zb (((Zbw d.vars (ge d.frames i).wide ((ge d.frames ((YZ d i s.label).toNat))) (YD fs s.args)).1))),.int ((Zbw d.vars (ge d.frames i).wide ((ge d.frames ((YZ d i s.label).toNat))) (YD fs s.args)).2)],_,_,_,_] [2,3,4,5,7,11] [_,_,_] rfl ⟨fun _ _ _ hx hl _=>Z5 rfl (hl.D 1 71 rfl rfl) hx,fun _ _ _ hx hl _=>Zy Qb rfl (hl.D 2 72 rfl rfl) hx,fun _ _ _ hx hl _=>Zy Zau rfl (hl.D 3 73 rfl rfl) hx,fun _ _ hk hx hl _=>Zs Zho rfl (ZI hH hk hx (mo 0 rfl)) (hl.D 4 74 rfl rfl) rfl hx,iIx YH,fun _ _ hk hx hl _=>YX (p_useG hJ bc d i fv fs ((ge d.frames ((YZ d i s.label).toNat))) s.args (by exact hi) (by exact hfs) (by exact hag) oz (by exact e6.1.2) (by exact e6.1.1) (by exact hwd)) ZuU rfl (Zm hS _ hk hx) (hx.1) (ZF (ZI hH hk hx (mo 0 rfl)) (ZF (ZI hH hk hx (mo 1 rfl)) Zq)) (Za (hl.D 0 70 rfl rfl) (Za (hl.D 8 78 rfl rfl) (Za (hl.D 10 80 rfl rfl) Zd))) (jo hJ hx),trivial⟩ ?_))
     refine ln 0 fun hl6=>?_
     exact Zv (fun a w h=>YP (m:=1) (k:=2) rfl (Z6 h) rfl rfl (congrArg (fun z=>AV.rd (Zb z)) (show(((Zbw d.vars (ge d.frames i).wide ((ge d.frames ((YZ d i s.label).toNat))) (YD fs s.args)).1))=((Zah d i s fs).1)from by rw[eU])) (eI (by rw[eU])))
theorem Zh1:ZcW Tryz.prog 64 [.int .i64 0,.int .i64 0]:=⟨fun i=>(#[(0,1),(1,1)]:Array (Nat×Nat))[i]?,fun j hj=>by rcases j with _ | _ | j<;>first | rfl | (simp at hj;omega) | simp at hj,fun parts=>by kernel_rfl⟩
theorem Zjx:Zpi Tryz.prog 113:=fun x y z i=>by kernel_rfl
theorem Zfz:ZbB Tryz.prog 64 2:=⟨#[.int .i64 0,.int .i64 0],rfl,fun i=>(#[(0,1),(1,1)]:Array (Nat×Nat))[i]?,fun j hj=>by rcases j with _ | _ | j<;>first | rfl | omega,fun parts=>by kernel_rfl⟩
theorem Zkn {J:WP} (hJ:Stab J) (d:Db) (z:Int) (ss:List Stp) (hw:∀ f∈d.frames,f.wide.length*32≤140737488351232) (hG:XI J):Fn Tryz.prog J 27 [.agg (dbC d),.int z,.agg (pfC ss)] (.tup [.rd (Zo ((Ys d z ss).1)),.agg (vdC ((Ys d z ss).2)),.int (Zfx d z ss)]):=by
 refine fE Tryz.func27 fun S w0 hS hJ0=>?_
 refine tw Ye (tsq ?_)
 refine sy (.ptr (dbC d)) (fun h=>ZcZ rfl (h.get 0 rfl) (Zm hS _ h.keep h.x _ nlr) (jo hJ h.x)) ?_
 refine sy (.ptr (pfC ss)) (fun h=>ZcZ rfl (h.get 3 rfl) (Zm hS _ h.keep h.x _ nlr) (jo hJ h.x)) ?_
 refine snK 1 tb (env':=[(6,_),(5,_),(3,_),(0,_),(1,_),(2,_)]) rfl (ZA Zcn hJ rfl rfl rfl (lb rfl) fun b1=>?_)
 refine snK 1 tb (env':=[(8,_),(7,_),(6,_),(5,_),(3,_),(0,_),(1,_),(2,_)]) rfl (seK [1,3,4,6] [_,_,_,_] rfl ?_)
 refine nx (Zh (ZK tb hJ [0,1,2,3,1004] [_,_,_,.int (Zfx d z ss),_] [3] [_,_,_,_,_] rfl ⟨iFo hS hJ (Zf0 hJ d z ss (by exact hw) (by exact hG)) Zjo,trivial⟩ ?_))
 refine qso tb hJ [0,1,2,3,4,1001] [_,_] [_,_,_,_,_,_] ?_
 refine cj 5 (fun hb1=>?_) fun hb1=>?_
 ·
  try simp at hb1
  have eU:Ys d z ss=([],(0,0)):=if_neg (by simpa using hb1)
  refine tsq (sy (.agg (vdC (⟨0,0⟩:Int×Int))) (fun h=>XJ (ps:=[]) (us:=[.int .i64 0,.int .i64 0]) Zh1 rfl yz Zms rfl (Qp (.lit _ True.intro) (Qp (.lit _ True.intro) Z4)) h.x) ?_)
  refine snK 2 tb (env':=[(6,_),(23,_),(22,_),(7,_),(5,_),(3,_),(1,_),(9,_),(21,_)]) rfl (Zt (b:=b1) (off:=0) (es:=[_,_]) (news:=[_,_]) hJ hJ0 Zai rfl rfl rfl (lb rfl) rfl (fun a w h=>⟨(h.get 3 rfl),(h.get 2 rfl)⟩) ?_)
  refine snK 1 tb (env':=[(8,_),(6,_),(23,_),(22,_),(7,_),(5,_),(3,_),(1,_),(9,_),(21,_)]) rfl (seK [0,1,4] [_,_,_] rfl ?_)
  exact nx (tw (fun h=>Xk h (m:=1) (s:=6) rfl) (Zv (fun a w h=>Zgb (cs:=[.lit (.int .i64 ((⟨0,0⟩:Int×Int).1)),.lit (.int .i64 ((⟨0,0⟩:Int×Int).2))]) (m:=2) (q:=1) (z:=0) rfl Zdi h rfl rfl (show([.lit (.int .i64 ((⟨0,0⟩:Int×Int).1)),.lit (.int .i64 ((⟨0,0⟩:Int×Int).2))]:List CD)=[.lit (.int .i64 (((Ys d z ss).2).1)),.lit (.int .i64 (((Ys d z ss).2).2))]from by rw[eU]) rfl (congrArg (fun z=>AV.rd (Zo z)) (show(([]:List (List BA)))=((Ys d z ss).1)from by rw[eU])) rfl rfl)))
 ·
  try simp at hb1
  have e0:Zfx d z ss=0:=by simpa using hb1
  obtain⟨ha,hf⟩:=Zer e0
  have hok:=(Zfj ss).1 hf
  obtain⟨hck,hz0,hz1⟩:=Zcj ha
  have hi:z.toNat<d.frames.length:=by omega
  have hl0:=hok.1
  have hl1:=hok.2.1
  refine tw (sa 3 rfl (show(.int z:AV)= .int (z.toNat:Nat)from congrArg AV.int oz)) (Zc (nx (tsq ?_)))
  refine snK 2 tb (env':=[(25,_),(24,_),(7,_),(5,_),(3,_),(1,_),(9,_),(21,_)]) rfl (sy (.agg [Zb d.consts,Zb d.vars,Yq d.frames,.lit (.int .i64 (((z.toNat:Nat):Int))),.lit (.slice none 0 0)]) (fun h=>Zna (d:=d) (i:=((z.toNat:Nat):Int)) Zjx rfl (h.get 1 rfl) (h.get 0 rfl) h.x) ?_)
  refine ZdB (cs:=[Zb d.consts,Zb d.vars,Yq d.frames,.lit (.int .i64 (((z.toNat:Nat):Int))),.lit (.slice none 0 0)]) hJ rfl rfl rfl (lb rfl) (fun a w h=>(h.get 0 rfl)) fun b2=>?_
  refine snK 1 tb (env':=[(10,_),(27,_),(26,_),(25,_),(24,_),(7,_),(5,_),(3,_),(1,_),(9,_),(21,_)]) rfl (seK [0,5,6,7,8] [_,_,_,_,_] rfl ?_)
  refine nx (Zh (tw (Z7 22 1 hJ) (ZK tb hJ [0,1,2,3,4,1001,1002,1003] [_,_,.int (ss.length:Nat),_] [2] [_,_,_,_,_,_,_,_] rfl ⟨Ym Z1,trivial⟩ ?_)))
  refine ln 5 fun hl1=>?_
  refine Ze (lpo (ι:=Nat×(List (List BA))×Value) (fun(k,fs,_)=>(k≤ss.length)∧(fs=fmG d z.toNat ss k)∧(∀ j,j<k→erG d z.toNat ss j=0)) (fun(_,fs,fv)=>[OB.row fv 22 1 (fs.map Zdx),OB.var b2 [Zb d.consts,Zb d.vars,Yq d.frames,.lit (.int .i64 (((z.toNat:Nat):Int))),.lit fv],OB.var b1 [.lit (.int .i64 0),.lit (.int .i64 0)]]) (fun(k,_,_)=>[(31,.int (k:Nat))]) (fun(k,_,_)=>ss.length-k) [0,1,2,3,4,5,6,7] [_,_,_,_,_,_,_] (0,[],(.slice none 0 0)) ⟨nzl,rfl,fun j hj=>by omega⟩ ?_)
  rintro⟨k,fs,fv⟩ ⟨f1_1,f1_2,f1_3⟩
  refine qso tb hJ [0,1,2,3,4,5,6,7,1000] [_] [_,_,_,_,_,_,_,_,_] ?_
  refine cjS 8 (fun hb2=>?_) fun hb2=>?_
  ·
   try simp at hb2
   have e2:=Zgg hck hi k f1_3
   rw[←f1_2]at e2
   have e3:fs.length=k:=by rw[f1_2,Zee]
   have e4:=ZnD hok (k:=k) oz
   refine Zc (nx (Zh (Ze (tsq (snK 1 tb (env':=[(33,_),(10,_),(7,_),(5,_),(3,_),(1,_),(29,_),(30,_),(31,_),(32,_)]) rfl (sy (.ptr (spC (ge ss k))) (fun h=>ZU (i:=((k:Nat):Int)) Z3 rfl (h.get 6 rfl) (h.get 8 rfl) nnn (Z0 (xs:=ss) (k:=k) (by first | omega | (simp;omega) | grind[Zg])) rfl h.x) ?_))))))
   refine snK 1 tb (env':=[(35,_),(34,_),(33,_),(10,_),(7,_),(5,_),(3,_),(1,_),(29,_),(30,_),(31,_),(32,_)]) rfl (ZA Xv hJ rfl rfl rfl (lb rfl) fun b3=>?_)
   refine snK 1 tb (env':=[(11,_),(12,_),(35,_),(34,_),(33,_),(10,_),(7,_),(5,_),(3,_),(1,_),(29,_),(30,_),(31,_),(32,_)]) rfl (Zt (b:=b3) (off:=0) (es:=[_,_]) (news:=[_,_]) hJ hJ0 Qe rfl rfl rfl (lb rfl) rfl (fun a w h=>⟨(h.get 1 rfl),(h.get 2 rfl)⟩) ?_)
   refine kw (fun h=>ZM hS h (m:=1) (s:=12) rfl) (seK [0,1,5,6,7,8,9,10,11,12] [_,_,_,_,_,_,_,_,_,_] rfl ?_)
   refine nx (ZK tb hJ [1,2,3,4,5,6,7,8,9,1004,1006,1007] [_,_,.tup [.rd (Zb (((Zah d z.toNat (ge ss k) fs).1))),.int ((Zah d z.toNat (ge ss k) fs).2)],_,_,_,_,_] [2] [_,_,_,_,_,_,_,_,_,_,_,_] rfl ⟨fun _ _ hk hx hl _=>YX (ZlS hJ b2 d z.toNat fv fs (ge ss k) (by exact hi) (by exact hck) (by exact e2) (by exact fun j hj=>by have:=e4 j hj;omega) (by exact hw _ (Zg hi))) Zu5 rfl (Zm hS _ hk hx) (hx.1) (ZF (Zf hx (mo 1 rfl)) (ZF (Zf hx (mo 0 rfl)) Zq)) (Za (hl.D 0 37 rfl rfl) (Za (hl.D 1 38 rfl rfl) Zd)) (jo hJ hx),trivial⟩ ?_)
   refine ln 9 fun hl2=>?_
   refine Zh (qso tb hJ [0,1,2,3,4,5,6,7,8,10,11,1001] [_,_] [_,_,_,_,_,_,_,_,_,_,_,_] ?_)
   refine cj 11 (fun hb3=>?_) fun hb3=>?_
   ·
    try simp at hb3
    have eU:Ys d z ss=(fs,((Zah d z.toNat (ge ss k) fs).2,(k:Int))):=by rw[Ys,if_pos e0,Ztf (k:=k) oz f1_3 (by rw[Zov,←f1_2];simpa using hb3),Zov,←f1_2]
    refine tsq (snK 1 tb (env':=[(44,_),(11,_),(10,_),(7,_),(5,_),(3,_),(1,_),(29,_),(30,_),(31,_),(13,_),(14,_),(43,_)]) rfl (sy (.at b2 0) (fun h=>Z5 rfl (h.get 0 rfl) h.x) ?_))
    refine sy (.at b2 4) (fun h=>Zy Xq rfl (h.get 0 rfl) h.x) ?_
    refine sy (.lit fv) (fun h=>Zs ZdS rfl (Zf h.x (mo 1 rfl)) (h.get 0 rfl) rfl h.x) ?_
    refine snK 2 tb (env':=[(49,_),(48,_),(47,_),(46,_),(45,_),(44,_),(11,_),(10,_),(7,_),(5,_),(3,_),(1,_),(29,_),(30,_),(31,_),(13,_),(14,_),(43,_)]) rfl (sq (.agg (vdC ((⟨(Zah d z.toNat (ge ss k) fs).2,((k:Nat):Int)⟩:Int×Int)))) rfl rfl (lb rfl) (fun a _ h=>XD (us:=[a.eval (Go.Operand.tmp 48),a.eval (Go.Operand.tmp 49)]) Zfz rfl yz (Zp (h.get 1 rfl) (Zp (h.get 0 rfl) Z4)) rfl h.x) ?_)
    refine snK 1 tb (env':=[(6,_),(50,_),(49,_),(48,_),(47,_),(46,_),(45,_),(44,_),(11,_),(10,_),(7,_),(5,_),(3,_),(1,_),(29,_),(30,_),(31,_),(13,_),(14,_),(43,_)]) rfl (kw pm2 ?_)
    refine Zt (b:=b1) (off:=0) (es:=[_,_]) (news:=[_,_]) hJ hJ0 Zai rfl rfl rfl (lb rfl) rfl (fun a w h=>⟨(h.get 10 rfl),(h.get 1 rfl)⟩) ?_
    refine snK 1 tb (env':=[(8,_),(6,_),(50,_),(49,_),(48,_),(47,_),(46,_),(45,_),(44,_),(11,_),(10,_),(7,_),(5,_),(3,_),(1,_),(29,_),(30,_),(31,_),(13,_),(14,_),(43,_)]) rfl (seK [0,1,11] [_,_,_] rfl ?_)
    refine nx (tw pm1 (tw (fun h=>Ya hS h (m:=1) (s:=6) rfl) ?_))
    exact Zv (fun a w h=>Zgb (cs:=[.lit (.int .i64 (((⟨(Zah d z.toNat (ge ss k) fs).2,((k:Nat):Int)⟩:Int×Int)).1)),.lit (.int .i64 (((⟨(Zah d z.toNat (ge ss k) fs).2,((k:Nat):Int)⟩:Int×Int)).2))]) (m:=2) (q:=1) (z:=0) rfl Zdi h rfl rfl (show([.lit (.int .i64 (((⟨(Zah d z.toNat (ge ss k) fs).2,((k:Nat):Int)⟩:Int×Int)).1)),.lit (.int .i64 (((⟨(Zah d z.toNat (ge ss k) fs).2,((k:Nat):Int)⟩:Int×Int)).2))]:List CD)=[.lit (.int .i64 (((Ys d z ss).2).1)),.lit (.int .i64 (((Ys d z ss).2).2))]from by rw[eU]) rfl (congrArg (fun z=>AV.rd (Zo z)) (show fs=((Ys d z ss).1)from by rw[eU])) rfl (congrArg AV.int (show(0:Int)=Zfx d z ss from by rw[e0])))
   ·
    try simp at hb3
    have e5:erG d z.toNat ss k=0:=by rw[Zov,←f1_2];simpa using hb3
    refine Zc (nx (ZS (snK 2 tb (env':=[(52,_),(51,_),(11,_),(10,_),(7,_),(5,_),(3,_),(1,_),(29,_),(30,_),(31,_),(13,_),(14,_),(43,_)]) rfl (sy (.at b2 0) (fun h=>Z5 rfl (h.get 0 rfl) h.x) ?_))))
    refine sy (.at b2 4) (fun h=>Zy Xq rfl (h.get 0 rfl) h.x) ?_
    refine sy (.lit fv) (fun h=>Zs ZdS rfl (Zf h.x (mo 1 rfl)) (h.get 0 rfl) rfl h.x) ?_
    refine snK 1 tb (env':=[(56,_),(55,_),(54,_),(53,_),(52,_),(51,_),(11,_),(10,_),(7,_),(5,_),(3,_),(1,_),(29,_),(30,_),(31,_),(13,_),(14,_),(43,_)]) rfl (sy (.rd (Zo ([((Zah d z.toNat (ge ss k) fs).1)]))) (fun h=>YB Yh Zis rfl (h.get 0 rfl) (Zm hS _ h.keep h.x _ nlr) (jo hJ h.x)) ?_)
    refine Yx (f:=Zdx) (m:=2) (s:=55) fs ([((Zah d z.toNat (ge ss k) fs).1)]) (fun _=>rfl) Zif hJ hJ0 rfl rfl rfl (lb rfl) rfl rfl (fun a w h=>(h.get 0 rfl)) (by simp;omega) (by simp;omega) fun v4=>?_
    refine sy (.at b2 0) (fun h=>Z5 rfl (h.get 7 rfl) h.x) ?_
    refine sy (.at b2 4) (fun h=>Zy Xq rfl (h.get 0 rfl) h.x) ?_
    refine kw pm1 (Yb (b:=b2) (off:=4) (es:=[_,_,_,_,_]) hJ hJ0 Zm0 rfl rfl rfl (lb rfl) rfl (fun a w h=>⟨(h.get 0 rfl),(h.get 2 rfl)⟩) ?_)
    refine seK [3,11,12,13,14,15,16,17,18] [_,_,_,_,_,_,_,_,_] rfl (nx (ln 0 fun hl3=>?_))
    refine YR tb hJ [1,2,3,4,5,6,7,1001] [.int (k+1:Nat),_] [0] [_,_,_,_,_,_,_,_] rfl ⟨YN,trivial⟩ ?_
    refine kw pm2 (kw pm1 ?_)
    exact kw pm2 (Xf (k+1,fs++([((Zah d z.toNat (ge ss k) fs).1)]),v4) [0,1,2,3,4,5,6,7] ⟨oz,by rw[ZqP,←f1_2],ZY f1_3 e5⟩)
  ·
   try simp at hb2
   obtain rfl:k=ss.length:=by omega
   have e3:fs.length=ss.length:=by rw[f1_2,Zee]
   refine Zu (nx (Zh (ZK tb hJ [0,1,3,4,1003] [_,_,.int (ss.length:Nat),_] [2] [_,_,_,_,_] rfl ⟨Ym Z1,trivial⟩ ?_)))
   refine ZK tb hJ [0,1,4,1007,1009,1013,1015] [_,.at b2 0,.at b2 4,.lit fv,_,.int (ss.length-1:Nat),.lit (YS fv ((ss.length-1)*1)),.rd (Zb ((ge fs (ss.length-1)))),_,_,_,.ptr (frC (ge d.frames z.toNat)),_,_,.bool (decide (((ge fs (ss.length-1)))=((ge d.frames z.toNat).text))),_] [1,2,3,5,6,7,11,14] [_,_,_,_,_,_,_] rfl ⟨fun _ _ _ hx hl _=>Z5 rfl (hl.D 0 65 rfl rfl) hx,fun _ _ _ hx hl _=>Zy Xq rfl (hl.D 1 66 rfl rfl) hx,fun _ _ _ hx hl _=>Zs ZdS rfl (Zf hx (mo 1 rfl)) (hl.D 2 67 rfl rfl) rfl hx,fun _ _ _ hx hl _=>Zka (i:=ss.length) (j:=1) rfl (hl.D 4 69 rfl rfl) (Rel.of_lit (Go.Value.int Go.IntKind.i64 1)) (by first | omega | (simp;omega) | grind[Zg]) (by first | omega | (simp;omega) | grind[Zg]) hx,fun _ _ _ hx hl _=>Yc (i:=((ss.length-1:Nat):Int)) Yh rfl (Zf hx (mo 0 rfl)) (hl.D 3 68 rfl rfl) (hl.D 5 70 rfl rfl) nnn (by rw[List.length_map];exact Int.ofNat_lt.2 (by first | omega | (simp;omega) | grind[Zg])) hx,fun _ _ _ hx hl _=>Zal (i:=ss.length-1) Qg rfl (Zf hx (mo 0 rfl)) (hl.D 6 71 rfl rfl) (Qq (xs:=fs) (k:=ss.length-1) (by first | omega | (simp;omega) | grind[Zg])) hx,iIx YH,iFo hS hJ (ZfX hJ ((ge fs (ss.length-1))) ((ge d.frames z.toNat).text)) Zjn,trivial⟩ ?_
   refine ln 3 fun hl4=>?_
   refine ln 4 fun hl5=>?_
   refine ln 5 fun hl6=>?_
   refine cj 6 (fun hb4=>?_) fun hb4=>?_
   ·
    try simp at hb4
    have eU:Ys d z ss=(fs,(28,(ss.length:Int))):=by rw[Ys,if_pos e0,ZjI f1_3,←f1_2,if_neg (by first | (simpa using hb4) | (simpa [e3]using hb4))]
    refine tsq (snK 1 tb (env':=[(81,_),(10,_),(7,_),(15,_),(72,_),(74,_),(78,_),(80,_)]) rfl (sy (.at b2 0) (fun h=>Z5 rfl (h.get 0 rfl) h.x) ?_))
    refine sy (.at b2 4) (fun h=>Zy Xq rfl (h.get 0 rfl) h.x) ?_
    refine sy (.lit fv) (fun h=>Zs ZdS rfl (Zf h.x (mo 1 rfl)) (h.get 0 rfl) rfl h.x) ?_
    refine snK 1 tb (env':=[(85,_),(84,_),(83,_),(82,_),(81,_),(10,_),(7,_),(15,_),(72,_),(74,_),(78,_),(80,_)]) rfl (sq (.agg (vdC ((⟨(28:Int),((ss.length:Nat):Int)⟩:Int×Int)))) rfl rfl (lb rfl) (fun a _ h=>XD (us:=[a.eval (Go.Operand.const (Go.Value.int Go.IntKind.i64 28)),a.eval (Go.Operand.tmp 85)]) Zfz rfl yz (Zp (Rel.of_lit (Go.Value.int Go.IntKind.i64 28)) (Zp (h.get 0 rfl) Z4)) rfl h.x) ?_)
    refine snK 1 tb (env':=[(6,_),(86,_),(85,_),(84,_),(83,_),(82,_),(81,_),(10,_),(7,_),(15,_),(72,_),(74,_),(78,_),(80,_)]) rfl (kw pm2 ?_)
    refine Zt (b:=b1) (off:=0) (es:=[_,_]) (news:=[_,_]) hJ hJ0 Zai rfl rfl rfl (lb rfl) rfl (fun a w h=>⟨(h.get 8 rfl),(h.get 1 rfl)⟩) ?_
    refine snK 1 tb (env':=[(8,_),(6,_),(86,_),(85,_),(84,_),(83,_),(82,_),(81,_),(10,_),(7,_),(15,_),(72,_),(74,_),(78,_),(80,_)]) rfl (seK [0,1,9] [_,_,_] rfl ?_)
    refine nx (tw pm1 (tw (fun h=>Ya hS h (m:=1) (s:=6) rfl) ?_))
    exact Zv (fun a w h=>Zgb (cs:=[.lit (.int .i64 (((⟨(28:Int),((ss.length:Nat):Int)⟩:Int×Int)).1)),.lit (.int .i64 (((⟨(28:Int),((ss.length:Nat):Int)⟩:Int×Int)).2))]) (m:=2) (q:=1) (z:=0) rfl Zdi h rfl rfl (show([.lit (.int .i64 (((⟨(28:Int),((ss.length:Nat):Int)⟩:Int×Int)).1)),.lit (.int .i64 (((⟨(28:Int),((ss.length:Nat):Int)⟩:Int×Int)).2))]:List CD)=[.lit (.int .i64 (((Ys d z ss).2).1)),.lit (.int .i64 (((Ys d z ss).2).2))]from by rw[eU]) rfl (congrArg (fun z=>AV.rd (Zo z)) (show fs=((Ys d z ss).1)from by rw[eU])) rfl (congrArg AV.int (show(0:Int)=Zfx d z ss from by rw[e0])))
   ·
    try simp at hb4
    have eU:Ys d z ss=(fs,(0,0)):=by rw[Ys,if_pos e0,ZjI f1_3,←f1_2,if_pos (by first | (simpa using hb4) | (simpa [e3]using hb4))]
    refine Zc (nx (tsq (snK 1 tb (env':=[(87,_),(10,_),(7,_),(15,_),(72,_),(74,_),(78,_),(80,_)]) rfl (sy (.at b2 0) (fun h=>Z5 rfl (h.get 0 rfl) h.x) ?_))))
    refine sy (.at b2 4) (fun h=>Zy Xq rfl (h.get 0 rfl) h.x) ?_
    refine sy (.lit fv) (fun h=>Zs ZdS rfl (Zf h.x (mo 1 rfl)) (h.get 0 rfl) rfl h.x) ?_
    refine sy (.agg (vdC (⟨0,0⟩:Int×Int))) (fun h=>XJ (ps:=[]) (us:=[.int .i64 0,.int .i64 0]) Zh1 rfl yz Zms rfl (Qp (.lit _ True.intro) (Qp (.lit _ True.intro) Z4)) h.x) ?_
    refine snK 1 tb (env':=[(6,_),(91,_),(90,_),(89,_),(88,_),(87,_),(10,_),(7,_),(15,_),(72,_),(74,_),(78,_),(80,_)]) rfl (kw pm2 ?_)
    refine Zt (b:=b1) (off:=0) (es:=[_,_]) (news:=[_,_]) hJ hJ0 Zai rfl rfl rfl (lb rfl) rfl (fun a w h=>⟨(h.get 7 rfl),(h.get 1 rfl)⟩) ?_
    refine snK 1 tb (env':=[(8,_),(6,_),(91,_),(90,_),(89,_),(88,_),(87,_),(10,_),(7,_),(15,_),(72,_),(74,_),(78,_),(80,_)]) rfl (seK [0,1,8] [_,_,_] rfl ?_)
    refine nx (tw pm1 (tw (fun h=>Ya hS h (m:=1) (s:=6) rfl) ?_))
    exact Zv (fun a w h=>Zgb (cs:=[.lit (.int .i64 ((⟨0,0⟩:Int×Int).1)),.lit (.int .i64 ((⟨0,0⟩:Int×Int).2))]) (m:=2) (q:=1) (z:=0) rfl Zdi h rfl rfl (show([.lit (.int .i64 ((⟨0,0⟩:Int×Int).1)),.lit (.int .i64 ((⟨0,0⟩:Int×Int).2))]:List CD)=[.lit (.int .i64 (((Ys d z ss).2).1)),.lit (.int .i64 (((Ys d z ss).2).2))]from by rw[eU]) rfl (congrArg (fun z=>AV.rd (Zo z)) (show fs=((Ys d z ss).1)from by rw[eU])) rfl (congrArg AV.int (show(0:Int)=Zfx d z ss from by rw[e0])))
section
variable {n:Rn} {N:Nat} {P:Program} {J:WP} {S:Nat→Prop} {O A R:List OB} {w0:World} {env:List (Nat×AV)} {Q:Exit→Act→WP} {ι ι1 ι2 κ μ σ:Type}
def Zvm (A:ι1→List OB) (B:ι2→List OB):ι1 ⊕ ι2→List OB
 | .inl z=>A z
 | .inr s=>B s
def FnV (P:Program) (J:WP) (S:Nat→Prop) (w0:World) (f:FuncId) (args:List AV) (O:List OB) (res:ι→AV) (O':ι→List OB) (pv:κ→Value) (O'':κ→List OB):Prop:=
 ∀(R:List OB) (w:World) (vs:List Value),Keeps All w0 w→XO J S w0.heap.size (O++R) w→RelL (SO S (O++R)) w args vs→Calls P f vs.toArray w (Zmn J S w0 R res O' pv O'')
theorem Zon {f:FuncId} {fn:Func} {c:Code} {args:List AV} {res:ι→AV} {O':ι→List OB} {pv:κ→Value} {O'':κ→List OB} (hf:P.funcs[f]?=some fn) (hb:fn.body=some c) (hN:fn.ntmps=N) (hl:args.length≤N)
 (h:∀ R,Tr 5 P (So J S w0 N (O++R) (YV 0 args)) c (bodyPost P fn (Zmn J S w0 R res O' pv O''))):FnV P J S w0 f args O res O' pv O'':=by
 intro R w vs hk hx ha
 obtain⟨g1,g2⟩:=X8 hl hN ha
 exact(callsIn_wide (n:=5)).1 (callsIn_of_wp hf hb trivial (h R _ _ ⟨rfl,g1,hk,hx,g2⟩) rfl)
theorem d_fnV {o:Oper} {a:Act} {w:World} {f:FuncId} {args:List Operand} {callee:Operand} {ts:Array TypeId} {avs:List AV} {res:ι→AV} {O':ι→List OB} {pv:κ→Value} {O'':κ→List OB} {cap:List Value} {avc:List AV} (hF:FnV P J S w0 f (avs++avc) O res O' pv O'') (h1:Zj P f) (hop:o.op= .call { callee:=.value callee,args:=args.toArray,argTypes:=ts })
 (hk:Keeps All w0 w) (hx:XO J S w0.heap.size (O++R) w) (hc:a.eval callee= .func (.func f) #[] cap.toArray) (ha:RelL (SO S (O++R)) w avs (args.map a.eval)) (hcap:RelL (SO S (O++R)) w avc cap):
 ZgJ n P o a w (fun v w'=>∃ i,QS J S w0 (O++R) w (O' i++R) w'∧Rel (SO S (O' i++R)) w' (res i) v) (fun ch w'=>∃ k,ch=pch (pv k)∧QS J S w0 (O++R) w (O'' k++R) w'):=by
 let B:AV→Value→Prop:=fun av v=>Rel (SO S (O++R)) w av v
 have hx2:=ZgO (B:=B) hx fun _ _ h=>h
 have hsub:∀ k,k<w.heap.size→SO S (O++R) k→All k∧SO S (O++OB.was B::R) k:=fun k _ h=>⟨trivial,so_was.2 h⟩
 have hcall:=hF (OB.was B::R) w _ hk hx2 (RelL.move (Keeps.refl All w) hsub (Zj0 ha hcap))
 refine Zmd (f:=f) (args:=(args.map a.eval++cap).toArray) (w1:=w) ?_ (Calls.mono hcall fun e w' h=>?_)
 · have h2:=h1 ((args.map a.eval++cap).toArray) w
   simp only[execOp,hop,resolve,hc,Deferred.ofValue,Sem.run_bind,Sem.run_pure,Result.andThen_ok,invoke]
   rw[←h2]
   congr 2
   simp
 · rcases h with⟨i,v,he,hv,hk',hx'⟩ | ⟨k,he,hk',hx'⟩
   · obtain⟨g1,g2⟩:=Zaz hx'
     exact .inl ⟨v,he,i,⟨hk',g1,g2⟩,hv.sub fun k _=>so_was.1⟩
   · obtain⟨g1,g2⟩:=Zaz hx'
     exact .inr ⟨_,he,k,rfl,⟨hk',g1,g2⟩⟩
theorem Zsn {ops:Array Oper} {o:Oper} {rest:List Oper} {d:Nat} {f:FuncId} {args:List Operand} {callee:Operand} {ts:Array TypeId} (avs:List AV) (cap:List Value) (avc:List AV) {res:ι1 ⊕ ι2→AV} {O':ι1 ⊕ ι2→List OB} {pv:κ→Value} {O'':κ→List OB} (hF:FnV P J S w0 f (avs++avc) O res O' pv O'') (h1:Zj P f) (hg:o.guard=none) (hop:o.op= .call { callee:=.value callee,args:=args.toArray,argTypes:=ts }) (hd:o.dst=some d) (hN:d<N)
 (hc:∀ a w,So J S w0 N (O++R) env a w→a.eval callee= .func (.func f) #[] cap.toArray) (ha:∀ a w,So J S w0 N (O++R) env a w→RelL (SO S (O++R)) w avs (args.map a.eval)) (hcap:∀ w,RelL (SO S (O++R)) w avc cap)
 (pan:∀ q a w,So J S w0 N (O'' q++R) env a w→Q (.panic (pch (pv q))) a w)
 (stop:∀ s a w,So J S w0 N (O' (.inr s)++R) ((d,res (.inr s))::Yi d env) a w→wpListIn n.F n.d P ops Q rest a w)
 (next:∀ z a w,So J S w0 N (O' (.inl z)++R) ((d,res (.inl z))::Yi d env) a w→wpListIn n.F n.d P ops Q rest a w):
 ∀ a w,So J S w0 N (O++R) env a w→wpListIn n.F n.d P ops Q (o::rest) a w:=
 sq_toP hg hd hN (fun a w h=>d_fnV hF h1 hop h.keep h.x (hc a w h) (ha a w h) (hcap w)) pan fun i=>by
  cases i with
  | inl z=>exact next z
  | inr s=>exact stop s
theorem vPan {res:ι→AV} {O':ι→List OB} {pv:μ→Value} {O3:μ→List OB} (A:List OB) (q:μ):∀ a w,So J S w0 N (O3 q++(A++R)) env a w→a.defers=[]∧Zmn J S w0 R res O' pv O3 (.panicked (pch (pv q))) w:=
 fun a w h=>pnP q rfl a w (ZfH A (ZjR A h))
theorem vPan0 {res:ι→AV} {O':ι→List OB} {pv:μ→Value} {O3:μ→List OB} (q:μ):∀ a w,So J S w0 N (O3 q++R) env a w→a.defers=[]∧Zmn J S w0 R res O' pv O3 (.panicked (pch (pv q))) w:=fun a w h=>pnP q rfl a w h
def OB.pt (b off:Nat) (cs:List CD):OB where
 blk:=fun _=>False
 inv:=fun _ S w=>Rel S w (.ptr cs) (.pointer (some ⟨b,off,none⟩))
 mv:=fun h hk _ hs=>h.move hk hs
 lt:=fun _ _ h=>h.elim
variable {a:Act} {w:World} {b off:Nat} {cs:List CD} {c:Code}
theorem ZfL {k:Nat} (hk:SO S O k):SO S (OB.pt b off cs::O) k:=⟨hk.1,fun q hq=>by
 rcases List.mem_cons.1 hq with rfl | hq
 · exact fun h=>h
 · exact hk.2 q hq⟩
theorem ZpD (hp:Rel (SO S O) w (.ptr cs) (.pointer (some ⟨b,off,none⟩))) (h:So J S w0 N O env a w):So J S w0 N (OB.pt b off cs::O) env a w:=by
 refine⟨h.defs,h.size,h.keep,⟨h.x.1,fun q hq=>?_,.cons (fun _ _ _ hk=>hk.elim) h.x.2.2⟩,fun p hm=>⟨(h.env p hm).1,(h.env p hm).2.sub fun _ _ hk=>ZfL hk⟩⟩
 rcases List.mem_cons.1 hq with rfl | hq
 · exact hp.sub fun _ _ hk=>ZfL hk
 · exact OB.sub (h.x.2.1 q hq) fun _ _ hk=>ZfL hk
theorem ZpB {m s:Nat} (he:env[m]?=some (s,.ptr cs)) (h:∀ b off,Tr n P (So J S w0 N (OB.pt b off cs::O) ((s,.at b off)::Yi s env)) c Q):Tr n P (So J S w0 N O env) c Q:=fun a w ha=>by
 have hr:=ha.get m he
 have hr':=hr
 simp only[Rel]at hr'
 obtain⟨b,off,us,hv,_⟩:=hr'
 rw[hv]at hr
 have h2:=ZpD hr ha
 refine h b off a w ⟨h2.defs,h2.size,h2.keep,h2.x,fun p hp=>?_⟩
 rcases List.mem_cons.1 hp with rfl | hp
 · have h3:a.tmps.getD s undef= .pointer (some ⟨b,off,none⟩):=hv
   refine⟨(ha.env _ (List.mem_of_getElem? he)).1,?_⟩
   show Rel _ w (.at b off) (a.tmps.getD s undef)
   rw[h3]
   exact Rel.of_lit _
 · exact h2.env p (List.mem_filter.1 hp).1
theorem ZmR {i m s:Nat} (hi:O[i]?=some (OB.pt b off cs)) (he:env[m]?=some (s,.at b off)) (h:So J S w0 N O env a w):So J S w0 N O ((s,.ptr cs)::Yi s env) a w:=by
 refine⟨h.defs,h.size,h.keep,h.x,fun p hp=>?_⟩
 rcases List.mem_cons.1 hp with rfl | hp
 · refine⟨(h.env _ (List.mem_of_getElem? he)).1,?_⟩
   have h1:Rel (SO S O) w (.ptr cs) (.pointer (some ⟨b,off,none⟩)):=h.x.2.1 _ (List.mem_of_getElem? hi)
   have h2:a.tmps.getD s undef= .pointer (some ⟨b,off,none⟩):=(h.get m he).lit
   show Rel _ w (.ptr cs) (a.tmps.getD s undef)
   rw[h2]
   exact h1
 · exact h.env p (List.mem_filter.1 hp).1
end
theorem ZiW:Zsc Tryz.prog 122 4 1 (.bool false):=makeT (by kernel_rfl) (by kernel_rfl) rfl True.intro
end Go.Proofs.YtdfadihhfppjaaaGreatDoor
namespace Go.Proofs.YtdfadihhfppjaaaGreatDoor
structure Chg where
 reason:Int
 step:Int
 label:BA
 args:List Int
 before:Int
 after:Int
instance instInhChg:Inhabited Chg:=⟨⟨0,0,ByteArray.empty,[],0,0⟩⟩
def chC (c:Chg):List CD:=[.lit (.int .i64 c.reason),.lit (.int .i64 c.step),.lit (.string c.label),ZX c.args,.lit (.int .i64 c.before),.lit (.int .i64 c.after)]
def Zeq (l:List Chg):CD:=.sl (l.map chC)
def Zf8 (m:List Bool) (al:List Int):List Bool:=al.foldl (fun m a=>m.set a.toNat true) m
def Zhw (ss:List Stp) (m:List Bool) (i:Nat):List Bool:=if ge m i then Zf8 m (ge ss i).args else m
def mark0 (n:Nat):List Bool:=(List.replicate n false).set (n-1) true
def Zcy (ss:List Stp):Nat→List Bool
 | 0=>mark0 ss.length
 | k+1=>Zhw ss (Zcy ss k) (ss.length-1-k)
def Qh (ss:List Stp):List Bool:=Zcy ss ss.length
def ZeM (m:List Bool):Nat:=(m.filter id).length
def Zg8 (to:List Int) (al:List Int):List Int:=al.map fun a=>ge to a.toNat
def QU (ss:List Stp) (m:List Bool):Nat→List Int×List Stp
 | 0=>(List.replicate ss.length 0,[])
 | k+1=>if ge m k then((QU ss m k).1.set k ((QU ss m k).2.length:Int),(QU ss m k).2++[⟨(ge ss k).label,Zg8 ((QU ss m k).1.set k ((QU ss m k).2.length:Int)) (ge ss k).args⟩])else QU ss m k
def Zct (ss:List Stp):List Stp:=(QU ss (Qh ss) ss.length).2
def ZH (ss:List Stp):Nat:=ZeM (Qh ss)
def ZbV (c:Chg) (s:Stp):Stp:=⟨s.label,s.args.map fun a=>if a=c.step then ge c.args 0 else a⟩
def XY (ss:List Stp) (c:Chg):List Stp:=
 if c.reason=2 then Zct (ss.set c.step.toNat ⟨c.label,c.args⟩)
 else if c.step=(ss.length:Int)-1 then Zct ((ss.map (ZbV c)).take (ge c.args 0+1).toNat)
 else Zct (ss.map (ZbV c))
def ZbI (ss:List Stp) (c:Chg):Chg:= { c with before:=(ZH ss:Int),after:=((XY ss c).length:Int) }
def X0 (ss:List Stp) (c:Chg):Option Chg:=if(XY ss c).length<ZH ss then some (ZbI ss c)else none
theorem Zd3:∀(al:List Int) (m:List Bool),(Zf8 m al).length=m.length
 | [],m=>rfl
 | a::al,m=>by rw[Zf8,List.foldl_cons];exact(Zd3 al _).trans yz
theorem ZnL (ss:List Stp) (m:List Bool) (i:Nat):(Zhw ss m i).length=m.length:=by
 unfold Zhw;split
 · exact Zd3 _ _
 · rfl
theorem Zd2 (ss:List Stp):∀ k,(Zcy ss k).length=ss.length
 | 0=>by simp[Zcy,mark0]
 | k+1=>by rw[Zcy,ZnL,Zd2 ss k]
theorem Zhq (ss:List Stp):(Qh ss).length=ss.length:=Zd2 ss _
theorem ZoF (m:List Bool):ZeM m≤m.length:=List.length_filter_le _ _
theorem Zc5 (ss:List Stp):ZH ss≤ss.length:=Nat.le_trans (ZoF _) (Nat.le_of_eq (Zhq ss))
def YA (d:Db) (z:Int) (ss:List Stp):Int:=if Zfx d z ss=0 then(if(Ys d z ss).2.1=0 then 0 else 13)else Zfx d z ss
def ltK (a b:Chg):Bool:=decide (a.after<b.after)|| (decide (a.after=b.after)&&decide (a.step<b.step))
def XQ:Chg→List Chg→Chg
 | c,[]=>c
 | c,x::l=>XQ (if ltK x c then x else c) l
theorem ZcB:∀(l:List Chg) (c:Chg),XQ c l=c∨XQ c l∈l
 | [],c=>.inl rfl
 | x::l,c=>by
  rw[XQ]
  rcases ZcB l (if ltK x c then x else c)with h | h
  · by_cases hx:ltK x c=true
    · rw[if_pos hx]at h ⊢;exact .inr (by rw[h];exact List.mem_cons_self)
    · rw[if_neg hx]at h ⊢;exact .inl h
  · exact .inr (List.mem_cons_of_mem _ h)
section
variable (R:List Stp→Int) (A:List Stp→List Chg)
def ZgL:Nat→List Stp→List Chg→List Stp×List Chg×Int
 | 0,ss,l=>(ss,l,0)
 | k+1,ss,l=>match A ss with
  | []=>(ss,l,0)
  | c::cs=>if R (XY ss (XQ c cs))=0 then ZgL k (XY ss (XQ c cs)) (l++[XQ c cs])else([],[],R (XY ss (XQ c cs)))
theorem Zht (hA:∀ ss c,c∈A ss→(XY ss c).length<ZH ss):∀(k:Nat) (ss:List Stp) (l:List Chg),R ss=0→ZH ss<k→(ZgL R A k ss l).2.2=0→R (ZgL R A k ss l).1=0∧A (ZgL R A k ss l).1=[]
 | 0,ss,l,_,h,_=>absurd h (Nat.not_lt_zero _)
 | k+1,ss,l,hR,hk,he=>by
  rw[ZgL]at he ⊢
  cases hl:A ss with
  | nil=>rw[hl]at he;exact⟨hR,hl⟩
  | cons c cs=>
   rw[hl]at he
   dsimp only at he ⊢
   have hm:XQ c cs∈A ss:=by rw[hl];rcases ZcB cs c with h | h<;>simp[h]
   have h1:=hA ss _ hm
   have h2:=Zc5 (XY ss (XQ c cs))
   by_cases h0:R (XY ss (XQ c cs))=0
   · rw[if_pos h0]at he ⊢
     exact Zht hA k _ _ h0 oz he
   · rw[if_neg h0]at he
     exact absurd he h0
end
def Zkz (hs:List Hy) (w:BA):Bool:=hs.any fun h=>h.floating&&decide (ge h.text 1=w)
def Xt (hs:List Hy) (M:BM):List BA→List BA→Bool×Bool
 | [],t=>(decide (t.length=0),true)
 | w::p,t=>match Zw M w with
  | some y=>if y.length≤t.length∧y=t.take y.length then Xt hs M p (t.drop y.length)else(false,false)
  | none=>if Zkz hs w then(true,false)else if t.length=0∨ ¬ ge t 0=w then(false,false)else Xt hs M p (t.drop 1)
section
variable {hs:List Hy} {M:BM} {p t y p0 t0:List BA} {w:BA} {k:Nat}
theorem Zo9 (hk:k<p.length):p.drop k=ge p k::p.drop (k+1):=by rw[YL hk];exact List.drop_eq_getElem_cons hk
theorem bg_end (h:Xt hs M p0 t0=Xt hs M (p.drop k) t) (hk:¬ k<p.length):Xt hs M p0 t0=(decide (t.length=0),true):=by
 rw[h,List.drop_eq_nil_of_le oz];rfl
theorem bg_in (h:Xt hs M p0 t0=Xt hs M (p.drop k) t) (hk:k<p.length) (hm:Zw M (ge p k)=some y) (h1:y.length≤t.length) (h2:y=t.take y.length):Xt hs M p0 t0=Xt hs M (p.drop (k+1)) (t.drop y.length):=by
 rw[h,Zo9 hk,Xt,hm];exact if_pos ⟨h1,h2⟩
theorem bg_no (h:Xt hs M p0 t0=Xt hs M (p.drop k) t) (hk:k<p.length) (hm:Zw M (ge p k)=some y) (h1:¬ (y.length≤t.length∧y=t.take y.length)):Xt hs M p0 t0=(false,false):=by
 rw[h,Zo9 hk,Xt,hm];exact if_neg h1
theorem bg_fl (h:Xt hs M p0 t0=Xt hs M (p.drop k) t) (hk:k<p.length) (hm:Zw M (ge p k)=none) (hf:Zkz hs (ge p k)=true):Xt hs M p0 t0=(true,false):=by
 rw[h,Zo9 hk,Xt,hm];exact if_pos hf
theorem bg_ne (h:Xt hs M p0 t0=Xt hs M (p.drop k) t) (hk:k<p.length) (hm:Zw M (ge p k)=none) (hf:Zkz hs (ge p k)=false) (hn:t.length=0∨ ¬ ge t 0=ge p k):Xt hs M p0 t0=(false,false):=by
 rw[h,Zo9 hk,Xt,hm];exact(if_neg (by simp[hf])).trans (if_pos hn)
theorem bg_eq (h:Xt hs M p0 t0=Xt hs M (p.drop k) t) (hk:k<p.length) (hm:Zw M (ge p k)=none) (hf:Zkz hs (ge p k)=false) (hn:¬ (t.length=0∨ ¬ ge t 0=ge p k)):Xt hs M p0 t0=Xt hs M (p.drop (k+1)) (t.drop 1):=by
 rw[h,Zo9 hk,Xt,hm];exact(if_neg (by simp[hf])).trans (if_neg hn)
end
def Zvg (hs:List Hy) (M:BM) (text:List BA):Bool:=!(text.any fun w=>!(Zw M w).isSome&&Zkz hs w)
def bdO (a b:Bd):Bool:=!Op.bytesLess b.var.toList a.var.toList
def YO (M:BM):List Bd:=(M.map fun q=>(⟨q.1,q.2⟩:Bd)).mergeSort bdO
def gvM (hs:List Hy) (es:List (List BA)):Nat→BM
 | 0=>[]
 | k+1=>if(ge hs k).floating then Xu (gvM hs es k) (ge (ge hs k).text 1) ((ge es k).drop 1)else gvM hs es k
structure Jb where
 d:Db
 i:Nat
 ss:List Stp
 ts:List (List BA)
 M:List (BA×Int)
def ZqF (hs:List Hy) (M:BM) (es:List (List BA)) (j:Nat):Bool:=(ge hs j).floating|| (Xt hs M (ge hs j).text (ge es j)).1
def ZeB (j:Jb) (g:Fr) (al:List Int) (step:Nat):Bool:=
 (List.range g.hyps.length).all (Zda g.hyps (YD j.ts al) 0)&& (List.range g.hyps.length).all (ZqF g.hyps (gvM g.hyps (YD j.ts al) g.hyps.length) (YD j.ts al))&& (Xt g.hyps (gvM g.hyps (YD j.ts al) g.hyps.length) g.text (ge j.ts step)).1&& !ZeO (YO (gvM g.hyps (YD j.ts al) g.hyps.length)) g.apart j.d.vars (ge j.d.frames j.i).wide
def Xz (t:List BA):BA:=Zi2 t ⟨#[10]⟩
def ZaC (j:Jb) (hs:List Hy) (step:Nat) (h:Hy) (M:BM):Nat×Nat:=
 if h.floating=false∧Zvg hs M h.text=true then
  if XL (ZO (YO M)) h.text 2000=true then match Zw j.M (Xz (Xb (ZO (YO M)) h.text))with
   | some z=>if z< (step:Int)then(z.toNat,z.toNat+1)else(0,0)
   | none=>(0,0)
  else(0,0)
 else(0,step)
def Zmp (j:Jb) (h:Hy) (t:Nat):Bool:=decide (Zw j.M (Xz (ge j.ts t))=some (t:Int))&&decide (ge (ge j.ts t) 0=ge h.text 0)
def Zim (F:BM→List Int→List (List Int)×BM) (j:Jb) (h:Hy) (al:List Int) (q:List (List Int)×BM) (t:Nat):List (List Int)×BM:=
 if Zmp j h t then
  (q.1++(F (if h.floating then Xu q.2 (ge h.text 1) ((ge j.ts t).drop 1)else q.2) (al++[(t:Int)])).1,
   if h.floating then Zd1 (F (if h.floating then Xu q.2 (ge h.text 1) ((ge j.ts t).drop 1)else q.2) (al++[(t:Int)])).2 (ge h.text 1)else(F (if h.floating then Xu q.2 (ge h.text 1) ((ge j.ts t).drop 1)else q.2) (al++[(t:Int)])).2)
 else q
def ZgK (j:Jb) (g:Fr) (step:Nat):List Hy→BM→List Int→List (List Int)×BM
 | [],M,al=>if(Xt g.hyps M g.text (ge j.ts step)).1 then(if ZeB j g al step then [al]else [],M)else([],M)
 | h::hs,M,al=>if(Xt g.hyps M g.text (ge j.ts step)).1 then(List.range' (ZaC j g.hyps step h M).1 ((ZaC j g.hyps step h M).2-(ZaC j g.hyps step h M).1)).foldl (Zim (ZgK j g step hs) j h al) ([],M)else([],M)
def ZaQ (j:Jb) (g:Fr) (step k:Nat) (M:BM) (al:List Int):List (List Int)×BM:=ZgK j g step (g.hyps.drop k) M al
def ZbE (j:Jb) (g:Fr) (step k:Nat) (M:BM) (al:List Int) (a n:Nat):List (List Int)×BM:=(List.range' a n).foldl (Zim (ZaQ j g step (k+1)) j (ge g.hyps k) al) ([],M)
section
variable {j:Jb} {g:Fr} {step k a n m t:Nat} {M:BM} {al:List Int} {pre xs ys:List (List Int)}
theorem Ztd (h:(Xt g.hyps M g.text (ge j.ts step)).1=false):ZaQ j g step k M al=([],M):=by
 unfold ZaQ
 cases g.hyps.drop k<;>simp[ZgK,h]
theorem Zsg (h:(Xt g.hyps M g.text (ge j.ts step)).1=true) (hk:k=g.hyps.length):ZaQ j g step k M al=(if ZeB j g al step then [al]else [],M):=by
 subst hk
 rw[ZaQ,List.drop_eq_nil_of_le nlr,ZgK,if_pos h]
theorem Zte (h:(Xt g.hyps M g.text (ge j.ts step)).1=true) (hk:k<g.hyps.length):ZaQ j g step k M al=ZbE j g step k M al (ZaC j g.hyps step (ge g.hyps k) M).1 ((ZaC j g.hyps step (ge g.hyps k) M).2-(ZaC j g.hyps step (ge g.hyps k) M).1):=by
 rw[ZaQ,List.drop_eq_getElem_cons hk,←YL hk,ZgK,if_pos h]
 rfl
theorem Ziw:ZbE j g step k M al a 0=([],M):=rfl
theorem Zdv:ZbE j g step k M al a (n+1)=Zim (ZaQ j g step (k+1)) j (ge g.hyps k) al (ZbE j g step k M al a n) (a+n):=by
 rw[ZbE,List.range'_concat,List.foldl_append,Nat.one_mul];rfl
theorem rn_pre {F:BM→List Int→List (List Int)×BM} {h:Hy} {q:List (List Int)×BM}:q.1<+:(Zim F j h al q t).1:=by
 unfold Zim;split
 · exact List.prefix_append _ _
 · exact List.prefix_refl _
theorem ts_pre (h:n≤m):(ZbE j g step k M al a n).1<+:(ZbE j g step k M al a m).1:=by
 induction m with
 | zero=>obtain rfl:n=0:=oz;exact List.prefix_refl _
 | succ m ih=>
  rcases Nat.lt_or_ge m n with hm | hm
  · obtain rfl:n=m+1:=oz;exact List.prefix_refl _
  · exact(ih hm).trans (by rw[Zdv];exact rn_pre)
theorem Zti (h:a+n<m) (ho:Zmp j (ge g.hyps k) (a+n)=true) (hp:pre++(ZbE j g step k M al a (m-a)).1<+:xs):
 pre++(ZbE j g step k M al a n).1++(ZaQ j g step (k+1) (if(ge g.hyps k).floating then Xu (ZbE j g step k M al a n).2 (ge (ge g.hyps k).text 1) ((ge j.ts (a+n)).drop 1)else(ZbE j g step k M al a n).2) (al++[((a+n:Nat):Int)])).1<+:xs:=by
 have h1:=ts_pre (j:=j) (g:=g) (step:=step) (k:=k) (M:=M) (al:=al) (a:=a) (n:=n+1) (m:=m-a) oz
 rw[Zdv,Zim,if_pos ho]at h1
 refine List.IsPrefix.trans ?_ hp
 rw[List.append_assoc]
 obtain⟨r,hr⟩:=h1
 exact⟨r,by rw[List.append_assoc,hr]⟩
theorem Zcp (ho:Zmp j (ge g.hyps k) (a+n)=false):ZbE j g step k M al a (n+1)=ZbE j g step k M al a n:=by
 rw[Zdv,Zim,if_neg (by simp[ho])]
end
def ZhY (j:Jb) (g:Fr) (step:Nat):List (List Int):=(ZaQ j g step 0 [] []).1
def ZeF (j:Jb) (step:Nat):List Chg:=if(Zw j.M (Xz (ge j.ts step))).getD 0< (step:Int)then [⟨1,step,⟨#[]⟩,[(Zw j.M (Xz (ge j.ts step))).getD 0],0,0⟩]else []
def Zpm (j:Jb) (step:Nat) (g:Fr):List Chg:=if 4<g.hyps.length then []else(ZhY j g step).map fun al=>⟨2,step,g.label,al,0,0⟩
def Zc1 (j:Jb) (step:Nat):List Chg:=(ZeF j step++(j.d.frames.take j.i).flatMap (Zpm j step)).filterMap (X0 j.ss)
def Zmr (j:Jb):List Chg:=(List.range j.ss.length).flatMap (Zc1 j)
def ZaP (ts:List (List BA)):Nat→List (BA×Int)
 | 0=>[]
 | k+1=>Xu (ZaP ts k) (Xz (ge ts (ts.length-1-k))) ((ts.length-1-k:Nat):Int)
def jbG (d:Db) (z:Int) (ss:List Stp):Jb:=⟨d,z.toNat,ss,(Ys d z ss).1,ZaP (Ys d z ss).1 (Ys d z ss).1.length⟩
theorem Zjk {d:Db} {z:Int} (ss:List Stp) (c:Chg) (h:c∈Zmr (jbG d z ss)):(XY ss c).length<ZH ss:=by
 obtain⟨s,_,h1⟩:=List.mem_flatMap.1 h
 obtain⟨c0,_,h2⟩:=List.mem_filterMap.1 h1
 unfold X0 at h2
 split at h2
 · rename_i h3
   obtain rfl:=Option.some.inj h2
   exact h3
 · cases h2
def X9 (d:Db) (z:Int) (ss:List Stp) (most:Nat):List Stp×List Chg×Int:=
 if YA d z ss=0 then ZgL (YA d z) (fun s=>Zmr (jbG d z s)) most ss []else([],[],YA d z ss)
theorem ZnG {d:Db} {z:Int} {ss:List Stp} (hs:ss.length<100) (he:(X9 d z ss 100).2.2=0):
 YA d z (X9 d z ss 100).1=0∧Zmr (jbG d z (X9 d z ss 100).1)=[]∧X9 d z (X9 d z ss 100).1 100=((X9 d z ss 100).1,[],0):=by
 have h0:YA d z ss=0:=by
  unfold X9 at he;split at he
  · assumption
  · exact he
 have h1:=Zht (YA d z) (fun s=>Zmr (jbG d z s)) (fun s c hc=>Zjk s c hc) 100 ss [] h0 (by have:=Zc5 ss;omega) (by rw[X9,if_pos h0]at he;exact he)
 have h2:X9 d z ss 100=ZgL (YA d z) (fun s=>Zmr (jbG d z s)) 100 ss []:=if_pos h0
 rw[←h2]at h1
 refine⟨h1.1,h1.2,?_⟩
 rw[X9,if_pos h1.1,ZgL]
 simp only[h1.2]
theorem Zr7 {j:Jb} (h:Zmr j=[]) {s:Nat} (hs:s<j.ss.length):Zc1 j s=[]:=
 List.flatMap_eq_nil_iff.1 h s (List.mem_range.2 hs)
def syD (d:Db) (s:BA):Prop:=s∈d.consts∨s∈d.vars
section
variable {d:Db}
theorem ZeX {s:BA} (h:Zil s=true):s.size≤60:=by
 simp only[Zil,Bool.and_eq_true,decide_eq_true_eq]at h
 omega
theorem ZgY (h:Zdw d=0):∀ s,syD d s→s.size≤60:=by
 unfold Zdw at h
 split at h
 · rename_i h2
   rw[h]at h2
   simp at h2
 · rename_i h2
   have h2:Xr d.consts.length (Zip d)=0:=by simpa using h2
   rintro s (hs | hs)
   · obtain⟨j,hj,rfl⟩:=Xe hs
     have h3:=XR h2 j hj
     unfold Zip at h3
     cases h4:Zil (ge d.consts j)with
     | true=>exact ZeX h4
     | false=>rw[h4]at h3;cases h3
   · obtain⟨j,hj,rfl⟩:=Xe hs
     have h3:=XR h j hj
     unfold Zlm at h3
     cases h4:Zil (ge d.vars j)with
     | true=>exact ZeX h4
     | false=>rw[h4]at h3;cases h3
theorem Zoj {l:List BA} (h:Za8 d l=0):∀ s∈l,syD d s:=by
 unfold Za8 Zl4 at h
 split at h
 · rename_i h1
   simp only[Bool.and_eq_true,decide_eq_true_eq,List.all_eq_true,List.mem_range,Bool.or_eq_true,ZeW]at h1
   intro s hs
   obtain⟨j,hj,rfl⟩:=Xe hs
   rcases h1.2 j hj with rfl | h2
   · exact .inl h1.1
   · exact h2
 · cases h
theorem hyp_sy {k:Nat} {y:Hy} {bs:List Hy} {dm:Bool} (h:Zn7 d k y bs dm=0):∀ s∈y.text,syD d s:=by
 have h1:=Za5 h
 unfold Zn7 at h
 split at h
 · cases h
 split at h
 · cases h
 split at h
 · cases h
 split at h
 · cases h
 rename_i h4
 cases hf:y.floating with
 | true=>
  have h5:=YG h1 hf
  simp[Zff,hf]at h4
  match y.text,h5,h4 with
  | [a,b],_,h4=>
   intro s hs
   simp only[List.mem_cons,List.not_mem_nil,or_false]at hs
   rcases hs with rfl | rfl
   · exact .inl h4.1
   · exact .inr h4.2
 | false=>
  split at h
  · rename_i h5
    rw[h]at h5
    simp at h5
  · rename_i h5
    simp only[hf,Bool.not_false,Bool.true_and,Bool.not_eq_true',decide_eq_false_iff_not,Decidable.not_not]at h5
    exact Zoj h5
theorem ZoN (h:ZcG d=0):∀ g∈d.frames,(∀ y∈g.hyps++g.dummies,∀ s∈y.text,syD d s)∧∀ s∈g.text,syD d s:=fun g hg=>by
 obtain⟨k,hk,rfl⟩:=Xe hg
 have h:=Zs0 h k hk
 unfold frE Zvu at h
 split at h
 · cases h
 split at h
 · cases h
 split at h
 · cases h
 split at h
 · rename_i h2
   rw[h]at h2
   simp at h2
 rename_i h3
 have h3:ZsN d k=0:=by simpa using h3
 split at h
 · cases h
 split at h
 · rename_i h2
   rw[h]at h2
   simp at h2
 rename_i h5
 refine⟨fun y hy=>?_,Zoj (by simpa using h5)⟩
 obtain⟨j,hj,rfl⟩:=Xe hy
 exact hyp_sy (XR h3 j hj)
theorem Zpe {p:BA→Prop} {l:List Bd} {text:List BA} (hl:∀ b∈l,∀ s∈b.text,p s) (ht:∀ s∈text,p s):∀ s∈Xb (ZO l) text,p s:=fun s hs=>by
 obtain⟨w,hw,h1⟩:=List.mem_flatMap.1 hs
 unfold XB at h1
 rw[ZdZ]at h1
 cases hf:l.find? fun b=>decide (b.var=w)with
 | none=>
  rw[hf]at h1
  obtain rfl:s=w:=by simpa using h1
  exact ht _ hw
 | some b=>
  rw[hf]at h1
  exact hl b (List.mem_of_find?_eq_some hf) s h1
theorem Zvf {p:BA→Prop} {hs:List Hy} {es:List (List BA)} {n:Nat} (hn:n≤es.length) (h:∀ t∈es,∀ s∈t,p s):∀ b∈X2 hs es 0 n,∀ s∈b.text,p s:=fun b hb s hs'=>by
 obtain⟨j,hj,h1⟩:=List.mem_filterMap.1 hb
 have hj:=List.mem_range.1 hj
 unfold Zr3 at h1
 split at h1
 · obtain rfl:=Option.some.inj h1
   rw[Nat.zero_add]at hs'
   exact h _ (Zg oz) s (List.mem_of_mem_drop hs')
 · cases h1
theorem stp_sy (hck:ZcG d=0) {i:Nat} (hi:i<d.frames.length) {s:Stp} {a:List (List BA)} (ha:∀ t∈a,∀ w∈t,syD d w) (hg:∀ x∈s.args,x.toNat<a.length):∀ w∈(Zah d i s a).1,syD d w:=by
 unfold Zah
 split
 · intro w hw;cases hw
 split
 · rename_i h he
   split
   · intro w hw;cases hw
   · exact(ZoN hck _ (Zg hi)).1 h (List.mem_of_find?_eq_some he)
 split
 · intro w hw;cases hw
 split
 · intro w hw;cases hw
 rename_i h1 h2
 have h3:=ZgE (d:=d) (i:=i) (s:=s.label) oz
 have h4:=ZoN hck _ (Zg h3.2.2)
 have h5:∀ t∈YD a s.args,∀ w∈t,syD d w:=fun t ht=>by
  obtain⟨x,hx,rfl⟩:=List.mem_map.1 ht
  exact ha _ (Zg (hg x hx))
 unfold Zbw Zlq
 split
 · rename_i t he
   split at he
   · cases he
   split at he
   · cases he
   split at he
   · cases he
   split at he
   · cases he
   · obtain rfl:=Except.ok.inj he
     exact Zpe (Zvf (by simp[YD];omega) h5) h4.2
 · intro w hw;cases hw
theorem Zut (hck:ZcG d=0) {i:Nat} (hi:i<d.frames.length) {ss:List Stp} (hok:ZeD ss):∀ k,k≤ss.length→∀ t∈fmG d i ss k,∀ w∈t,syD d w
 | 0,_=>fun t ht=>by cases ht
 | k+1,hk=>fun t ht=>by
  rw[fmG]at ht
  rcases List.mem_append.1 ht with ht | ht
  · exact Zut hck hi hok k oz t ht
  · obtain rfl:=List.mem_singleton.1 ht
    refine stp_sy hck hi (Zut hck hi hok k oz) fun x hx=>?_
    have h1:=(hok.2.2 k oz).2 x (by rw[←YL (show k<ss.length by omega)];exact hx)
    rw[Zee];omega
end
theorem Zfe {n:Nat} {sep:List UInt8}:∀ {l:List (List UInt8)},(∀ x∈l,x.length≤n)→(Lib.join l sep).length≤l.length*(n+sep.length)
 | [],_=>by simp[Lib.join]
 | [x],h=>by have:=h x yz;simp[Lib.join,List.intercalate];omega
 | x::y::l,h=>by
  have h1:=h x yz
  have h2:=Zfe (sep:=sep) (l:=y::l) fun z hz=>h z (List.mem_cons_of_mem _ hz)
  have h3:Lib.join (x::y::l) sep=x++sep++Lib.join (y::l) sep:=by simp[Lib.join,List.intercalate,List.intersperse]
  rw[h3,List.length_append,List.length_append,List.length_cons (a:=x),Nat.add_mul]
  omega
theorem ZnY {t:List BA} (h:∀ s∈t,s.size≤60):(Lib.join (t.map (·.data.toList)) (⟨#[10]⟩:BA).data.toList).length≤t.length*61:=by
 have h1:∀ x∈t.map (·.data.toList),x.length≤60:=fun x hx=>by
  obtain⟨s,hs,rfl⟩:=List.mem_map.1 hx
  exact h s hs
 have:=Zfe (sep:=(⟨#[10]⟩:BA).data.toList) h1
 simpa using this
def WkB (l:List Bd):Prop:=l.Pairwise fun a b=>Zac b.var a.var<0→False
theorem Ziy {x y:BA} (h:x.toList=y.toList):x=y:=by
 have:=cmpX_eq (x:=x) (y:=y)
 refine this.1 ?_
 unfold Zac
 rw[h,if_neg (by rw[QO];simp)]
 by_cases e:x=y
 · exact if_pos e
 · have h2:=QC x y
   simp_all
theorem Zpa:∀ {l m:List Bd},l.Perm m→(l.map Bd.var).Nodup→WkB l→WkB m→l=m
 | [],m,hp,_,_,_=>by rw[List.nil_perm.1 hp]
 | a::l,[],hp,_,_,_=>by simp at hp
 | a::l,b::m,hp,hn,hl,hm=>by
  have h1:a=b:=by
   rcases List.mem_cons.1 (hp.mem_iff.1 (List.mem_cons_self (a:=a)))with h | h
   · exact h
   · rcases List.mem_cons.1 (hp.mem_iff.2 (List.mem_cons_self (a:=b)))with h2 | h2
     · exact h2.symm
     · have h3:=(List.pairwise_cons.1 hl).1 b h2
       have h4:=(List.pairwise_cons.1 hm).1 a h
       rw[cmpX_lt]at h3 h4
       have h5:=Ziy (Zbq _ _ (by simpa using h4) (by simpa using h3))
       rw[List.map_cons,List.nodup_cons]at hn
       exact absurd (List.mem_map_of_mem (f:=Bd.var) h2) (by rw[←h5];exact hn.1)
  subst h1
  rw[List.map_cons,List.nodup_cons]at hn
  rw[Zpa (hp.cons_inv) hn.2 (List.pairwise_cons.1 hl).2 (List.pairwise_cons.1 hm).2]
theorem bdO_tr (a b c:Bd) (h1:bdO a b=true) (h2:bdO b c=true):bdO a c=true:=by
 simp only[bdO,Bool.not_eq_true']at h1 h2 ⊢
 cases h3:Op.bytesLess c.var.toList a.var.toList with
 | false=>rfl
 | true=>
  rcases hb:Op.bytesLess b.var.toList c.var.toList with _ | _
  · have:=Zbq _ _ hb h2
    rw[this]at h1
    rw[h1]at h3;cases h3
  · have:=ZaO _ _ _ hb h3
    rw[h1]at this;cases this
theorem Zvh (a b:Bd):(bdO a b||bdO b a)=true:=by
 simp only[bdO]
 cases h1:Op.bytesLess b.var.toList a.var.toList with
 | false=>simp
 | true=>
  cases h2:Op.bytesLess a.var.toList b.var.toList with
  | false=>simp
  | true=>have:=ZaO _ _ _ h1 h2;rw[QO]at this;cases this
theorem ZhA (M:BM):(YO M).Perm (M.map fun q=>(⟨q.1,q.2⟩:Bd)):=List.mergeSort_perm _ _
theorem Zt5 (M:BM):WkB (YO M):=by
 have:=List.pairwise_mergeSort (le:=bdO) bdO_tr Zvh (M.map fun q=>(⟨q.1,q.2⟩:Bd))
 refine this.imp fun {a b} h h2=>?_
 rw[cmpX_lt]at h2
 simp[bdO,h2]at h
theorem Zt6 {M:BM} {qs:List Bd} (hn:(M.map Prod.fst).Nodup) (hp:qs.Perm (M.map fun q=>(⟨q.1,q.2⟩:Bd))) (hw:WkB qs):qs=YO M:=by
 refine Zpa (hp.trans (ZhA M).symm) ?_ hw (Zt5 M)
 have h1:=(hp.map Bd.var).nodup_iff
 rw[h1,List.map_map]
 exact hn
def ZeN {α:Type} [Inhabited α] (xs:List α):List (Nat×α):=(List.range xs.length).map fun k=>(xs.length-1-k,ge xs (xs.length-1-k))
section
variable {α:Type} [Inhabited α] {xs:List α} {k:Nat} {pre:List (Nat×α)} {x:Nat×α}
theorem ZhZ:(ZeN xs).length=xs.length:=by simp[ZeN]
theorem Zjr (h:k<xs.length):(ZeN xs).take k++[(xs.length-1-k,ge xs (xs.length-1-k))]=(ZeN xs).take (k+1):=by
 rw[List.take_succ_eq_append_getElem (by rw[ZhZ];exact h)]
 simp[ZeN]
theorem Zs1 (h:k<xs.length):(ZeN xs).take k++[(xs.length-1-k,ge xs (xs.length-1-k))]<+:ZeN xs:=by
 rw[Zjr h];exact List.take_prefix _ _
theorem Zs2:(ZeN xs).take xs.length=ZeN xs:=List.take_of_length_le (by rw[ZhZ];exact Nat.le_refl _)
theorem bw_at (h:(pre++[x])<+:ZeN xs):pre.length<xs.length∧x.1=xs.length-1-pre.length∧x.2=ge xs x.1:=by
 obtain⟨r,hr⟩:=h
 have h1:pre.length< (ZeN xs).length:=by rw[←hr];simp
 rw[ZhZ]at h1
 have h2:(ZeN xs)[pre.length]?=some x:=by rw[←hr,List.append_assoc,List.getElem?_append_right nlr];simp
 have h3:(ZeN xs)[pre.length]?=some (xs.length-1-pre.length,ge xs (xs.length-1-pre.length)):=by
  simp[ZeN,h1]
 rw[h3]at h2
 obtain rfl:=Option.some.inj h2
 exact⟨h1,rfl,rfl⟩
end
section
variable {ss:List Stp} {k q:Nat} {m:List Bool} {to:List Int} {al:List Int}
theorem Zt4 (h:q<al.length):(Zf8 m (al.take q)).set (ge al q).toNat true=Zf8 m (al.take (q+1)):=by
 rw[Zf8,Zf8,Zec h]
theorem ZsL (h:ge m k=true) (hq:q=(ge ss k).args.length):Zf8 m ((ge ss k).args.take q)=Zhw ss m k:=by
 rw[Zhw,if_pos h,hq,List.take_length]
theorem ms_no (h:ge m k=false):Zhw ss m k=m:=by rw[Zhw,if_neg (by simp[h])]
theorem ZoH (h:k<m.length):ZeM (m.take (k+1))=ZeM (m.take k)+(if ge m k then 1 else 0):=by
 rw[ZeM,ZeM,ZZ h,List.filter_append,List.length_append]
 cases ge m k<;>simp
theorem cn_all (h:k=m.length):ZeM (m.take k)=ZeM m:=by rw[h,List.take_length]
theorem ZtF (h:q<al.length):Zg8 to (al.take q)++[ge to (ge al q).toNat]=Zg8 to (al.take (q+1)):=by
 rw[Zg8,Zg8,ZZ h,List.map_append];rfl
theorem pk_no (h:ge m k=false):QU ss m (k+1)=QU ss m k:=by rw[QU,if_neg (by simp[h])]
theorem Zsv (h:ge m k=true):QU ss m (k+1)=((QU ss m k).1.set k ((QU ss m k).2.length:Int),(QU ss m k).2++[⟨(ge ss k).label,Zg8 ((QU ss m k).1.set k ((QU ss m k).2.length:Int)) (ge ss k).args⟩]):=by rw[QU,if_pos h]
theorem Zsw (ss:List Stp) (m:List Bool):∀ k,(QU ss m k).1.length=ss.length∧(QU ss m k).2.length≤k
 | 0=>by simp[QU]
 | k+1=>by
  have:=Zsw ss m k
  rw[QU];split
  · simp;omega
  · omega
end
theorem Zf1 {ss:List Stp} (h:ZeD ss) {k:Nat} {s:Stp} (hs:s.args.length≤40∧∀ a∈s.args,0≤a∧a< (k:Int)):ZeD (ss.set k s):=by
 refine⟨by simpa using h.1,by simpa using h.2.1,fun i hi=>?_⟩
 rw[List.getElem_set]
 split
 · rename_i e;subst e;exact hs
 · exact h.2.2 i (by simpa using hi)
theorem Zqj {ss:List Stp} (h:ZeD ss) {f:Stp→Stp} (hf:∀ i (hi:i<ss.length),(f ss[i]).args.length≤40∧∀ a∈(f ss[i]).args,0≤a∧a< (i:Int)):ZeD (ss.map f):=by
 refine⟨by simpa using h.1,by simpa using h.2.1,fun i hi=>?_⟩
 rw[List.getElem_map]
 exact hf i (by simpa using hi)
theorem ZdW {ss:List Stp} (h:ZeD ss) {k:Nat} (h0:1≤k):ZeD (ss.take k):=by
 have h1:=h.1
 have h2:=h.2.1
 refine⟨by rw[List.length_take];omega,by rw[List.length_take];omega,fun i hi=>?_⟩
 rw[List.getElem_take]
 exact h.2.2 i (by rw[List.length_take]at hi;omega)
theorem ZlU {ss:List Stp} (h:ZeD ss) {c:Chg} (h0:0≤ge c.args 0) (h1:ge c.args 0<c.step):ZeD (ss.map (ZbV c)):=by
 refine Zqj h fun i hi=>?_
 obtain⟨h2,h3⟩:=h.2.2 i hi
 refine⟨by simpa [ZbV]using h2,fun a ha=>?_⟩
 obtain⟨b,hb,rfl⟩:=List.mem_map.1 ha
 have h4:=h3 b hb
 split
 · rename_i e;omega
 · exact h4
def wVd:BA:=⟨#[124,45]⟩
def wA (c:UInt8):BA:=⟨#[c]⟩
def exF (label to:UInt8) (fr:List UInt8) (thm:Bool):Fr:=⟨wA label,thm,fr.map fun s=>⟨⟨#[label,s]⟩,false,[wVd,wA s]⟩,[],[wVd,wA to],[],[],[]⟩
def exDb:Db:=⟨[wVd,wA 112,wA 113,wA 114],[],[exF 97 112 [] false,exF 98 113 [112] false,exF 99 114 [113] false,exF 100 113 [114] false,exF 116 113 [] true]⟩
def ZgM:List Stp:=[⟨wA 97,[]⟩,⟨wA 98,[0]⟩,⟨wA 99,[1]⟩,⟨wA 100,[2]⟩]
theorem ex_chk:Zfx exDb 4 ZgM=0:=by decide+kernel
theorem ZsU:Ys exDb 4 ZgM=([[wVd,wA 112],[wVd,wA 113],[wVd,wA 114],[wVd,wA 113]],(0,0)):=by decide+kernel
theorem ZqV:YA exDb 4 ZgM=0:=by rw[YA,if_pos ex_chk,ZsU];rfl
theorem ZuD:ZeF (jbG exDb 4 ZgM) 3=[⟨1,3,⟨#[]⟩,[1],0,0⟩]:=by
 have h:(Zw (jbG exDb 4 ZgM).M (Xz (ge (jbG exDb 4 ZgM).ts 3))).getD 0=1:=by
  simp only[jbG,ZsU];decide+kernel
 rw[ZeF,h];rfl
theorem ZuE:X0 ZgM ⟨1,3,⟨#[]⟩,[1],0,0⟩=some ⟨1,3,⟨#[]⟩,[1],4,2⟩:=by
 have h1:ZH ZgM=4:=by decide+kernel
 have h2:(XY ZgM ⟨1,3,⟨#[]⟩,[1],0,0⟩).length=2:=by decide+kernel
 rw[X0,ZbI,h1,h2];rfl
theorem ex_law:∃ l,Zc1 (jbG exDb 4 ZgM) 3=⟨1,3,⟨#[]⟩,[1],4,2⟩::l:=by
 have h:X0 (jbG exDb 4 ZgM).ss ⟨1,3,⟨#[]⟩,[1],0,0⟩=some ⟨1,3,⟨#[]⟩,[1],4,2⟩:=ZuE
 rw[Zc1,ZuD,List.singleton_append,List.filterMap_cons,h]
 exact⟨_,rfl⟩
section
variable {ts:List (List BA)} {s:BA} {z:Int} {i:Nat}
theorem Zos:∀ k,k≤ts.length→∀ z,Zw (ZaP ts k) s=some z→ts.length-k≤z.toNat∧0≤z∧z< (ts.length:Int)∧Xz (ge ts z.toNat)=s∧∀ j,ts.length-k≤j→j<z.toNat→Xz (ge ts j)≠s
 | 0,_,z,h=>by cases h
 | k+1,hk,z,h=>by
  rw[ZaP,Qv]at h
  split at h
  · rename_i e
    obtain rfl:=Option.some.inj h
    refine⟨oz,oz,oz,?_,fun j h1 h2=>by omega⟩
    rw[e];rfl
  · rename_i e
    obtain⟨h1,h2,h3,h4,h5⟩:=Zos k oz z h
    refine⟨oz,h2,h3,h4,fun j h6 h7=>?_⟩
    by_cases h8:j=ts.length-1-k
    · rw[h8];exact fun e2=>e e2.symm
    · exact h5 j oz h7
theorem ZkL:∀ k,k≤ts.length→∀ i,ts.length-k≤i→i<ts.length→∃ z,Zw (ZaP ts k) (Xz (ge ts i))=some z∧z≤(i:Int)
 | 0,_,i,h1,h2=>by omega
 | k+1,hk,i,h1,h2=>by
  rw[ZaP]
  by_cases e:Xz (ge ts i)=Xz (ge ts (ts.length-1-k))
  · exact⟨_,by rw[Qv,if_pos e],oz⟩
  · have h3:¬ i=ts.length-1-k:=fun h=>e (by rw[h])
    obtain⟨z,hz,hl⟩:=ZkL k oz i oz h2
    exact⟨z,by rw[Qv,if_neg e];exact hz,hl⟩
theorem ZsT (h:Zw (ZaP ts ts.length) s=some z):0≤z∧z< (ts.length:Int)∧Xz (ge ts z.toNat)=s∧∀ j,j<z.toNat→Xz (ge ts j)≠s:=by
 obtain⟨_,h2,h3,h4,h5⟩:=Zos ts.length nlr z h
 exact⟨h2,h3,h4,fun j hj=>h5 j oz hj⟩
theorem ZuC (h:i<ts.length):∃ z,Zw (ZaP ts ts.length) (Xz (ge ts i))=some z∧0≤z∧z≤(i:Int):=by
 obtain⟨z,hz,hl⟩:=ZkL ts.length nlr i oz h
 exact⟨z,hz,(ZsT hz).1,hl⟩
end
section
variable {j:Jb} {hs:List Hy} {step t:Nat} {h:Hy} {M:BM}
theorem ZmX (hm:∀ s z,Zw j.M s=some z→0≤z):(ZaC j hs step h M).2≤step:=by
 unfold ZaC
 split
 · split
   · split
     · split
       · rename_i z he h1
         have:=hm _ _ he
         dsimp only;omega
       · exact Nat.zero_le _
     · exact Nat.zero_le _
   · exact Nat.zero_le _
 · exact Nat.le_refl _
end
section
variable {hs:List Hy} {es:List (List BA)} {w:BA} {i k:Nat}
theorem Zgf:∀ k,((gvM hs es k).map Prod.fst).Nodup
 | 0=>List.nodup_nil
 | k+1=>by
  have ih:=Zgf k
  rw[gvM]
  split
  · have h:=Zhs (gvM hs es k) (ge (ge hs k).text 1) ((ge es k).drop 1)
    rw[show(fun x:BA×List BA=>x.1)=Prod.fst from rfl]at h
    rw[h]
    split
    · exact ih
    · rename_i h1
      rw[List.nodup_append]
      exact⟨ih,by simp,fun a ha b hb e=>h1 (by rw[←List.mem_singleton.1 hb,←e];exact ha)⟩
  · exact ih
end
section
variable {j:Jb} {g:Fr} {step:Nat}
theorem ZjK (hm:∀ s z,Zw j.M s=some z→0≤z):∀(hs:List Hy) (M:BM) (al:List Int),(∀ a∈al,0≤a∧a< (step:Int))→∀ x∈(ZgK j g step hs M al).1,ZeB j g x step=true∧x.length=al.length+hs.length∧∀ a∈x,0≤a∧a< (step:Int)
 | [],M,al,ha,x,hx=>by
  rw[ZgK]at hx
  split at hx
  · split at hx
    · rename_i h
      obtain rfl:=List.mem_singleton.1 hx
      exact⟨h,rfl,ha⟩
    · cases hx
  · cases hx
 | h::hs,M,al,ha,x,hx=>by
  rw[ZgK]at hx
  split at hx
  · have key:∀(l:List Nat) (q:List (List Int)×BM),(∀ t∈l,t<step)→(∀ x∈q.1,ZeB j g x step=true∧x.length=al.length+(h::hs).length∧∀ a∈x,0≤a∧a< (step:Int))→
     ∀ x∈(l.foldl (Zim (ZgK j g step hs) j h al) q).1,ZeB j g x step=true∧x.length=al.length+(h::hs).length∧∀ a∈x,0≤a∧a< (step:Int):=by
     intro l
     induction l with
     | nil=>exact fun q _ hq=>hq
     | cons t l ih=>
      intro q hl hq
      refine ih _ (fun b hb=>hl b (List.mem_cons_of_mem _ hb)) ?_
      unfold Zim
      split
      · intro x hx
        rcases List.mem_append.1 hx with hx | hx
        · exact hq x hx
        · have ht:=hl t yz
          obtain⟨h1,h2,h3⟩:=ZjK hm hs _ (al++[(t:Int)]) (fun a ha'=>by
           rcases List.mem_append.1 ha' with ha' | ha'
           · exact ha a ha'
           · rw[List.mem_singleton.1 ha'];omega) x hx
          refine⟨h1,?_,h3⟩
          simp only[List.length_append,List.length_cons,List.length_nil]at h2 ⊢;omega
      · exact hq
    refine key _ _ (fun t ht=>?_) (fun x hx=>by cases hx) x hx
    have h1:=ZmX (j:=j) (hs:=g.hyps) (step:=step) (h:=h) (M:=M) hm
    have h2:=List.mem_range'_1.1 ht
    omega
  · cases hx
theorem ZkU (hm:∀ s z,Zw j.M s=some z→0≤z) {x:List Int} (h:x∈ZhY j g step):ZeB j g x step=true∧x.length=g.hyps.length∧∀ a∈x,0≤a∧a< (step:Int):=by
 have:=ZjK hm _ _ [] (fun a ha=>by cases ha) x h
 simpa using this
end
structure JbOk (j:Jb):Prop where
 chk:ZcG j.d=0
 at':j.i<j.d.frames.length
 len:j.ts.length=j.ss.length
 ne:∀ t∈j.ts,t≠[]
 sy:∀ t∈j.ts,∀ w∈t,syD j.d w
 fir:j.M=ZaP j.ts j.ts.length
section
variable {d:Db} {z:Int} {ss:List Stp}
theorem ZaE (h:YA d z ss=0):Zfx d z ss=0∧(Ys d z ss).2.1=0:=by
 unfold YA at h
 split at h
 · rename_i h1
   split at h
   · rename_i h2;exact⟨h1,h2⟩
   · cases h
 · rename_i h1;exact absurd h h1
theorem Zn2 (h:YA d z ss=0):JbOk (jbG d z ss)∧ZeD ss:=by
 obtain⟨h1,h2⟩:=ZaE h
 obtain⟨ha,hf⟩:=Zer h1
 have hok:=(Zfj ss).1 hf
 obtain⟨hck,hz0,hz1⟩:=Zcj ha
 have hi:z.toNat<d.frames.length:=by omega
 have h3:Ys d z ss=Zpz d z.toNat ss:=if_pos h1
 have h4:∀ q,q<ss.length→erG d z.toNat ss q=0:=by
  rw[h3]at h2
  unfold Zpz at h2
  split at h2
  · rename_i k hk
    have h5:=List.find?_some hk
    exact absurd h2 (of_decide_eq_true h5)
  · rename_i hk
    intro q hq
    have h5:=List.find?_eq_none.1 hk q (List.mem_range.2 hq)
    simpa using h5
 have h5:(Ys d z ss).1=fmG d z.toNat ss ss.length:=by rw[h3,ZjI h4]
 have h6:=Zgg hck hi ss.length (fun q hq=>h4 q hq)
 refine⟨⟨hck,hi,?_,fun t ht e=>?_,?_,rfl⟩,hok⟩
 · show(Ys d z ss).1.length=ss.length
   rw[h5,Zee]
 · have ht:t∈fmG d z.toNat ss ss.length:=by rw[←h5];exact ht
   have:=(h6 t ht).1
   rw[e]at this;cases this
 · intro t ht
   have ht:t∈fmG d z.toNat ss ss.length:=by rw[←h5];exact ht
   exact Zut hck hi hok ss.length nlr t ht
end
instance instDecStpM:DecidableEq Stp:=fun s t=>if h:s.label=t.label∧s.args=t.args then .isTrue (by cases s;cases t;simp_all)else .isFalse fun e=>h (by rw[e];exact⟨rfl,rfl⟩)
section
variable {ss:List Stp} {pre:List (Nat×Stp)} {x:Nat×Stp} {ys:List Bool}
theorem Zf5 (hm:ys=Zcy ss pre.length) (_:pre.length<ss.length) (h2:x.1=ss.length-1-pre.length):Zhw ss ys x.1=Zcy ss (pre++[x]).length:=by
 rw[List.length_append,List.length_singleton,h2,hm];rfl
end
def Zin {α:Type} (f:α→α) (l:List α) (q:Nat):List α:=(l.take q).map f++l.drop q
section
variable {α:Type} [Inhabited α] {f:α→α} {l:List α} {q:Nat}
omit [Inhabited α]in
theorem mf_zero:Zin f l 0=l:=by simp[Zin]
omit [Inhabited α]in
theorem ZsK (h:q=l.length):Zin f l q=l.map f:=by simp[Zin,h]
omit [Inhabited α]in
theorem ZnK:(Zin f l q).length=l.length:=by simp[Zin];omega
theorem Zt2 (h:q<l.length):ge (Zin f l q) q=ge l q:=by
 have h1:((l.take q).map f).length=q:=by simp;omega
 simp only[ge,Zin,List.getD_eq_getElem?_getD]
 rw[List.getElem?_append_right oz,h1,Nat.sub_self,List.getElem?_drop,Nat.add_zero]
theorem Zf7 (h:q<l.length):(Zin f l q).set q (f (ge l q))=Zin f l (q+1):=by
 have h1:((l.take q).map f).length=q:=by simp;omega
 rw[Zin,Zin,List.set_append_right _ _ oz,h1,Nat.sub_self,List.drop_eq_getElem_cons h,List.set_cons_zero,ZZ h,List.map_append,List.append_assoc]
 rfl
theorem ZnJ (h:q<l.length) (e:f (ge l q)=ge l q):Zin f l q=Zin f l (q+1):=by
 have h1:=Zf7 (f:=f) h
 rw[←h1,e,←Zt2 (f:=f) h,YL (by rw[ZnK];exact h),List.set_getElem_self]
end
def Zvr (c:Chg) (a:Int):Int:=if a=c.step then ge c.args 0 else a
theorem ZpE (c:Chg) (s:Stp):(⟨s.label,s.args.map (Zvr c)⟩:Stp)=ZbV c s:=rfl

section
variable {hs:List Hy} {M:BM} {p t p0 t0:List BA} {k:Nat}
theorem bgI (f:Xt hs M p0 t0=Xt hs M (p.drop k) t) (hk:k<p.length) (h:(((Zw M (ge p k)).isSome&&decide (((((Zw M (ge p k)).getD default).length:Nat):Int)≤((t.length:Nat):Int)))&&decide (((Zw M (ge p k)).getD default)=t.take ((Zw M (ge p k)).getD default).length))=true):
 Xt hs M p0 t0=Xt hs M (p.drop (k+1)) (t.drop ((Zw M (ge p k)).getD default).length):=by
 simp only[Bool.and_eq_true,decide_eq_true_eq]at h
 obtain⟨⟨h1,h2⟩,h3⟩:=h
 obtain⟨y,hy⟩:=Option.isSome_iff_exists.1 h1
 rw[hy]at h2 h3 ⊢
 simp only[Option.getD_some]at h2 h3 ⊢
 exact bg_in f hk hy oz h3
theorem bgN (f:Xt hs M p0 t0=Xt hs M (p.drop k) t) (hk:k<p.length) (h:(((Zw M (ge p k)).isSome&&decide (((((Zw M (ge p k)).getD default).length:Nat):Int)≤((t.length:Nat):Int)))&&decide (((Zw M (ge p k)).getD default)=t.take ((Zw M (ge p k)).getD default).length))=false) (hs1:(Zw M (ge p k)).isSome=true):
 Xt hs M p0 t0=(false,false):=by
 obtain⟨y,hy⟩:=Option.isSome_iff_exists.1 hs1
 rw[hy]at h
 simp only[Option.isSome_some,Option.getD_some,Bool.true_and,Bool.and_eq_false_iff,decide_eq_false_iff_not]at h
 exact bg_no f hk hy fun h9=>by rcases h with h | h;exact h oz;exact h h9.2
theorem bgF (f:Xt hs M p0 t0=Xt hs M (p.drop k) t) (hk:k<p.length) (hs1:(Zw M (ge p k)).isSome=false) (hf:Zkz hs (ge p k)=true):Xt hs M p0 t0=(true,false):=
 bg_fl f hk (by simpa using hs1) hf
theorem bgE (f:Xt hs M p0 t0=Xt hs M (p.drop k) t) (hk:k<p.length) (hs1:(Zw M (ge p k)).isSome=false) (hf:Zkz hs (ge p k)=false) (h:(decide (((t.length:Nat):Int)=(0:Int))|| !decide (ge t 0=ge p k))=true):Xt hs M p0 t0=(false,false):=
 bg_ne f hk (by simpa using hs1) hf (by simp only[Bool.or_eq_true,decide_eq_true_eq,Bool.not_eq_true',decide_eq_false_iff_not]at h;rcases h with h | h;exact .inl oz;exact .inr h)
theorem bgS (f:Xt hs M p0 t0=Xt hs M (p.drop k) t) (hk:k<p.length) (hs1:(Zw M (ge p k)).isSome=false) (hf:Zkz hs (ge p k)=false) (h:(decide (((t.length:Nat):Int)=(0:Int))|| !decide (ge t 0=ge p k))=false):Xt hs M p0 t0=Xt hs M (p.drop (k+1)) (t.drop 1):=
 bg_eq f hk (by simpa using hs1) hf (by simp only[Bool.or_eq_false_iff,decide_eq_false_iff_not,Bool.not_eq_false',decide_eq_true_eq]at h;rintro(h9 | h9);exact h.1 oz;exact h9 h.2)
end

section
variable {M:BM} {vis:List BA}
theorem Zt8 {k:BA} (h1:vis.Nodup) (h2:∀ q∈vis,q∈M.map (·.1)) (h3:k∉vis∧(Zw M k).isSome=true):M.length-(vis++[k]).length<M.length-vis.length:=by
 have hk:k∈M.map (·.1):=by have:=h3.2;rw[YU]at this;simpa using this
 have hn:(vis++[k]).Nodup:=by
  rw[List.nodup_append]
  exact⟨h1,by simp,fun x hx y hy e=>by rw[List.mem_singleton.1 hy]at e;subst e;exact h3.1 hx⟩
 have:=Q0 (ys:=M.map (·.1)) hn fun x hx=>by
  rcases List.mem_append.1 hx with h | h
  · exact h2 x h
  · rw[List.mem_singleton.1 h];exact hk
 simp at this ⊢
 omega
theorem ZsO (h1:vis.Nodup) (h2:∀ q∈vis,q∈M.map (·.1)):vis.length≤M.length:=by
 have:=Q0 (ys:=M.map (·.1)) h1 h2
 simpa using this
theorem ls_get {s:BA} {t:List BA} (hn:(M.map Prod.fst).Nodup) (h:(s,t)∈M):Zw M s=some t:=by
 induction M with
 | nil=>cases h
 | cons p M ih=>
  rw[List.map_cons,List.nodup_cons]at hn
  rw[Xo]
  rcases List.mem_cons.1 h with e | h
  · rw[←e];simp
  · rw[if_neg (fun e=>hn.1 (by rw[←e];exact List.mem_map_of_mem (f:=Prod.fst) h))]
    exact ih hn.2 h
theorem ls_eq (hn:(M.map Prod.fst).Nodup):M.map (fun q=>(⟨q.1,q.2⟩:Bd))=(M.map Prod.fst).map fun s=>(⟨s,(Zw M s).getD default⟩:Bd):=by
 rw[List.map_map]
 refine List.map_congr_left fun q hq=>?_
 show(⟨q.1,q.2⟩:Bd)=⟨q.1,(Zw M q.1).getD default⟩
 rw[ls_get hn (t:=q.2) hq];rfl
theorem Zt7 (hn:(M.map Prod.fst).Nodup) (h1:vis.Nodup) (h2:∀ q∈vis,q∈M.map (·.1)) (h3:∀ k,(Zw M k).isSome=true→k∈vis):(vis.map fun s=>(⟨s,(Zw M s).getD default⟩:Bd)).Perm (M.map fun q=>(⟨q.1,q.2⟩:Bd)):=by
 rw[ls_eq hn]
 refine List.Perm.map _ ?_
 refine List.perm_iff_count.2 fun s=>?_
 have e1:=List.Nodup.count h1 (a:=s)
 have e2:=List.Nodup.count hn (a:=s)
 rw[e1,e2]
 have:s∈vis↔s∈M.map Prod.fst:=⟨h2 s,fun h=>h3 s (by rw[YU];simpa using h)⟩
 simp only[this]
end

section
variable {j:Jb} {g:Fr} {al:List Int} {step k:Nat}
theorem Zuk (hk:k<g.hyps.length) (h:Zda g.hyps (YD j.ts al) 0 k=false):ZeB j g al step=false:=by
 have:(List.range g.hyps.length).all (Zda g.hyps (YD j.ts al) 0)=false:=by
  rw[List.all_eq_false]
  exact⟨k,List.mem_range.2 hk,by simp[h]⟩
 simp[ZeB,this]
theorem Zul (hk:k<g.hyps.length) (h:ZqF g.hyps (gvM g.hyps (YD j.ts al) g.hyps.length) (YD j.ts al) k=false):ZeB j g al step=false:=by
 have:(List.range g.hyps.length).all (ZqF g.hyps (gvM g.hyps (YD j.ts al) g.hyps.length) (YD j.ts al))=false:=by
  rw[List.all_eq_false]
  exact⟨k,List.mem_range.2 hk,by simp[h]⟩
 simp[ZeB,this]
theorem Zum (h:(Xt g.hyps (gvM g.hyps (YD j.ts al) g.hyps.length) g.text (ge j.ts step)).1=false):ZeB j g al step=false:=by simp[ZeB,h]
theorem gvx_ok (h1:∀ k,k<g.hyps.length→Zda g.hyps (YD j.ts al) 0 k=true) (h2:∀ k,k<g.hyps.length→ZqF g.hyps (gvM g.hyps (YD j.ts al) g.hyps.length) (YD j.ts al) k=true) (h3:(Xt g.hyps (gvM g.hyps (YD j.ts al) g.hyps.length) g.text (ge j.ts step)).1=true):
 ZeB j g al step= !ZeO (YO (gvM g.hyps (YD j.ts al) g.hyps.length)) g.apart j.d.vars (ge j.d.frames j.i).wide:=by
 have e1:(List.range g.hyps.length).all (Zda g.hyps (YD j.ts al) 0)=true:=List.all_eq_true.2 fun k hk=>h1 k (List.mem_range.1 hk)
 have e2:(List.range g.hyps.length).all (ZqF g.hyps (gvM g.hyps (YD j.ts al) g.hyps.length) (YD j.ts al))=true:=List.all_eq_true.2 fun k hk=>h2 k (List.mem_range.1 hk)
 simp[ZeB,e1,e2,h3]
theorem Zf6 {L:BM} {k:BA} {v:List BA} {q:BA×List BA} (h:q∈Xu L k v):q∈L∨q.1=k∧q.2=v:=by
 induction L with
 | nil=>
  obtain rfl:=List.mem_singleton.1 h
  exact .inr ⟨rfl,rfl⟩
 | cons p L ih=>
  rw[Xu]at h
  split at h
  · rename_i e
    rcases List.mem_cons.1 h with rfl | h
    · exact .inr ⟨e.symm,rfl⟩
    · exact .inl (List.mem_cons_of_mem _ h)
  · rcases List.mem_cons.1 h with rfl | h
    · exact .inl List.mem_cons_self
    · rcases ih h with h | h
      · exact .inl (List.mem_cons_of_mem _ h)
      · exact .inr h
theorem Zql {L:BM} {k:BA} {v:List BA}:(Xu L k v).length≤L.length+1:=by
 induction L with
 | nil=>simp[Xu]
 | cons p L ih=>rw[Xu];split<;>simp;omega
theorem Zod {hs:List Hy} {es:List (List BA)}:∀ k,(gvM hs es k).length≤k
 | 0=>Nat.le_refl _
 | k+1=>by
  have h1:=Zod (hs:=hs) (es:=es) k
  rw[gvM];split
  · exact Nat.le_trans Zql oz
  · omega
theorem Zi5 {hs:List Hy} {es:List (List BA)} {p:List BA→Prop} (hp:∀ t∈es,p (t.drop 1)) (hl:es.length=hs.length):∀ k,k≤hs.length→∀ q∈gvM hs es k,p q.2∧∃ h∈hs,h.floating=true∧q.1=ge h.text 1
 | 0,_,q,h=>by cases h
 | k+1,hk,q,h=>by
  rw[gvM]at h
  split at h
  · rename_i hf
    rcases Zf6 h with h | ⟨h1,h2⟩
    · exact Zi5 hp hl k oz q h
    · exact⟨by rw[h2];exact hp _ (Zg oz),ge hs k,Zg oz,hf,h1⟩
  · exact Zi5 hp hl k oz q h
theorem ZnN {M:BM} {p:List BA→Prop} (h:∀ q∈M,p q.2):∀ b∈YO M,p b.text:=fun b hb=>by
 obtain⟨q,hq,rfl⟩:=List.mem_map.1 ((ZhA M).mem_iff.1 hb)
 exact h q hq
end
end Go.Proofs.YtdfadihhfppjaaaGreatDoor
set_option maxHeartbeats 8000000
set_option maxRecDepth 100000
namespace Go.Proofs.YtdfadihhfppjaaaGreatDoor
open Go.Proofs.Tryz (prog)
open Go.RowKit
theorem Zco:prog.underlying 122=some (.slice 4):=by kernel_rfl
theorem ZuT:Zj prog 89:=Zn Tryz.func89 rfl rfl
theorem Zpu:Zsa prog 88 2:=⟨(#[.string ⟨#[]⟩,.slice none 0 0]),rfl,by kernel_rfl⟩
theorem ZrT:Zj prog 115:=Zn Tryz.func115 rfl rfl
theorem Znw {J:WP} (hJ:Stab J) (xs:List Stp) (hxl:xs.length≤1000000):Zpp prog J 115 [] [.ptr [ZQ xs]] (fun x9=>[.int (x9.1:Nat),.agg (spC x9.2)]) (ZeN xs) (none):=by
 refine Zb9 (N:=19) Tryz.func115 rfl rfl (lb rfl) fun S w0 R l κ μ σ I pv O3 O4 k0 hS hJ0 hH hY=>?_
 refine YT (B:=So J S w0 19 (I ([]) k0++R) [(0,.rd (.lit ((.func (.yield l) #[] #[])))),(1,.ptr [ZQ xs])]) ?_ fun a w h=>h
 refine Zh (YR tb hJ [0,1,1000,1003] [_,.int (xs.length:Nat),.int (((xs.length:Nat):Int)-(1:Int)),_] [1,2] [_,_,_,_] rfl ⟨Ym Z1,ZsP,trivial⟩ ?_)
 refine kw (sa 3 rfl (congrArg AV.int (show((xs.length:Nat):Int)-(1:Int)=((xs.length:Nat):Int)-1-((0:Nat):Int)from by simp))) (nx (ln 2 fun hl1=>?_))
 refine Ze (lpo (ι:=Nat×(List (Nat×Stp))×κ) (fun(k,pre,_)=>(k≤xs.length)∧(pre=(ZeN xs).take k)) (fun(_,pre,kk)=>(I pre kk++R)) (fun(k,_,_)=>[(3,.int (((xs.length:Nat):Int)-1-((k:Nat):Int)))]) (fun(k,_,_)=>xs.length-k) [0,1,3] [_,_] (0,[],k0) ⟨nzl,rfl⟩ ?_)
 rintro⟨k,pre,kk⟩ ⟨f1_1,f1_2⟩
 refine Zh (qso tb hJ [0,1,2,1001] [_,_] [_,_,_,_] ?_)
 refine cj 3 (fun hb1=>?_) fun hb1=>?_
 ·
  try simp at hb1
  refine tw (sa 2 rfl (show(.int (((xs.length:Nat):Int)-1-((k:Nat):Int)):AV)= .int (xs.length-1-k:Nat)from congrArg AV.int oz)) (Zc (nx (Zh (Ze (tsq ?_)))))
  refine snK 4 tb rfl (sy (.ptr (spC ((ge xs (xs.length-1-k))))) (fun h=>ZU (i:=((xs.length-1-k:Nat):Int)) Z3 rfl (h.get 1 rfl) (h.get 0 rfl) nnn (Z0 (xs:=xs) (k:=xs.length-1-k) (by first | omega | (simp;omega) | grind[Zg])) rfl h.x) ?_)
  refine snK 1 tb rfl (ZfI (O:=I pre kk) (R:=R) (xs:=[_,_]) (avl:=[.int ((xs.length-1-k,(ge xs (xs.length-1-k))).1:Nat),.agg (spC ((xs.length-1-k,(ge xs (xs.length-1-k))).2))]) rfl rfl rfl rfl (lb rfl) (fun a w h=>((h.get 5 rfl)).lit) (fun a w h=>Za (h.get 4 rfl) (Za (h.get 0 rfl) Zd)) (fun m' R' w1 vs hk hx hv=>hY m' R' pre ((xs.length-1-k,(ge xs (xs.length-1-k)))) kk w1 vs (by rw[f1_2];exact Zs1 oz) hk hx hv) (fun q=>ZqC q) (fun s1=>?_) (fun z2=>?_))
  ·
   refine snK 1 tb rfl (seK [0,8,9,10] [_,_,_,_] rfl ?_)
   refine nx (cj 0 (fun hb2=>?_) fun hb2=>?_)
   ·
    try simp at hb2
    exact Zv (fun a w h=>Zkx s1 rfl h)
   ·
    exact False.elim (by simp at hb2)
  refine snK 1 tb rfl (seK [0,8,9,10] [_,_,_,_] rfl ?_)
  refine nx (cj 0 (fun hb2=>?_) fun hb2=>?_)
  ·
   exact False.elim (by simp at hb2)
  ·
   try simp at hb2
   refine Zc (nx (YR tb hJ [1,2,1002] [_,.int (((xs.length-1-k:Nat):Int)-(1:Int)),_] [1] [_,_,_] rfl ⟨ZsP,trivial⟩ ?_))
   exact kw (sa 2 rfl (congrArg AV.int (show((xs.length-1-k:Nat):Int)-(1:Int)=((xs.length:Nat):Int)-1-((k+1:Nat):Int)from by omega))) (Xf ((k+1),(pre++[(xs.length-1-k,(ge xs (xs.length-1-k)))]),z2) [0,1,2] ⟨oz,by rw[f1_2];exact Zjr oz⟩)
 ·
  try simp at hb1
  exact Zu (fun a w h=>Zky (rfl) (by rw[f1_2,show k=xs.length by omega];exact Zs2) kk rfl h)
theorem Zqh {J:WP} (hJ:Stab J) (xs:List Stp)  :Fn prog J 89 [.rd (ZQ xs)] (.fn 115 [.ptr [ZQ xs]]):=by
 refine fE Tryz.func89 fun S w0 hS hJ0=>?_
 clear hJ0
 refine ln 0 fun hl1=>?_
 refine hqs tb hJ [1000] [.ptr [ZQ xs],_] [0] [_] rfl ⟨fun _ _ hk hx hl _=>Zao rfl (hl.env 0 0 _ rfl rfl) (hS _ hk.size) (js hJ hx),trivial⟩ ?_
 refine hqs tb hJ [1001] [.fn 115 [.ptr [ZQ xs]],_] [0] [_] rfl ⟨fun _ _ _ hx hl _=>YW (caps:=[(Go.Operand.tmp 1)]) rfl (Za (hl.env 0 1 _ rfl rfl) Zd) hx,trivial⟩ ?_
 exact tRn 0 (hE:=rfl)
theorem Znv {J:WP} (hJ:Stab J) (xs:List (List BA)) (hxl:xs.length≤1000000):Zpp prog J 90 [] [.ptr [Zo xs]] (fun x9=>[.int (x9.1:Nat),.rd (Zb x9.2)]) (ZeN xs) (none):=by
 refine Zb9 (N:=19) Tryz.func90 rfl rfl (lb rfl) fun S w0 R l κ μ σ I pv O3 O4 k0 hS hJ0 hH hY=>?_
 refine YT (B:=So J S w0 19 (I ([]) k0++R) [(0,.rd (.lit ((.func (.yield l) #[] #[])))),(1,.ptr [Zo xs])]) ?_ fun a w h=>h
 refine Zh (YR tb hJ [0,1,1000,1003] [_,.int (xs.length:Nat),.int (((xs.length:Nat):Int)-(1:Int)),_] [1,2] [_,_,_,_] rfl ⟨Ym ZeU,ZsP,trivial⟩ ?_)
 refine kw (sa 3 rfl (congrArg AV.int (show((xs.length:Nat):Int)-(1:Int)=((xs.length:Nat):Int)-1-((0:Nat):Int)from by simp))) (nx (ln 2 fun hl1=>?_))
 refine Ze (lpo (ι:=Nat×(List (Nat×(List BA)))×κ) (fun(k,pre,_)=>(k≤xs.length)∧(pre=(ZeN xs).take k)) (fun(_,pre,kk)=>(I pre kk++R)) (fun(k,_,_)=>[(3,.int (((xs.length:Nat):Int)-1-((k:Nat):Int)))]) (fun(k,_,_)=>xs.length-k) [0,1,3] [_,_] (0,[],k0) ⟨nzl,rfl⟩ ?_)
 rintro⟨k,pre,kk⟩ ⟨f1_1,f1_2⟩
 refine Zh (qso tb hJ [0,1,2,1001] [_,_] [_,_,_,_] ?_)
 refine cj 3 (fun hb1=>?_) fun hb1=>?_
 ·
  try simp at hb1
  refine tw (sa 2 rfl (show(.int (((xs.length:Nat):Int)-1-((k:Nat):Int)):AV)= .int (xs.length-1-k:Nat)from congrArg AV.int oz)) (Zc (nx (Zh (Ze (tsq ?_)))))
  refine snK 4 tb rfl (sy (.ptr [Zb ((ge xs (xs.length-1-k)))]) (fun h=>ZU (i:=((xs.length-1-k:Nat):Int)) Yh rfl (h.get 1 rfl) (h.get 0 rfl) nnn (Z0 (xs:=xs) (k:=xs.length-1-k) (by first | omega | (simp;omega) | grind[Zg])) rfl h.x) ?_)
  refine snK 1 tb rfl (ZfI (O:=I pre kk) (R:=R) (xs:=[_,_]) (avl:=[.int ((xs.length-1-k,(ge xs (xs.length-1-k))).1:Nat),.rd (Zb ((xs.length-1-k,(ge xs (xs.length-1-k))).2))]) rfl rfl rfl rfl (lb rfl) (fun a w h=>((h.get 5 rfl)).lit) (fun a w h=>Za (h.get 4 rfl) (Za (h.get 0 rfl) Zd)) (fun m' R' w1 vs hk hx hv=>hY m' R' pre ((xs.length-1-k,(ge xs (xs.length-1-k)))) kk w1 vs (by rw[f1_2];exact Zs1 oz) hk hx hv) (fun q=>ZqC q) (fun s1=>?_) (fun z2=>?_))
  ·
   refine snK 1 tb rfl (seK [0,2,8,9,10] [_,_,_,_,_] rfl ?_)
   refine nx (ln 1 fun hl2=>?_)
   refine cj 0 (fun hb2=>?_) fun hb2=>?_
   ·
    try simp at hb2
    exact Zv (fun a w h=>Zkx s1 rfl h)
   ·
    exact False.elim (by simp at hb2)
  refine snK 1 tb rfl (seK [0,2,8,9,10] [_,_,_,_,_] rfl ?_)
  refine nx (ln 1 fun hl3=>?_)
  refine cj 0 (fun hb2=>?_) fun hb2=>?_
  ·
   exact False.elim (by simp at hb2)
  ·
   try simp at hb2
   refine Zc (nx (YR tb hJ [2,3,1002] [_,.int (((xs.length-1-k:Nat):Int)-(1:Int)),_] [1] [_,_,_] rfl ⟨ZsP,trivial⟩ ?_))
   exact kw (sa 2 rfl (congrArg AV.int (show((xs.length-1-k:Nat):Int)-(1:Int)=((xs.length:Nat):Int)-1-((k+1:Nat):Int)from by omega))) (Xf ((k+1),(pre++[(xs.length-1-k,(ge xs (xs.length-1-k)))]),z2) [0,1,2] ⟨oz,by rw[f1_2];exact Zjr oz⟩)
 ·
  try simp at hb1
  exact Zu (fun a w h=>Zky (rfl) (by rw[f1_2,show k=xs.length by omega];exact Zs2) kk rfl h)
theorem Zqg {J:WP} (hJ:Stab J) (xs:List (List BA))  :Fn prog J 63 [.rd (Zo xs)] (.fn 90 [.ptr [Zo xs]]):=by
 refine fE Tryz.func63 fun S w0 hS hJ0=>?_
 clear hJ0
 refine ln 0 fun hl1=>?_
 refine hqs tb hJ [1000] [.ptr [Zo xs],_] [0] [_] rfl ⟨fun _ _ hk hx hl _=>Zao rfl (hl.env 0 0 _ rfl rfl) (hS _ hk.size) (js hJ hx),trivial⟩ ?_
 refine hqs tb hJ [1001] [.fn 90 [.ptr [Zo xs]],_] [0] [_] rfl ⟨fun _ _ _ hx hl _=>YW (caps:=[(Go.Operand.tmp 1)]) rfl (Za (hl.env 0 1 _ rfl rfl) Zd) hx,trivial⟩ ?_
 exact tRn 0 (hE:=rfl)
theorem Zkk {J:WP} (hJ:Stab J) (ss:List Stp) (hok:ZeD ss):Fn prog J 62 [.agg (pfC ss)] (.rd (ZfB (Qh ss))):=by
 refine Zed (N:=38) Tryz.func62 rfl rfl (lb rfl) fun S w0 hS hJ0=>?_
 refine atw Ye ?_
 have hl0:=hok.1
 have hl1:=hok.2.1
 refine XA (m:=5) ?_
 refine YR tb hJ [1000] [.ptr (pfC ss),_] [0] [_] rfl ⟨iBo hS hJ,trivial⟩ ?_
 refine ZeK ?_
 refine XA (m:=5) ?_
 refine ZS (snK 2 tb rfl (sy (.int (ss.length:Nat)) (fun h=>Zam Z1 rfl (h.get 0 rfl) h.x) ?_))
 refine Ze0 (f:=Zh7) (k:=ss.length) false ZiW rfl hJ rfl rfl rfl (lb rfl) (fun a w h=>⟨(h.get 0 rfl),(h.get 0 rfl)⟩) (by first | omega | (simp;omega) | grind[Zg]) (by first | omega | (simp;omega) | grind[Zg]) fun v1=>?_
 refine ZA Zlp hJ rfl rfl rfl (lb rfl) fun b2=>?_
 refine Yb (b:=b2) (off:=0) (es:=[_]) hJ hJ0 ZlA rfl rfl rfl (lb rfl) rfl (fun a w h=>⟨(h.get 0 rfl),(h.get 1 rfl)⟩) ?_
 refine seK [0,3,5] [_,_,_] rfl (ZeK ?_)
 refine lnA 1 fun hl1=>?_
 refine XA (m:=5) ?_
 refine ZS (sq (.lit v1) rfl rfl (lb rfl) (fun _ _ h=>Zs ZdV rfl (Zf h.x (mo 0 rfl)) (h.get 0 rfl) rfl h.x) ?_)
 refine sy (.lit v1) (fun h=>Zs ZdV rfl (Zf h.x (mo 0 rfl)) (h.get 1 rfl) rfl h.x) ?_
 refine sy (.int ((List.replicate ss.length false).length:Nat)) (fun h=>Zb0 (by rw[List.length_map]) Zco rfl (Zf h.x (mo 1 rfl)) (h.get 0 rfl) h.x) ?_
 refine sy (.int ((List.replicate ss.length false).length-1:Nat)) (fun h=>Zka (i:=(List.replicate ss.length false).length) (j:=1) rfl (h.get 0 rfl) (Rel.of_lit (Go.Value.int Go.IntKind.i64 1)) (by first | omega | (simp;omega) | grind[Zg]) (by first | omega | (simp;omega) | grind[Zg]) h.x) ?_
 refine sy (.lit (YS v1 (((List.replicate ss.length false).length-1)*1))) (fun h=>Yc (i:=(((List.replicate ss.length false).length-1:Nat):Int)) Ql rfl (Zf h.x (mo 1 rfl)) (h.get 3 rfl) (h.get 0 rfl) nnn (by rw[List.length_map];exact Int.ofNat_lt.2 (by first | omega | (simp;omega) | grind[Zg])) h.x) ?_
 refine kw pm1 (ZaW (i:=(List.replicate ss.length false).length-1) hJ hJ0 ZbT rfl rfl rfl (by rw[List.length_map];exact(by first | omega | (simp;omega) | grind[Zg])) (fun a w h=>⟨(h.get 0 rfl),(Rel.of_lit (Go.Value.bool true))⟩) ?_)
 rw[show((List.replicate ss.length false).map Zh7).set ((List.replicate ss.length false).length-1) [.lit (.bool true)]=((List.replicate ss.length false).set ((List.replicate ss.length false).length-1) true).map Zh7 from List.map_set.symm]
 refine seK [5,7] [_,_] rfl (ZeK ?_)
 refine Zr9 ?_
 refine XA (m:=5) ?_
 refine YR tb hJ [0,1002] [_,_,.fn 115 [.ptr [ZQ ss]]] [2] [_,_] rfl ⟨iFo hS hJ (Zqh hJ ss) ZuT,trivial⟩ ?_
 refine ZeK ?_
 refine ZgH ?_
 refine atw (fun h=>XU (p:=(((List.replicate ss.length false).set ((List.replicate ss.length false).length-1) true)=Zcy ss ([]:List (Nat×Stp)).length)) (by rw[List.length_replicate];rfl) h) ?_
 refine Zj8 (m:=5) (κ:=Value×(List Bool)) (μ:=Empty) (σ:=Empty) ((Znw hJ ss oz)) ZrT hJ hS hJ0 Zq (fun pre (wv,ys)=>[OB.fct ((ys=Zcy ss pre.length)),OB.row wv 4 1 (ys.map Zh7),OB.var b2 [.lit wv]]) (fun q':Empty=>undef) (fun q'=>[]) (fun s'=>[]) (v1,(List.replicate ss.length false).set ((List.replicate ss.length false).length-1) true) (fun x9=>[(5,.ptr (spC x9.2)),(3,.at b2 0),(4,.int (x9.1:Nat))]) (lb rfl) (lb rfl) Tryz.func62 ?_ ?_ ?_ ?_ ?_ ?_ ?_
 · exact fun a w h=>ZfO (h.get 1 rfl)
 ·
  rintro m9 l9 R' pre x9 ⟨wv,ys⟩ K9 hK9
  refine qso tb hJ [0,2,1000] [_] [_,_,_] ?_
  refine ZS (X1 (cs:=spC x9.2) Zpu rfl rfl rfl (lb rfl) rfl rfl rfl dz (m:=0) rfl rfl (fun a w h=>Zm hS _ h.keep h.x _ nlr) (fun a w h w' hk'=>Yn hJ _ _ hk' h.x) ?_)
  exact seK [0,2,3] [_,_,_] rfl (hK9)
 ·
  rintro m9 l9 R' pre x9 ⟨wv,ys⟩ hpre
  refine ZjN fun hF=>?_
  have r1_:ys=Zcy ss pre.length:=hF
  obtain⟨h1_,h2_,h3_⟩:=bw_at hpre
  have h4_:ys.length=ss.length:=by rw[r1_,Zd2]
  refine Ze (ZK tb hJ [0,1,1003] [.lit wv,_,.lit (YS wv (x9.1*1)),.bool (ge ys x9.1)] [0,2,3] [_,_,_] rfl ⟨fun _ _ _ hx hl _=>Zs ZdV rfl (Zf hx (mo 1 rfl)) (hl.env 1 3 _ rfl rfl) rfl hx,fun _ _ _ hx hl _=>Yc (i:=((x9.1:Nat):Int)) Ql rfl (Zf hx (mo 0 rfl)) (hl.D 0 22 rfl rfl) (hl.D 1 23 rfl rfl) nnn (by rw[List.length_map];exact Int.ofNat_lt.2 (by first | omega | (simp;omega) | grind[Zg])) hx,fun _ _ _ hx hl _=>Zal (i:=x9.1) ZtY rfl (Zf hx (mo 0 rfl)) (hl.D 2 24 rfl rfl) (Qq (xs:=ys) (k:=x9.1) (by first | omega | (simp;omega) | grind[Zg])) hx,trivial⟩ ?_)
  refine cj 2 (fun hb1=>?_) fun hb1=>?_
  ·
   try simp at hb1
   refine ZK tb hJ [1,1001,1002,1003] [_,_,.int (x9.2.args.length:Nat),_] [2] [_,_,_,_] rfl ⟨Ym YE,trivial⟩ ?_
   refine ln 1 fun hl2=>?_
   refine Ze (lpo (ι:=Nat×(List Bool)×Value) (fun(q,zs,_)=>(q≤x9.2.args.length)∧(zs=Zf8 ys (x9.2.args.take q))) (fun(_,zs,wu)=>(OB.row wu 4 1 (zs.map Zh7)::OB.var b2 [.lit wu]::R')) (fun(q,_,_)=>[(29,.int (q:Nat))]) (fun(q,_,_)=>x9.2.args.length-q) [0,1,2,3] [_,_,_] (0,ys,wv) ⟨nzl,rfl⟩ ?_)
   rintro⟨q,zs,wu⟩ ⟨f1_1,f1_2⟩
   refine qso tb hJ [0,1,2,3,1000] [_] [_,_,_,_,_] ?_
   refine cjS 4 (fun hb2=>?_) fun hb2=>?_
   ·
    try simp at hb2
    have e4:=Zf3 hok (k:=x9.1) (j:=q) oz (by rw[←h3_];omega)
    rw[←h3_]at e4
    have e5:zs.length=ss.length:=by rw[f1_2,Zd3,h4_]
    refine Zc (nx (Zh (Ze (ZK tb hJ [0,1,2,3,1002] [.ptr [.lit (.int .i64 (ge x9.2.args q))],_,_] [0] [_,_,_,_,_] rfl ⟨iIx ZC,trivial⟩ ?_))))
    refine ZS (sq (.lit wu) rfl rfl (lb rfl) (fun _ _ h=>Zs ZdV rfl (Zf h.x (mo 1 rfl)) (h.get 0 rfl) rfl h.x) ?_)
    refine snK 1 tb rfl (sy (.lit (YS wu (((ge x9.2.args q).toNat)*1))) (fun h=>Yc (i:=(ge x9.2.args q)) Ql rfl (Zf h.x (mo 0 rfl)) (h.get 1 rfl) (h.get 0 rfl) (by first | omega | (simp;omega) | grind[Zg]) (by rw[List.length_map];exact(by first | omega | (simp;omega) | grind[Zg])) h.x) ?_)
    refine ZaW (i:=(ge x9.2.args q).toNat) hJ hJ0 ZbT rfl rfl rfl (by rw[List.length_map];exact(by first | omega | (simp;omega) | grind[Zg])) (fun a w h=>⟨(h.get 0 rfl),(Rel.of_lit (Go.Value.bool true))⟩) ?_
    rw[show(zs.map Zh7).set ((ge x9.2.args q).toNat) [.lit (.bool true)]=(zs.set ((ge x9.2.args q).toNat) true).map Zh7 from List.map_set.symm]
    refine seK [3,4,5,6] [_,_,_,_] rfl (nx (YR tb hJ [0,1,2,1001] [.int (q+1:Nat),_] [0] [_,_,_,_] rfl ⟨YN,trivial⟩ ?_))
    exact Xf (q+1,zs.set ((ge x9.2.args q).toNat) true,wu) [0,1,2,3] ⟨oz,by rw[f1_2];exact Zt4 oz⟩
   ·
    try simp at hb2
    exact Zu (kw (fun h=>XU (p:=(zs=Zcy ss (pre++[x9]).length)) (by first | (rw[f1_2,h3_,ZsL hb1 (by rw[←h3_];omega),Zf5 r1_ h1_ h2_];done) | (rw[←Zf5 r1_ h1_ h2_,ms_no hb1])) h) (fun a w h=>⟨(wu,zs),h.keep,h.x⟩))
  ·
   try simp at hb1
   exact Zc (kw (fun h=>XU (p:=(ys=Zcy ss (pre++[x9]).length)) (by first | (rw[f1_2,h3_,ZsL hb1 (by rw[←h3_];omega),Zf5 r1_ h1_ h2_];done) | (rw[←Zf5 r1_ h1_ h2_,ms_no hb1])) h) (fun a w h=>⟨(wv,ys),h.keep,h.x⟩))
 ·
  rintro hfl ⟨wv,ys⟩ D
  refine kw pm1 (ZjS fun hF=>?_)
  have r1_:ys=Zcy ss (ZeN ss).length:=hF
  refine Zvt (m:=5) ?_
  refine ZhS ?_
  refine ZbA ?_
  refine sy (.lit wv) (fun h=>Zs ZdV rfl (Zf h.x (mo 2 rfl)) (h.get 0 rfl) rfl h.x) ?_
  refine snK 1 tb rfl (seK [0] [_] rfl ?_)
  refine nxD ?_
  refine ZqY ?_
  refine outD hJ hJ0 ?_
  exact kw (fun h=>Ya hS h (m:=0) (s:=2) rfl) (rtno (m:=0) rfl rfl (congrArg (fun z=>AV.rd (ZfB z)) (show ys=(Qh ss)from by rw[r1_,ZhZ];rfl)))
 · exact fun s=>s.elim
 · exact fun v h=>by cases h
 · exact fun q=>q.elim
end Go.Proofs.YtdfadihhfppjaaaGreatDoor
namespace Go.Proofs.YtdfadihhfppjaaaGreatDoor
open Go.RowKit
theorem ZfN {α:Type} {f:α→List CD} {xs:List α} {k:Nat} {r:List CD} (h:k<xs.length):((xs.map f).set k r)[k]?=some r:=by
 rw[List.getElem?_set_self];simpa using h
theorem Zoq {k i j:Nat} {r:List CD} {c:CD} {rows:List (List CD)} (hlen:∀ q∈rows,q.length=k) (hrow:rows[i]?=some r) (hj:j<r.length):(rows.set i (r.set j c)).flatten=rows.flatten.set (i*k+j) c:=by
 have hl:i<rows.length:=(List.getElem?_eq_some_iff.1 hrow).1
 have hge:rows[i]=r:=(List.getElem?_eq_some_iff.1 hrow).2
 have hrk:r.length=k:=hlen r (hge▸List.getElem_mem hl)
 have hd:rows.flatten.drop (i*k)=r++rows.flatten.drop (i*k+k):=by
  rw[Qj rows i hlen,List.drop_eq_getElem_cons hl,hge,List.flatten_cons,show i*k+k=(i+1)*k by rw[Nat.add_mul];omega,Qj rows (i+1) hlen]
 have hp:i*k+j<rows.flatten.length:=by
  have h1:=congrArg List.length hd
  rw[List.length_drop,List.length_append]at h1
  omega
 have hd2:rows.flatten.drop (i*k+j+1)=r.drop (j+1)++rows.flatten.drop (i*k+k):=by
  rw[show i*k+j+1=i*k+(j+1) by omega,←List.drop_drop,hd,List.drop_append_of_le_length oz]
 have hd3:rows.flatten.take (i*k+j)=rows.flatten.take (i*k)++r.take j:=by
  rw[List.take_add,hd,List.take_append_of_le_length oz]
 rw[Zgh rows i (r.set j c) hlen hl,List.set_eq_take_append_cons_drop (i:=i*k+j),if_pos hp,hd3,hd2,List.set_eq_take_append_cons_drop (i:=j),if_pos hj]
 simp
section
variable {N:Nat} {J:WP} {S:Nat→Prop} {O:List OB} {w0:World} {env:List (Nat×AV)} {a:Act} {w:World} {v:Value} {e k:Nat} {rows rows':List (List CD)}
theorem ZjV {q:Nat} (h:SO S (OB.row v e k rows::O) q):SO S (OB.row v e k rows'::O) q:=⟨h.1,fun p hp=>by
 rcases List.mem_cons.1 hp with rfl | hp
 · exact h.2 (OB.row v e k rows) yz
 · exact h.2 p (by simp[hp])⟩
theorem ZbR {va:Value} {e2 k2:Nat} {rows2:List (List CD)} {r:List CD} {i j:Nat} (hS:∀ b,w0.heap.size≤b→S b) (hrow:rows[i]?=some r) (hj:r[j]?=some (.lit va)) (hc:rows'=rows.set i (r.set j (.sl rows2))) (h:So J S w0 N (OB.row va e2 k2 rows2::OB.row v e k rows::O) env a w):
 So J S w0 N (OB.row v e k rows'::O) env a w:=by
 have h':=ZJ h
 have hrd:=Ze3 (v:=va) (e:=e2) (size:=k2) (rows:=rows2) (Zcb hS h) (OB.sub (h.x.2.1 (OB.row va e2 k2 rows2) yz) fun k _ hk=>hk.drop)
 refine⟨h'.defs,h'.size,h'.keep,⟨h'.x.1,fun p hp=>?_,?_⟩,fun p hp=>⟨(h'.env p hp).1,(h'.env p hp).2.sub fun _ _ hk=>ZjV hk⟩⟩
 · rcases List.mem_cons.1 hp with rfl | hp
   · obtain⟨us,h1,h2,h3⟩:=h'.x.2.1 (OB.row v e k rows) yz
     have hjl:j<r.length:=(List.getElem?_eq_some_iff.1 hj).1
     have hrl:r.length=k:=h3 r (List.mem_of_getElem? hrow)
     have hfl:rows.flatten[i*k+j]?=some (.lit va):=Zuv h3 hrow hj
     refine⟨us,by rw[hc,List.length_set];exact h1,?_,fun q hq=>?_⟩
     · rw[hc,Zoq h3 hrow hjl]
       refine RdL.of_get (by rw[List.length_set];exact h2.length) fun p c u g1 g2=>?_
       rw[List.getElem?_set]at g1
       split at g1
       · rename_i hij
         subst hij
         split at g1
         · cases g1
           obtain rfl:=(h2.get hfl g2).of_lit
           simp only[Rel]at hrd
           exact hrd.sub fun _ _ hk=>ZjV hk
         · cases g1
       · exact(h2.get g1 g2).sub fun _ _ hk=>ZjV hk
     · rw[hc]at hq
       rcases List.mem_or_eq_of_mem_set hq with hq | rfl
       · exact h3 q hq
       · rw[List.length_set];exact hrl
   · exact OB.sub (h'.x.2.1 p (List.mem_cons_of_mem _ hp)) fun _ _ hk=>ZjV hk
 · have:=List.pairwise_cons.1 h'.x.2.2
   exact List.pairwise_cons.2 ⟨fun p hp k h1 h2=>this.1 p hp k h1 h2,this.2⟩
end
section
variable {n:Rn} {P:Program} {J X:WP} {S S':Nat→Prop} {O:List OB} {w0 w:World} {o:Oper} {a:Act} {x y:Operand} {t e:TypeId} {v:Value} {k i:Nat}
theorem Zjg {α:Type} {f:α→List CD} {xs:List α} (u:α) (hJ:Stab J) (hJ0:J w0) (hs:Y9 P t k) (hop:o.op= .store t x y) (hk0:Keeps All w0 w) (hx:XO J S w0.heap.size (OB.row v e k (xs.map f)::O) w) (h1:Rel S' w (.lit (YS v (i*k))) (a.eval x))
 (h2:Rel (SO S (OB.row v e k (xs.map f)::O)) w (.agg (f u)) (a.eval y)) (hl:i<xs.length) (hn:(f u).length=k):
 Does n P o a w fun _ w'=>QS J S w0 (OB.row v e k (xs.map f)::O) w (OB.row v e k ((xs.set i u).map f)::O) w':=by
 simp only[Rel]at h2
 obtain⟨us,hv,hr⟩:=h2
 rw[List.map_set]
 exact Zk (Zbn hJ hJ0 hs hop hk0 hx h1 (by rw[hv];rfl) hr (by rw[List.length_map];exact hl) hn) fun _ _ ⟨_,h⟩=>h
def Zlj (P:Program) (t:TypeId):Prop:=∀(u:Value) (w:World),(Instr.field t (.agg #[u]) 0).run P w= .ok u w
theorem ZlM {c:CD} (ht:Zlj P t) (hop:o.op= .field t x 0) (h:Rel S w (.agg [c]) (a.eval x)) (hx:X w):Does n P o a w (YC S X (.rd c) w):=by
 simp only[Rel]at h
 obtain⟨us,e,hr⟩:=h
 match us,e,hr with
 | [u0],e,hr=>
  refine Zr (v:=u0) ?_ (by simp only[Rel];exact hr.1) hx
  rw[execOp,hop]
  simp only[e,Sem.run_bind,ht u0 w]
  rfl
def Zs7 (P:Program) (t:TypeId):Prop:=∀(x1 x2 x3 p:Value) (i z:Int) (ad:Option Addr) (k c m:Nat),P.built t [(0,.agg #[x1,x2,x3]),(1,.int .i64 i),(2,.agg #[p]),(3,.slice ad k c),(4,.int .i64 z),(5,.map (some m))]=
 some #[x1,x2,x3,.int .i64 i,p,.slice ad k c,.int .i64 z,.map (some m)]
abbrev jbC (d:Db) (i:Int) (ss:List Stp) (ts:List (List BA)) (z:Int) (m:Nat):List CD:=dbC d++[.lit (.int .i64 i),ZQ ss,Zo ts,.lit (.int .i64 z),.lit (.map (some m))]
theorem Zke {x0 x1 x2 x3 x4 x5:Operand} {d:Db} {i z:Int} {ss:List Stp} {ts:List (List BA)} {m:Nat} (ht:Zs7 P t) (hop:o.op= .build t #[(0,x0),(1,x1),(2,x2),(3,x3),(4,x4),(5,x5)]) (h0:Rel S w (.agg (dbC d)) (a.eval x0)) (h1:Rel S w (.int i) (a.eval x1)) (h2:Rel S w (.agg (pfC ss)) (a.eval x2))
 (h3:Rel S w (.rd (Zo ts)) (a.eval x3)) (h4:Rel S w (.int z) (a.eval x4)) (h5:a.eval x5= .map (some m)) (hx:X w):Does n P o a w (YC S X (.agg (jbC d i ss ts z m)) w):=by
 simp only[Rel]at h0 h2 h3
 obtain⟨us,hv,hr⟩:=h0
 obtain⟨ps,hp,hq⟩:=h2
 obtain⟨ad,cap,e3,_,_⟩:=h3.form
 match us,hr,ps,hq with
 | [u1,u2,u3],hr,[p1],hq=>
  refine Zr (v:=.agg (([u1,u2,u3]:List Value)++[Value.int .i64 i,p1,a.eval x3,.int .i64 z,.map (some m)]).toArray) ?_ (by simp only[Rel];exact⟨_,rfl,hr.append (ds:=[_,_,_,_,_]) ⟨.lit _ True.intro,hq.1,h3,.lit _ True.intro,.lit _ True.intro,trivial⟩⟩) hx
  have hrun:=run_build (P:=P) w t #[(0,a.eval x0),(1,a.eval x1),(2,a.eval x2),(3,a.eval x3),(4,a.eval x4),(5,a.eval x5)] #[u1,u2,u3,.int .i64 i,p1,a.eval x3,.int .i64 z,.map (some m)] (by rw[hv,hp,h1.lit,e3,h4.lit,h5];exact ht u1 u2 u3 p1 i z ad _ cap m)
  rw[execOp,hop]
  simp only[List.map_toArray,List.map_cons,List.map_nil,Sem.run_bind,hrun]
  rfl
end
end Go.Proofs.YtdfadihhfppjaaaGreatDoor
set_option maxHeartbeats 8000000
set_option maxRecDepth 100000
namespace Go.Proofs.YtdfadihhfppjaaaGreatDoor
open Go.Proofs.Tryz (prog)
open Go.RowKit
theorem QD:Zc2 prog 28 [.sl []]:=⟨(.agg #[.slice none 0 0]),fun w=>by kernel_rfl,fun S w=>(show RdL S w [.sl []] [.slice none 0 0]from⟨.nil _ _ nzl,trivial⟩)⟩
theorem ZmF:Zc2 prog 28 [.lit (.slice none 0 0)]:=⟨(.agg #[.slice none 0 0]),fun w=>by kernel_rfl,fun S w=>(show RdL S w [.lit (.slice none 0 0)] [.slice none 0 0]from⟨.lit _ True.intro,trivial⟩)⟩
theorem ZoX:Zj prog 62:=Zn Tryz.func62 rfl rfl
theorem Zh0:ZcW prog 88 [.string ⟨#[]⟩,.slice none 0 0]:=⟨fun i=>(#[(0,1),(1,1)]:Array (Nat×Nat))[i]?,fun j hj=>by rcases j with _ | _ | j<;>first | rfl | (simp at hj;omega) | simp at hj,fun parts=>by kernel_rfl⟩
theorem Zdk:Zcl prog 3:=⟨.int .i64 0,fun w=>by kernel_rfl⟩
theorem ZgA:Zir prog 29 3 1 8:=Zs6 (.int .i64 0) (by kernel_rfl) (by kernel_rfl) rfl dz (fun w=>by kernel_rfl)
theorem Zak:Y9 prog 29 1:=fun w=>by kernel_rfl
theorem Zs8:Zcl prog 88:=⟨.agg #[.string ⟨#[]⟩,.slice none 0 0],fun w=>by kernel_rfl⟩
theorem Zig:Zir prog 26 88 2 40:=Zs6 (.agg #[.string ⟨#[]⟩,.slice none 0 0]) (by kernel_rfl) (by kernel_rfl) rfl dz (fun w=>by kernel_rfl)
theorem Zg1:Y9 prog 26 1:=fun w=>by kernel_rfl
theorem Y5:Y9 prog 28 1:=fun w=>by kernel_rfl
theorem ZuR:Zj prog 91:=Zn Tryz.func91 rfl rfl
theorem Zo1:Zj prog 40:=Zn Tryz.func40 rfl rfl
theorem ZcH:ZbB prog 28 1:=⟨#[.slice none 0 0],rfl,fun i=>(#[(0,1)]:Array (Nat×Nat))[i]?,fun j hj=>by rcases j with _ | j<;>first | rfl | omega,fun parts=>by kernel_rfl⟩
theorem Zmc:ZV prog 37 1 1:=fun b off w=>by kernel_rfl
theorem Zmb:ZV prog 37 2 2:=fun b off w=>by kernel_rfl
theorem ZcE:ZV prog 37 3 3:=fun b off w=>by kernel_rfl
theorem Zgp:Zj prog 35:=Zn Tryz.func35 rfl rfl
theorem Zbp:ZbB prog 88 2:=⟨#[.string ⟨#[]⟩,.slice none 0 0],rfl,fun i=>(#[(0,1),(1,1)]:Array (Nat×Nat))[i]?,fun j hj=>by rcases j with _ | _ | j<;>first | rfl | omega,fun parts=>by kernel_rfl⟩
theorem Zjp:Zj prog 51:=Zn Tryz.func51 rfl rfl
theorem ZtL {J:WP} (hJ:Stab J) (m:List Bool)  :Fn prog J 61 [.rd (ZfB m)] (.int (ZeM m:Nat)):=by
 refine fE Tryz.func61 fun S w0 hS hJ0=>?_
 clear hJ0
 refine ln 0 fun hl1=>?_
 refine qs tb hJ [0] [_] [_] ?_
 refine qs tb hJ [0,1000] [_] [_,_] ?_
 refine Zh (hqs tb hJ [1,1000,1001,1002] [_,.int (m.length:Nat),_] [1] [_,_,_,_] rfl ⟨Ym Zco,trivial⟩ ?_)
 refine Ze (lp (ι:=Nat×Nat) (fun(k,n)=>(k≤m.length)∧(n=ZeM (m.take k))) (fun(k,n)=>[(8,.int (k:Nat)),(3,.int (n:Nat))]) (fun(k,_)=>m.length-k) [1,2,3,0] [_,_] (0,0) ⟨nzl,rfl⟩ ?_)
 rintro⟨k,n⟩ ⟨f1_1,f1_2⟩
 refine qs tb hJ [0,1,2,3,1000] [_] [_,_,_,_,_] ?_
 refine cjS 4 (fun hb1=>?_) fun hb1=>?_
 ·
  try simp at hb1
  have e1:n≤k:=by rw[f1_2];exact Nat.le_trans (ZoF _) (by rw[List.length_take];omega)
  refine Zc (nx (Zh (Ze (hqs tb hJ [0,1,2,3,1002] [.ptr [.lit (.bool (ge m k))],_,_] [0] [_,_,_,_,_] rfl ⟨iIx Ql,trivial⟩ ?_))))
  refine qs tb hJ [0,1,2,3,1000] [_] [_,_,_,_,_] ?_
  refine cj 4 (fun hb2=>?_) fun hb2=>?_
  ·
   try simp at hb2
   refine hqp tb hJ [0,1,2,1002] [_,.int (n+1:Nat),_] [1] [_,_,_,_] rfl ⟨YN,trivial⟩ ?_
   refine nx (hqp tb hJ [0,1,3,1001] [.int (k+1:Nat),_] [0] [_,_,_,_] rfl ⟨YN,trivial⟩ ?_)
   exact lpE (k+1,n+1) [0,1,3,2] ⟨oz,by rw[ZoH oz,←f1_2];simp[hb2]⟩
  ·
   try simp at hb2
   refine Zc (nx (hqp tb hJ [0,1,3,1001] [.int (k+1:Nat),_] [0] [_,_,_,_] rfl ⟨YN,trivial⟩ ?_))
   exact lpE (k+1,n) [0,1,3,2] ⟨oz,by rw[ZoH oz,←f1_2];simp[hb2]⟩
 ·
  try simp at hb1
  refine Zu (nx (qs tb hJ [1001] [_,_] [_] ?_))
  exact tRn 0 (hE:=eI (by rw[f1_2,cn_all oz]))
theorem ZfS {J:WP} (hJ:Stab J) (ss:List Stp) (hok:ZeD ss):Fn prog J 51 [.agg (pfC ss)] (.agg (pfC (Zct ss))):=by
 refine fE Tryz.func51 fun S w0 hS hJ0=>?_
 refine tw Ye ?_
 have hl0:=hok.1
 have hl1:=hok.2.1
 have hnl:=Zhq ss
 refine tsq (sy (.ptr (pfC ss)) (fun h=>ZcZ rfl (h.get 0 rfl) (Zm hS _ h.keep h.x _ nlr) (jo hJ h.x)) ?_)
 refine ZA QD hJ rfl rfl rfl (lb rfl) fun b1=>?_
 refine seK [0,1] [_,_] rfl (nx (tsq ?_))
 refine snK 2 tb rfl (sy (.int (ss.length:Nat)) (fun h=>Zam Z1 rfl (h.get 0 rfl) h.x) ?_)
 refine Ze0 (f:=Xa) (k:=ss.length) (0:Int) ZlV rfl hJ rfl rfl rfl (lb rfl) (fun a w h=>⟨(h.get 0 rfl),(h.get 0 rfl)⟩) (by first | omega | (simp;omega) | grind[Zg]) (by first | omega | (simp;omega) | grind[Zg]) fun v2=>?_
 refine snK 1 tb rfl (seK [0,3,5,6] [_,_,_,_] rfl ?_)
 refine nx (ln 1 fun hl1=>?_)
 refine tsq (ZA ZmF hJ rfl rfl rfl (lb rfl) fun b3=>?_)
 refine seK [0,1,3,4] [_,_,_,_] rfl (nx (Zh (tw (Z7 88 2 hJ) ?_)))
 refine ZK tb hJ [0,1,2,3,1001,1002,1003] [_,.rd (ZfB (Qh ss)),.int ((Qh ss).length:Nat),_] [1,2] [_,_,_,_,_,_,_] rfl ⟨iFo hS hJ (Zkk hJ ss (by exact hok)) ZoX,Ym Zco,trivial⟩ ?_
 refine ln 4 fun hl2=>?_
 refine Ze (lpo (ι:=Nat×(List Stp)×Value×(List Int)×Value) (fun(k,out,_,to,_)=>(k≤ss.length)∧(QU ss (Qh ss) k=(to,out))) (fun(_,out,wt,to,wo)=>[OB.row wo 88 2 (out.map spC),OB.var b3 [.lit wo],OB.row wt 3 1 (to.map Xa),OB.var b1 [ZQ ([]:List Stp)]]) (fun(k,_,wt,_,_)=>[(17,.int (k:Nat)),(3,.lit wt)]) (fun(k,_,_,_,_)=>(Qh ss).length-k) [0,2,3,4,5,6,1] [_,_,_,_,_] (0,[],v2,List.replicate ss.length (0:Int),(.slice none 0 0)) ⟨nzl,rfl⟩ ?_)
 rintro⟨k,out,wt,to,wo⟩ ⟨f1_1,f1_2⟩
 refine qso tb hJ [0,1,2,3,4,5,6,1000] [_] [_,_,_,_,_,_,_,_] ?_
 refine cjS 7 (fun hb1=>?_) fun hb1=>?_
 ·
  try simp at hb1
  have e2:to.length=ss.length∧out.length≤k:=by have h9:=Zsw ss (Qh ss) k;rwa [f1_2]at h9
  refine Zc (nx (Zh (Ze (ZK tb hJ [0,1,2,3,4,5,6,1003,1004] [_,.ptr [.lit (.bool ((ge (Qh ss) k)))],_,_,_] [1] [_,_,_,_,_,_,_,_,_] rfl ⟨iIx Ql,trivial⟩ ?_))))
  refine Zh (qso tb hJ [0,1,2,3,4,5,6,7,1001] [_,_] [_,_,_,_,_,_,_,_,_] ?_)
  refine cj 8 (fun hb2=>?_) fun hb2=>?_
  ·
   try simp at hb2
   refine Zu (nx (YR tb hJ [0,1,2,3,4,6,1001] [.int (k+1:Nat),_] [0] [_,_,_,_,_,_,_] rfl ⟨YN,trivial⟩ ?_))
   exact Xf (k+1,out,wt,to,wo) [0,1,2,3,4,6,5] ⟨oz,by first | (rw[pk_no hb2];exact f1_2) | (rw[Zsv hb2,f1_2,f2_2,show q=(ge ss k).args.length by omega,List.take_length])⟩
  ·
   try simp at hb2
   refine Zc (nx (tsq (snK 2 tb rfl (sy (.at b3 0) (fun h=>Zy Yz rfl (h.get 2 rfl) h.x) ?_))))
   refine sy (.lit wo) (fun h=>Zs Zaq rfl (Zf h.x (mo 1 rfl)) (h.get 0 rfl) rfl h.x) ?_
   refine sy (.int (out.length:Nat)) (fun h=>Zb0 (by rw[List.length_map]) Z1 rfl (Zf h.x (mo 0 rfl)) (h.get 0 rfl) h.x) ?_
   refine sy (.lit (YS wt (k*1))) (fun h=>Yc (i:=((k:Nat):Int)) ZC rfl (Zf h.x (mo 2 rfl)) (h.get 4 rfl) (h.get 3 rfl) nnn (by rw[List.length_map];exact Int.ofNat_lt.2 (by first | omega | (simp;omega) | grind[Zg])) h.x) ?_
   refine kw pm2 (ZaW (i:=k) hJ hJ0 ZbU rfl rfl rfl (by rw[List.length_map];exact(by first | omega | (simp;omega) | grind[Zg])) (fun a w h=>⟨(h.get 0 rfl),(h.get 1 rfl)⟩) ?_)
   rw[show(to.map Xa).set k [.lit (.int .i64 (((out.length:Nat):Int)))]=(to.set k (((out.length:Nat):Int))).map Xa from List.map_set.symm]
   refine seK [6,7,8,9,10,11,12,13] [_,_,_,_,_,_,_,_] rfl (nx (tsq ?_))
   refine snK 3 tb rfl (sy (.ptr (spC (ge ss k))) (fun h=>ZU (i:=((k:Nat):Int)) Z3 rfl (h.get 1 rfl) (h.get 0 rfl) nnn (Z0 (xs:=ss) (k:=k) (by first | omega | (simp;omega) | grind[Zg])) rfl h.x) ?_)
   refine snK 2 tb rfl (sq (.agg [.lit (.string ((ge ss k).label)),.lit (.slice none 0 0)]) rfl rfl (lb rfl) (fun a _ h=>XJ (ps:=[(0,a.eval (Go.Operand.tmp 35))]) (us:=[a.eval (Go.Operand.tmp 35),.slice none 0 0]) Zh0 rfl yz (Zml (lb rfl) (Rel.oneC (h.get 0 rfl)) Zms) rfl (Zp (h.get 0 rfl) (Qp (.lit _ True.intro) Z4)) h.x) ?_)
   refine ZA Xv hJ rfl rfl rfl (lb rfl) fun b4=>?_
   refine Zt (b:=b4) (off:=0) (es:=[_,_]) (news:=[_,_]) hJ hJ0 Qe rfl rfl rfl (lb rfl) rfl (fun a w h=>⟨(h.get 0 rfl),(h.get 1 rfl)⟩) ?_
   refine seK [0,8,9,10,11,12,13,14,15] [_,_,_,_,_,_,_,_,_] rfl (nx (Zh (tw (Z7 3 1 hJ) ?_)))
   refine ZK tb hJ [0,1,2,3,4,5,6,7,1005,1006,1007] [_,_,_,.ptr (spC (ge ss k)),_,_,.int (((ge ss k).args).length:Nat),_] [3,6] [_,_,_,_,_,_,_,_,_,_,_] rfl ⟨iIx Z3,Ym YE,trivial⟩ ?_
   refine ln 8 fun hl3=>?_
   refine Ze (lpo (ι:=Nat×(List Int)×Value) (fun(q,nums,_)=>(q≤(ge ss k).args.length)∧(nums=Zg8 (to.set k ((out.length:Nat):Int)) ((ge ss k).args.take q))) (fun(_,nums,wa)=>[OB.row wa 3 1 (nums.map Xa),OB.var b4 [.lit (.string ((ge ss k).label)),.lit wa],OB.row wt 3 1 ((to.set k (((out.length:Nat):Int))).map Xa),OB.row wo 88 2 (out.map spC),OB.var b3 [.lit wo],OB.var b1 [ZQ ([]:List Stp)]]) (fun(q,_,_)=>[(44,.int (q:Nat))]) (fun(q,_,_)=>(ge ss k).args.length-q) [0,1,2,3,4,5,6,7,8,9,10] [_,_,_,_,_,_,_,_,_,_] (0,[],(.slice none 0 0)) ⟨nzl,rfl⟩ ?_)
   rintro⟨q,nums,wa⟩ ⟨f2_1,f2_2⟩
   refine qso tb hJ [0,1,2,3,4,5,6,7,8,9,10,1000] [_] [_,_,_,_,_,_,_,_,_,_,_,_] ?_
   refine cjS 11 (fun hb3=>?_) fun hb3=>?_
   ·
    try simp at hb3
    have e4:=Zf3 hok (k:=k) (j:=q) oz oz
    have e5:nums.length=q:=by rw[f2_2,Zg8,List.length_map,List.length_take];omega
    have e6:=Zf2 hok (show k<ss.length by omega)
    refine Zc (nx (Zh (Ze (ZK tb hJ [0,1,2,3,4,5,6,7,8,9,10,1002] [.ptr [.lit (.int .i64 ((ge ((ge ss k).args) q)))],_,_] [0] [_,_,_,_,_,_,_,_,_,_,_,_] rfl ⟨iIx ZC,trivial⟩ ?_))))
    refine tw pm1 (tw pm1 ?_)
    refine fun a w h=>Za0 [OB.var b4 [.lit (.string ((ge ss k).label)),.lit wa],OB.row wt 3 1 ((to.set k (((out.length:Nat):Int))).map Xa),OB.row wo 88 2 (out.map spC),OB.var b3 [.lit wo],OB.var b1 [ZQ ([]:List Stp)]] (γ:=Value) (fun ix'=>([.at b4 1,.lit wa,.lit wt,.int ((ge ((ge ss k).args) q)),.lit (YS wt ((((ge ((ge ss k).args) q)).toNat)*1)),.int ((ge (to.set k (((out.length:Nat):Int))) (((ge ((ge ss k).args) q)).toNat))),.rd (ZX ([(ge (to.set k (((out.length:Nat):Int))) (((ge ((ge ss k).args) q)).toNat))])),.any,.at b4 1,.any]:List AV).getD ix' .any) (fun _=>true) [(7,fun _=>.at b4 0),(4,fun _=>.at b3 0),(2,fun _=>.at b1 0),(1,fun _=>.ptr (pfC ss)),(15,fun _=>.rd (ZfB (Qh ss))),(16,fun _=>.int ((Qh ss).length:Nat)),(17,fun _=>.int (k:Nat)),(3,fun _=>.lit wt),(42,fun _=>.rd (ZX ((ge ss k).args))),(43,fun _=>.int (((ge ss k).args).length:Nat)),(44,fun _=>.int (q:Nat))] (fun j' g=>match j' with | 0=>[OB.row wa 3 1 (nums.map Xa),OB.var b4 [.lit (.string ((ge ss k).label)),.lit wa],OB.row wt 3 1 ((to.set k (((out.length:Nat):Int))).map Xa),OB.row wo 88 2 (out.map spC),OB.var b3 [.lit wo],OB.var b1 [ZQ ([]:List Stp)]] | 1=>[OB.row g 3 1 ((nums++([(ge (to.set k (((out.length:Nat):Int))) (((ge ((ge ss k).args) q)).toNat))])).map Xa),OB.var b4 [.lit (.string ((ge ss k).label)),.lit wa],OB.row wt 3 1 ((to.set k (((out.length:Nat):Int))).map Xa),OB.row wo 88 2 (out.map spC),OB.var b3 [.lit wo],OB.var b1 [ZQ ([]:List Stp)]] | _=>[OB.row g 3 1 ((nums++([(ge (to.set k (((out.length:Nat):Int))) (((ge ((ge ss k).args) q)).toNat))])).map Xa),OB.var b4 [.lit (.string ((ge ss k).label)),.lit g],OB.row wt 3 1 ((to.set k (((out.length:Nat):Int))).map Xa),OB.row wo 88 2 (out.map spC),OB.var b3 [.lit wo],OB.var b1 [ZQ ([]:List Stp)]]) (fun k' g=>match k' with | 0=>g | _=>undef) [7,9] 1 (.slice none 0 0) (fun _=>rfl) h hJ Yk rfl rfl rfl rfl rfl rfl hsb ⟨?_,?_,?_,?_,?_,?_,?_,?_,?_,?_,trivial⟩ ⟨?e12_1_0,?e12_1_1,trivial⟩ ⟨.old 0 7 _,.old 1 4 _,.old 2 2 _,.old 3 1 _,.old 4 15 _,.old 5 16 _,.old 6 17 _,.old 7 3 _,.old 8 42 _,.old 9 43 _,.old 10 44 _,trivial⟩ ?n12_1
    exact oX rfl fun hx hl=>Zy Qa rfl (hl.env 0 7 _ rfl rfl) hx
    exact fun _ O' hO'=>⟨rfl,fun _ _ _ hx hl _=>Zs QG rfl (Zf hx (hO' _ (mo 0 rfl))) (hl.D 0 48 rfl rfl) rfl hx⟩
    exact oX rfl fun hx hl=>ZW rfl (hl.env 7 3 _ rfl rfl) hx
    exact oX rfl fun hx hl=>ZW rfl (hl.env 11 9 _ rfl rfl) hx
    exact fun _ O' hO'=>⟨rfl,fun _ _ _ hx hl _=>Yc (i:=(ge ((ge ss k).args) q)) ZC rfl (Zf hx (hO' _ (mo 1 rfl))) (hl.D 2 50 rfl rfl) (hl.D 3 51 rfl rfl) (by first | omega | (simp;omega) | grind[Zg]) (by rw[List.length_map];exact(by first | omega | (simp;omega) | grind[Zg])) hx⟩
    exact fun _ O' hO'=>⟨rfl,fun _ _ _ hx hl _=>Zal (i:=((ge ((ge ss k).args) q)).toNat) Zcv rfl (Zf hx (hO' _ (mo 1 rfl))) (hl.D 4 52 rfl rfl) (Qq (xs:=to.set k (((out.length:Nat):Int))) (k:=((ge ((ge ss k).args) q)).toNat) (by first | omega | (simp;omega) | grind[Zg])) hx⟩
    exact oY rfl fun hk hx hl=>YB ZC Zdk rfl (hl.D 5 53 rfl rfl) (Zm hS _ hk hx _ nlr) (jo hJ hx)
    exact Zi rfl
    exact oX rfl fun hx hl=>Zy Qa rfl (hl.env 0 7 _ rfl rfl) hx
    exact Zi rfl
    case e12_1_0=>exact⟨_,rfl,rfl,rfl,rfl,fun _ _ w hk hx hl _=>Zk (Zbo (f:=Xa) nums ([(ge (to.set k (((out.length:Nat):Int))) (((ge ((ge ss k).args) q)).toNat))]) (fun _=>rfl) ZgA hJ hJ0 rfl hk hx (hl.D 1 49 rfl rfl).lit (hl.D 6 54 rfl rfl) (by simp;omega) (by simp;omega)) fun v w' hp=>⟨v,rfl,fun k' hk'=>absurd hk' (Nat.not_lt_zero _),fun _=>rfl,hp⟩⟩
    case e12_1_1=>exact⟨_,rfl,rfl,rfl,rfl,fun g _ w hk hx hl hs=>Zk (ZqX (off:=1) (cs:=[.lit (.string ((ge ss k).label)),.lit wa]) (es:=[.lit (.string ((ge ss k).label)),.lit g]) (c:=.lit g) hJ hJ0 Zak rfl hk hx (hl.D 8 56 rfl rfl) (by rw[(hs 0 7 _ 55 oz rfl rfl rfl)];exact Rel.of_lit _ (ZaX (hx.2.1 _ (mo 0 rfl)))) (lb rfl) rfl) fun v w' hp=>⟨g,rfl,fun _ _=>rfl,fun e=>(by cases e),hp⟩⟩
    clear a w h
    intro v5
    dsimp only[List.map]
    refine nx (ln 8 fun hl4=>?_)
    refine YR tb hJ [0,1,2,3,4,5,6,7,8,9,1001] [.int (q+1:Nat),_] [0] [_,_,_,_,_,_,_,_,_,_,_] rfl ⟨YN,trivial⟩ ?_
    exact Xf (q+1,nums++([(ge (to.set k (((out.length:Nat):Int))) (((ge ((ge ss k).args) q)).toNat))]),v5) [0,1,2,3,4,5,6,7,8,9,10] ⟨oz,by rw[f2_2];exact ZtF oz⟩
   ·
    try simp at hb3
    refine Zu (nx (tw pm1 (tw pm1 ?_)))
    refine tw (fun h=>Y7 (j:=1) (cs':=[.lit (.string ((ge ss k).label)),ZX nums]) hS rfl rfl h) (ZS (sq (.at b3 0) rfl rfl (lb rfl) (fun _ _ h=>Zy Yz rfl (h.get 1 rfl) h.x) ?_))
    refine sy (.lit wo) (fun h=>Zs Zaq rfl (Zf h.x (mo 3 rfl)) (h.get 0 rfl) rfl h.x) ?_
    refine sy (.agg (spC ((⟨(ge ss k).label,nums⟩:Stp)))) (fun h=>Yt (ds:=[.lit (.string ((ge ss k).label)),ZX nums]) Zck rfl (Zf h.x (mo 0 rfl)) (h.get 2 rfl) rfl rfl h.x) ?_
    refine sy (.rd (ZQ ([(⟨(ge ss k).label,nums⟩:Stp)]))) (fun h=>Zb1 Z3 Zs8 dz rfl rfl (h.get 0 rfl) (Zm hS _ h.keep h.x _ nlr) (jo hJ h.x)) ?_
    refine kw pm2 (Yx (f:=spC) (m:=2) (s:=59) out ([(⟨(ge ss k).label,nums⟩:Stp)]) (fun _=>rfl) Zig hJ hJ0 rfl rfl rfl (lb rfl) rfl rfl (fun a w h=>(h.get 0 rfl)) (by simp;omega) (by simp;omega) fun v6=>?_)
    refine sy (.at b3 0) (fun h=>Zy Yz rfl (h.get 6 rfl) h.x) ?_
    refine kw pm3 (Yb (b:=b3) (off:=0) (es:=[_]) hJ hJ0 Zg1 rfl rfl rfl (lb rfl) rfl (fun a w h=>⟨(h.get 0 rfl),(h.get 1 rfl)⟩) ?_)
    refine seK [2,7,8,9,10,11,12,13] [_,_,_,_,_,_,_,_] rfl (nx (ln 0 fun hl5=>?_))
    refine YR tb hJ [1,2,3,4,5,7,1001] [.int (k+1:Nat),_] [0] [_,_,_,_,_,_,_] rfl ⟨YN,trivial⟩ ?_
    refine kw pm2 (kw ZJ ?_)
    refine kw pm3 (kw pm3 ?_)
    refine kw pm2 (kw pm3 ?_)
    exact Xf (k+1,out++([(⟨(ge ss k).label,nums⟩:Stp)]),wt,to.set k (((out.length:Nat):Int)),v6) [0,1,2,3,4,6,5] ⟨oz,by first | (rw[pk_no hb2];exact f1_2) | (rw[Zsv hb2,f1_2,f2_2,show q=(ge ss k).args.length by omega,List.take_length])⟩
 ·
  try simp at hb1
  have e1:out=Zct ss:=by rw[Zct,show ss.length=k by omega,f1_2]
  refine Zu (nx (tw pm1 (tw pm1 ?_)))
  refine tw (fun h=>Y7 (j:=0) (cs':=[ZQ out]) hS rfl rfl h) (tsq ?_)
  refine sy (.agg (pfC out)) (fun h=>Yt (ds:=[ZQ out]) Yu rfl (Zf h.x (mo 0 rfl)) (h.get 0 rfl) rfl rfl h.x) ?_
  refine kw pm2 (Zt (b:=b1) (off:=0) (es:=[_]) (news:=[_]) hJ hJ0 Y5 rfl rfl rfl (lb rfl) rfl (fun a w h=>⟨(h.get 2 rfl),(h.get 0 rfl)⟩) ?_)
  exact seK [2] [_] rfl (nx (Zv (fun a w h=>Zby (m:=0) rfl Yu h rfl rfl (show(_:List CD)=[ZQ (Zct ss)]from by(rw[e1])<;>rfl))))
theorem Zp2 {J:WP} (hJ:Stab J) (l:List BA) (hl:l.length≤2000) (hs:∀ s∈l,s.size≤60):Fn prog J 64 [.rd (Zb l)] (.str (Xz l)):=by
 refine fE Tryz.func64 fun S w0 hS hJ0=>?_
 clear hJ0
 refine ln 0 fun hl1=>?_
 refine qs tb hJ [0] [_] [_] ?_
 refine hqs tb hJ [1002] [_,.str (Zi2 l (⟨#[10]⟩:BA)),_] [1] [_] rfl ⟨iFn hS hJ (p_Join hJ l (⟨#[10]⟩:BA) oz (by have h9:=ZnY hs;omega)) ZuR,trivial⟩ ?_
 exact tRn 0 (hE:=eS (rfl))
theorem Zc7 {J:WP} (hJ:Stab J) (xs:List Int) (b:xs.length*8≤140737488351232):FnM (ι:=Value) prog J 35 [] [.rd (ZX xs)] [] (fun i'=>.lit (i')) (fun i'=>[OB.row i' 3 1 (xs.map Xa)]):=by
 refine fEM Tryz.func35 fun S w0 R hS hJ0 hH=>?_
 refine YT (B:=So J S w0 8 (R) [(0,.rd (ZX xs))]) ?_ fun a w h=>h
 refine ln 0 fun hl1=>?_
 refine qso tb hJ [0] [_] [_] ?_
 refine Zh (tsq (snK 1 tb rfl (ZbS (f:=Xa) (xs:=xs) YE rfl rfl rfl (lb rfl) (fun a w h=>(h.get 0 rfl)) fun g1 hg1=>?_)))
 refine seK [0,2] [_,_] rfl (nx (cj 0 (fun hb1=>?_) fun hb1=>?_))
 ·
  try simp at hb1
  refine qso tb hJ [1000] [_] [_] ?_
  refine tw (Z7 3 1 hJ) (tw (ob0 (congrArg (fun z'=>OB.row (.slice none 0 0) 3 1 ((z').map Xa)) (show([]:List Int)=xs from by first | exact(hg1 (by assumption)).symm | simp))) ?_)
  exact Zv (fun a w h=>ZN  (m:=0) (.slice none 0 0) rfl h rfl rfl)
 ·
  try simp at hb1
  refine Zc (nx (Zh (fun a w h=>ZbZ (id:=3) (t:=29) (e:=3) (size:=1) (bytes:=8) (i0:=0) (fol:=3) (d:=2) (ch:=[(2,(xs.map Xa))]) (fun ix'=>([.any,.rd (ZX xs),.any,.any]:List AV).getD ix' .any) (fun _=>true) [] (xs.map Xa) yz ?r3_1 hJ hJ0 h Yk rfl rfl rfl rfl ⟨?_,?_,?_,?_,trivial⟩ trivial (fun v2=>?n3_1))))
  case r3_1=>
   refine Row.mk' ZgA ⟨_,rfl,rfl,rfl,rfl,rfl⟩ ⟨?x3_1_0,trivial⟩ ⟨_,_,_,_,rfl,rfl,rfl,rfl,rfl,rfl,rfl,rfl,rfl⟩ rfl rfl rfl
   case x3_1_0=>exact⟨_,_,_,_,rfl,rfl,rfl,rfl,rfl,rfl,rfl,rfl,ZaK (f:=Xa) (fun _=>rfl),(by have hm:maxLen=9223372036854775807:=rfl;simp[upto];first | omega | (simp;omega)),(by have hm:maxLen=9223372036854775807:=rfl;simp[upto];first | omega | (simp;omega)),fun _ _ _ _ _ hl=>(hl.D 1 6 rfl rfl)⟩
  exact fun h=>Zi rfl h
  exact fun _ _=>⟨rfl,fun _ _ _ hx hl _=>ZW rfl (hl.env 1 0 _ rfl rfl) hx⟩
  exact fun h=>Zi rfl h
  exact fun h=>Zi rfl h
  clear a w h
  exact nx (Zv (fun a w h=>ZN  (m:=0) v2 rfl h rfl rfl))
theorem Zhm {J:WP} (hJ:Stab J) (xs:List Stp) (b:xs.length*40≤140737488351232):FnM (ι:=Value) prog J 40 [] [.rd (ZQ xs)] [] (fun i'=>.lit (i')) (fun i'=>[OB.row i' 88 2 (xs.map spC)]):=by
 refine fEM Tryz.func40 fun S w0 R hS hJ0 hH=>?_
 refine YT (B:=So J S w0 8 (R) [(0,.rd (ZQ xs))]) ?_ fun a w h=>h
 refine ln 0 fun hl1=>?_
 refine qso tb hJ [0] [_] [_] ?_
 refine Zh (tsq (snK 1 tb rfl (ZbS (f:=spC) (xs:=xs) Z1 rfl rfl rfl (lb rfl) (fun a w h=>(h.get 0 rfl)) fun g1 hg1=>?_)))
 refine seK [0,2] [_,_] rfl (nx (cj 0 (fun hb1=>?_) fun hb1=>?_))
 ·
  try simp at hb1
  refine qso tb hJ [1000] [_] [_] ?_
  refine tw (Z7 88 2 hJ) (tw (ob0 (congrArg (fun z'=>OB.row (.slice none 0 0) 88 2 ((z').map spC)) (show([]:List Stp)=xs from by first | exact(hg1 (by assumption)).symm | simp))) ?_)
  exact Zv (fun a w h=>ZN  (m:=0) (.slice none 0 0) rfl h rfl rfl)
 ·
  try simp at hb1
  refine Zc (nx (Zh (fun a w h=>ZbZ (id:=3) (t:=26) (e:=88) (size:=2) (bytes:=40) (i0:=0) (fol:=3) (d:=2) (ch:=[(2,(xs.map spC))]) (fun ix'=>([.any,.rd (ZQ xs),.any,.any]:List AV).getD ix' .any) (fun _=>true) [] (xs.map spC) yz ?r3_1 hJ hJ0 h Yk rfl rfl rfl rfl ⟨?_,?_,?_,?_,trivial⟩ trivial (fun v2=>?n3_1))))
  case r3_1=>
   refine Row.mk' Zig ⟨_,rfl,rfl,rfl,rfl,rfl⟩ ⟨?x3_1_0,trivial⟩ ⟨_,_,_,_,rfl,rfl,rfl,rfl,rfl,rfl,rfl,rfl,rfl⟩ rfl rfl rfl
   case x3_1_0=>exact⟨_,_,_,_,rfl,rfl,rfl,rfl,rfl,rfl,rfl,rfl,ZaK (f:=spC) (fun _=>rfl),(by have hm:maxLen=9223372036854775807:=rfl;simp[upto];first | omega | (simp;omega)),(by have hm:maxLen=9223372036854775807:=rfl;simp[upto];first | omega | (simp;omega)),fun _ _ _ _ _ hl=>(hl.D 1 6 rfl rfl)⟩
  exact fun h=>Zi rfl h
  exact fun _ _=>⟨rfl,fun _ _ _ hx hl _=>ZW rfl (hl.env 1 0 _ rfl rfl) hx⟩
  exact fun h=>Zi rfl h
  exact fun h=>Zi rfl h
  clear a w h
  exact nx (Zv (fun a w h=>ZN  (m:=0) v2 rfl h rfl rfl))
theorem Znu {J:WP} (hJ:Stab J) (xs:List Int) (b:xs.length*8≤140737488351232):Fn prog J 35 [.rd (ZX xs)] (.rd (ZX xs)):=Zus (Zc7 hJ xs b)
theorem Zhd {J:WP} (hJ:Stab J) (ss:List Stp) (c:Chg) (hok:ZeD ss) (hs0:0≤c.step) (hs1:c.step< (ss.length:Int)) (hca:∀ a∈c.args,0≤a∧a<c.step) (hcl:c.args.length≤40) (hc1:c.reason=2∨1≤c.args.length):Fn prog J 34 [.agg (pfC ss),.agg (chC c)] (.agg (pfC (XY ss c))):=by
 refine fE Tryz.func34 fun S w0 hS hJ0=>?_
 refine tw Ye ?_
 have hl0:=hok.1
 have hl1:=hok.2.1
 refine tsq (sy (.ptr (pfC ss)) (fun h=>ZcZ rfl (h.get 0 rfl) (Zm hS _ h.keep h.x _ nlr) (jo hJ h.x)) ?_)
 refine sy (.ptr (chC c)) (fun h=>ZcZ rfl (h.get 2 rfl) (Zm hS _ h.keep h.x _ nlr) (jo hJ h.x)) ?_
 refine ZA QD hJ rfl rfl rfl (lb rfl) fun b1=>?_
 refine seK [0,1,2] [_,_,_] rfl (nx (tsq ?_))
 refine snK 2 tb rfl (QT (O:=[]) (R:=[OB.var b1 [ZQ ([]:List Stp)]]) (Zhm hJ ss oz) Zo1 rfl rfl rfl (lb rfl) hS hJ0 Zq (fun a w h=>(Za (h.get 0 rfl) Zd)) fun z2=>?_)
 refine sq (.agg [.lit z2]) rfl rfl (lb rfl) (fun a _ h=>XD (us:=[a.eval (Go.Operand.tmp 12)]) ZcH rfl yz (Zp (h.get 0 rfl) Z4) rfl h.x) ?_
 refine ZA QD hJ rfl rfl rfl (lb rfl) fun b3=>?_
 refine Zt (b:=b3) (off:=0) (es:=[_]) (news:=[_]) hJ hJ0 Y5 rfl rfl rfl (lb rfl) rfl (fun a w h=>⟨(h.get 0 rfl),(h.get 1 rfl)⟩) ?_
 refine seK [0,3,5,6] [_,_,_,_] rfl (nx (ln 1 fun hl1=>?_))
 refine Zh (qso tb hJ [0,2,3,1002] [_,_,_] [_,_,_,_] ?_)
 refine cj 3 (fun hb1=>?_) fun hb1=>?_
 ·
  try simp at hb1
  have e9:XY ss c=Zct (ss.set c.step.toNat ⟨c.label,c.args⟩):=if_pos hb1
  refine Zh (tw pm1 (fun a w h=>YJ (γ:=Unit) (fun ix'=>([.at b3 0,.lit z2,.ptr [.lit (.int .i64 c.step),.lit (.string c.label),ZX c.args,.lit (.int .i64 c.before),.lit (.int .i64 c.after)],.int c.step,.ptr [.lit (.string c.label),ZX c.args,.lit (.int .i64 c.before),.lit (.int .i64 c.after)],.str c.label,.ptr [ZX c.args,.lit (.int .i64 c.before),.lit (.int .i64 c.after)],.rd (ZX c.args),.rd (ZX c.args),.agg (spC (⟨c.label,c.args⟩:Stp)),.lit (YS z2 (c.step.toNat*2)),.any]:List AV).getD ix' .any) (fun _=>true) [(5,fun _=>.at b3 0),(4,fun _=>.at b1 0)] (fun j' _=>match j' with | 0=>[OB.row z2 88 2 (ss.map spC),OB.var b3 [.lit z2],OB.var b1 [ZQ ([]:List Stp)]] | _=>[OB.row z2 88 2 ((ss.set c.step.toNat (⟨c.label,c.args⟩:Stp)).map spC),OB.var b3 [.lit z2],OB.var b1 [ZQ ([]:List Stp)]]) (fun _ _=>undef) [11] 0 () (fun _=>rfl) h hJ Yk rfl rfl rfl rfl rfl rfl hsb ⟨?_,?_,?_,?_,?_,?_,?_,?_,?_,?_,?_,?_,trivial⟩ ⟨?e3_1_0,trivial⟩ ⟨.old 0 5 _,.old 1 4 _,trivial⟩ ?n3_1))
  exact oX rfl fun hx hl=>Zy Yz rfl (hl.env 0 5 _ rfl rfl) hx
  exact fun _ O' hO'=>⟨rfl,fun _ _ _ hx hl _=>Zs Zaq rfl (Zf hx (hO' _ (mo 1 rfl))) (hl.D 0 17 rfl rfl) rfl hx⟩
  exact oX rfl fun hx hl=>ZE Zmc rfl (hl.env 2 3 _ rfl rfl) hx
  exact oX rfl fun hx hl=>Zz Zcv rfl (hl.D 2 19 rfl rfl) hx
  exact oX rfl fun hx hl=>ZE Zmb rfl (hl.env 2 3 _ rfl rfl) hx
  exact oX rfl fun hx hl=>Zz Qf rfl (hl.D 4 21 rfl rfl) hx
  exact oX rfl fun hx hl=>ZE ZcE rfl (hl.env 2 3 _ rfl rfl) hx
  exact oX rfl fun hx hl=>Zz QG rfl (hl.D 6 23 rfl rfl) hx
  exact oY rfl fun hk hx hl=>Zbj (Znu hJ c.args oz) Zgp rfl (Zm hS _ hk hx) (hx.1) (Za (hl.D 7 24 rfl rfl) Zd) (jo hJ hx)
  exact fun _ O' _=>⟨rfl,fun a _ _ hx hl _=>XD (us:=[a.eval (Go.Operand.tmp 22),a.eval (Go.Operand.tmp 25)]) Zbp rfl yz (Zp (hl.D 5 22 rfl rfl) (Zp (hl.D 8 25 rfl rfl) Z4)) rfl hx⟩
  exact fun _ O' hO'=>⟨rfl,fun _ _ _ hx hl _=>Yc (i:=c.step) Z3 rfl (Zf hx (hO' _ (mo 0 rfl))) (hl.D 1 18 rfl rfl) (hl.D 3 20 rfl rfl) (by first | omega | (simp;omega) | grind[Zg]) (by rw[List.length_map];exact(by first | omega | (simp;omega) | grind[Zg])) hx⟩
  exact Zi rfl
  case e3_1_0=>exact⟨_,rfl,rfl,rfl,rfl,fun g _ w hk hx hl _=>Zk (Zjg (f:=spC) (i:=c.step.toNat) (⟨c.label,c.args⟩:Stp) hJ hJ0 Qe rfl hk hx (hl.D 10 27 rfl rfl) (hl.D 9 26 rfl rfl) (by first | omega | (simp;omega) | grind[Zg]) rfl) fun v w' hp=>⟨g,rfl,fun _ _=>rfl,fun e=>(by cases e),hp⟩⟩
  clear a w h
  intro _
  dsimp only[List.map]
  refine nx (tw pm1 (tw pm1 ?_))
  refine tw (fun h=>Y7 (j:=0) (cs':=[ZQ (ss.set c.step.toNat (⟨c.label,c.args⟩:Stp))]) hS rfl rfl h) (tsq ?_)
  refine sy (.agg (pfC (ss.set c.step.toNat (⟨c.label,c.args⟩:Stp)))) (fun h=>Yt (ds:=[ZQ (ss.set c.step.toNat (⟨c.label,c.args⟩:Stp))]) Yu rfl (Zf h.x (mo 0 rfl)) (h.get 0 rfl) rfl rfl h.x) ?_
  refine sy (.agg (pfC ((Zct (ss.set c.step.toNat (⟨c.label,c.args⟩:Stp)))))) (fun h=>Zbj (ZfS hJ (ss.set c.step.toNat (⟨c.label,c.args⟩:Stp)) (by first | exact Zf1 hok (k:=c.step.toNat) (s:=⟨c.label,c.args⟩) ⟨hcl,fun a ha=>by have:=hca a ha;omega⟩ | (rw[e1];exact hsh) | (rw[e1];exact ZdW hsh oz))) Zjp rfl (Zm hS _ h.keep h.x) (h.x.1) (Za (h.get 0 rfl) Zd) (jo hJ h.x)) ?_
  refine kw pm1 (Zt (b:=b1) (off:=0) (es:=[_]) (news:=[_]) hJ hJ0 Y5 rfl rfl rfl (lb rfl) rfl (fun a w h=>⟨(h.get 3 rfl),(h.get 0 rfl)⟩) ?_)
  exact seK [3] [_] rfl (nx (Zv (fun a w h=>Zby (m:=0) rfl Yu h rfl rfl (show(_:List CD)=[ZQ (XY ss c)]from by(first | (rw[e9];done) | rw[e9,←e1])<;>rfl))))
 ·
  try simp at hb1
  have h1:1≤c.args.length:=by rcases hc1 with h | h;exact absurd h hb1;exact h
  have hg:0≤ge c.args 0∧ge c.args 0<c.step:=hca _ (Zg oz)
  have hsh:=ZlU hok hg.1 hg.2
  refine Zc (nx (Zh (ZqG tb hJ [0,1,2,1001,1002,1003] [.at b3 0,.lit z2,.int (ss.length:Nat),_] [0,1,2] [_,_,_,_,_,_] rfl ⟨fun _ _ _ hx hl _=>Zy Yz rfl (hl.env 0 5 _ rfl rfl) hx,fun _ _ _ hx hl _=>Zs Zaq rfl (Zb3 hx (mo 0 rfl)) (hl.D 0 30 rfl rfl) rfl hx,fun _ _ _ hx hl _=>Zam Z1 rfl (XK hS hx (mo 1 rfl) (hl.D 1 31 rfl rfl)) hx,trivial⟩ ?_)))
  refine Ze (lpo (ι:=Nat×(List Stp)) (fun(k,out)=>(k≤ss.length)∧(out=Zin (ZbV c) ss k)) (fun(_,out)=>[OB.var b3 [.lit z2],OB.row z2 88 2 (out.map spC),OB.var b1 [ZQ ([]:List Stp)]]) (fun(k,_)=>[(33,.int (k:Nat))]) (fun(k,_)=>ss.length-k) [0,1,2,3,4,5] [_,_,_,_,_] (0,ss) ⟨nzl,mf_zero.symm⟩ ?_)
  rintro⟨k,out⟩ ⟨f1_1,f1_2⟩
  refine qso tb hJ [0,1,2,3,4,5,1000] [_] [_,_,_,_,_,_,_] ?_
  refine cjS 6 (fun hb2=>?_) fun hb2=>?_
  ·
   try simp at hb2
   have e5:out.length=ss.length:=by rw[f1_2,ZnK]
   have e6:=Zf2 hok (show k<ss.length by omega)
   refine Zc (nx (Zh (Ze (Zh (ZS (snK 1 tb rfl (sy (.lit (YS z2 (k*2))) (fun h=>Yc (i:=((k:Nat):Int)) Z3 rfl (Zf h.x (mo 1 rfl)) (h.get 4 rfl) (h.get 6 rfl) nnn (by rw[List.length_map];exact Int.ofNat_lt.2 (by first | omega | (simp;omega) | grind[Zg])) h.x) ?_)))))))
   refine sy (.agg (spC (ge out k))) (fun h=>Xw (i:=k) Zck rfl (Zf h.x (mo 1 rfl)) (h.get 0 rfl) (Qq (xs:=out) (k:=k) (by first | omega | (simp;omega) | grind[Zg])) rfl h.x) ?_
   refine ZA Xv hJ rfl rfl rfl (lb rfl) fun b4=>?_
   refine snK 1 tb rfl (Zt (b:=b4) (off:=0) (es:=[_,_]) (news:=[_,_]) hJ hJ0 Qe rfl rfl rfl (lb rfl) rfl (fun a w h=>⟨(h.get 1 rfl),(h.get 2 rfl)⟩) ?_)
   refine kw (fun h=>ZM hS h (m:=1) (s:=7) rfl) (seK [0,1,5,6,7,8,9,10] [_,_,_,_,_,_,_,_] rfl ?_)
   refine kw (sa 0 rfl (show(.ptr (spC (ge out k)):AV)= .ptr (spC (ge ss k))from by rw[f1_2,Zt2 oz])) (nx (Zh (fun a w h=>YJ (γ:=Value) (fun ix'=>([.at b3 0,.lit z2,.int (k:Nat),.ptr [ZX ((ge ss k).args)],.rd (ZX ((ge ss k).args)),.any,.lit (YS z2 (k*2)),.lit (YS z2 (k*2+1)),.any]:List AV).getD ix' .any) (fun _=>true) [(7,fun _=>.ptr (spC (ge ss k))),(6,fun _=>.int (k:Nat)),(5,fun _=>.at b3 0),(4,fun _=>.at b1 0),(3,fun _=>.ptr (chC c)),(31,fun _=>.lit z2),(32,fun _=>.int (ss.length:Nat)),(33,fun _=>.int (k:Nat))] (fun j' g=>match j' with | 0=>[OB.var b3 [.lit z2],OB.row z2 88 2 (out.map spC),OB.var b1 [ZQ ([]:List Stp)]] | 1=>[OB.row g 3 1 ((((ge ss k).args)).map Xa),OB.var b3 [.lit z2],OB.row z2 88 2 (out.map spC),OB.var b1 [ZQ ([]:List Stp)]] | _=>[OB.row g 3 1 ((((ge ss k).args)).map Xa),OB.var b3 [.lit z2],OB.row z2 88 2 ((out.map spC).set k ((spC (ge out k)).set 1 (.lit g))),OB.var b1 [ZQ ([]:List Stp)]]) (fun k' g=>match k' with | 0=>g | _=>undef) [5,8] 1 (.slice none 0 0) (fun _=>rfl) h hJ Yk rfl rfl rfl rfl rfl rfl hsb ⟨?_,?_,?_,?_,?_,?_,?_,?_,?_,trivial⟩ ⟨?e8_2_0,?e8_2_1,trivial⟩ ⟨.old 0 7 _,.old 1 6 _,.old 2 5 _,.old 3 4 _,.old 4 3 _,.old 5 31 _,.old 6 32 _,.old 7 33 _,trivial⟩ ?n8_2)))
   exact oX rfl fun hx hl=>Zy Yz rfl (hl.env 2 5 _ rfl rfl) hx
   exact fun _ O' hO'=>⟨rfl,fun _ _ _ hx hl _=>Zs Zaq rfl (Zf hx (hO' _ (mo 0 rfl))) (hl.D 0 38 rfl rfl) rfl hx⟩
   exact oX rfl fun hx hl=>ZW rfl (hl.env 1 6 _ rfl rfl) hx
   exact oX rfl fun hx hl=>ZE Qa rfl (hl.env 0 7 _ rfl rfl) hx
   exact oX rfl fun hx hl=>Zz QG rfl (hl.D 3 41 rfl rfl) hx
   exact Zi rfl
   exact fun _ O' hO'=>⟨rfl,fun _ _ _ hx hl _=>Yc (i:=((k:Nat):Int)) Z3 rfl (Zf hx (hO' _ (mo 1 rfl))) (hl.D 1 39 rfl rfl) (hl.D 2 40 rfl rfl) nnn (by rw[List.length_map];exact Int.ofNat_lt.2 (by first | omega | (simp;omega) | grind[Zg])) hx⟩
   exact fun _ O' hO'=>⟨rfl,fun _ _ _ hx hl _=>Zcs Qa rfl (Zf hx (hO' _ (mo 1 rfl))) (by rw[List.length_map];exact Nat.lt_of_le_of_lt (Nat.zero_le k) (by first | omega | (simp;omega) | grind[Zg])) (hl.D 6 44 rfl rfl) hx⟩
   exact Zi rfl
   case e8_2_0=>exact⟨_,rfl,rfl,rfl,rfl,fun _ _ w hk hx hl _=>Zk (ZsW (O:=[]) (R:=[OB.var b3 [.lit z2],OB.row z2 88 2 (out.map spC),OB.var b1 [ZQ ([]:List Stp)]]) (Zc7 hJ ((ge ss k).args) oz) Zgp rfl hS hJ0 Zq hk hx (Za (hl.D 4 42 rfl rfl) Zd)) fun v w' ⟨i,hp,hv⟩=>⟨i,rfl,fun k' hk'=>absurd hk' (Nat.not_lt_zero _),fun _=>hv.lit,hp⟩⟩
   case e8_2_1=>exact⟨_,rfl,rfl,rfl,rfl,fun g _ w hk hx hl hs=>Zk (ZhT (i:=k) (j:=1) (c:=.lit g) hJ hJ0 Zak rfl hk (Yw (Yp (A:=[OB.row g 3 1 ((((ge ss k).args)).map Xa),OB.var b3 [.lit z2]])) hx) (hl.D 7 45 rfl rfl) (by rw[(hs 0 5 _ 43 oz rfl rfl rfl)];exact Rel.of_lit _ (ZaX (hx.2.1 _ (mo 0 rfl)))) (Qq (xs:=out) (k:=k) (by first | omega | (simp;omega) | grind[Zg])) (lb rfl)) fun v w' hp=>⟨g,rfl,fun _ _=>rfl,fun e=>(by cases e),Xd (Yp (A:=[OB.row g 3 1 ((((ge ss k).args)).map Xa),OB.var b3 [.lit z2]])).symm (Yp (A:=[OB.row g 3 1 ((((ge ss k).args)).map Xa),OB.var b3 [.lit z2]])).symm hp⟩⟩
   clear a w h
   intro z5
   dsimp only[List.map]
   refine nx (ZK tb hJ [1,2,3,4,5,6,7,1001,1002,1003] [_,_,.int (((ge ss k).args).length:Nat),_] [2] [_,_,_,_,_,_,_,_,_,_] rfl ⟨Ym YE,trivial⟩ ?_)
   refine ln 7 fun hl2=>?_
   refine Ze (lpo (ι:=Nat×(List Int)) (fun(q,nums)=>(q≤(ge ss k).args.length)∧(nums=Zin (Zvr c) (ge ss k).args q)) (fun(_,nums)=>[OB.row z5 3 1 (nums.map Xa),OB.var b3 [.lit z2],OB.row z2 88 2 ((out.map spC).set k ((spC (ge out k)).set 1 (.lit z5))),OB.var b1 [ZQ ([]:List Stp)]]) (fun(q,_)=>[(49,.int (q:Nat))]) (fun(q,_)=>(ge ss k).args.length-q) [0,1,2,3,4,5,6,7,8,9] [_,_,_,_,_,_,_,_,_] (0,((ge ss k).args)) ⟨nzl,mf_zero.symm⟩ ?_)
   rintro⟨q,nums⟩ ⟨f2_1,f2_2⟩
   refine qso tb hJ [0,1,2,3,4,5,6,7,8,9,1000] [_] [_,_,_,_,_,_,_,_,_,_,_] ?_
   refine cjS 10 (fun hb3=>?_) fun hb3=>?_
   ·
    try simp at hb3
    have e7:nums.length=(ge ss k).args.length:=by rw[f2_2,ZnK]
    refine Zc (nx (Zh (Ze (ZK tb hJ [0,1,2,3,4,5,6,7,8,9,1003,1004] [_,.ptr [.lit (.int .i64 ((ge ((ge ss k).args) q)))],_,_,_] [1] [_,_,_,_,_,_,_,_,_,_,_,_] rfl ⟨iIx ZC,trivial⟩ ?_))))
    refine qso tb hJ [0,1,2,3,4,5,6,7,8,9,10,1003] [_,_,_,_] [_,_,_,_,_,_,_,_,_,_,_,_] ?_
    refine cj 11 (fun hb4=>?_) fun hb4=>?_
    ·
     try simp at hb4
     refine fun a w h=>YJ (γ:=Unit) (fun ix'=>([.at b3 0,.lit z2,.int (k:Nat),.lit (YS z2 (k*2)),.lit (YS z2 (k*2+1)),.lit z5,.int (q:Nat),.ptr [ZX c.args,.lit (.int .i64 c.before),.lit (.int .i64 c.after)],.rd (ZX c.args),.ptr [.lit (.int .i64 (ge c.args 0))],.int (ge c.args 0),.lit (YS z5 (q*1)),.any]:List AV).getD ix' .any) (fun _=>true) [(6,fun _=>.int (k:Nat)),(5,fun _=>.at b3 0),(4,fun _=>.at b1 0),(3,fun _=>.ptr (chC c)),(31,fun _=>.lit z2),(32,fun _=>.int (ss.length:Nat)),(33,fun _=>.int (k:Nat)),(47,fun _=>.rd (ZX ((ge ss k).args))),(48,fun _=>.int (((ge ss k).args).length:Nat)),(49,fun _=>.int (q:Nat))] (fun j' _=>match j' with | 0=>[OB.row z5 3 1 (nums.map Xa),OB.var b3 [.lit z2],OB.row z2 88 2 ((out.map spC).set k ((spC (ge out k)).set 1 (.lit z5))),OB.var b1 [ZQ ([]:List Stp)]] | _=>[OB.row z5 3 1 ((nums.set q (ge c.args 0)).map Xa),OB.var b3 [.lit z2],OB.row z2 88 2 ((out.map spC).set k ((spC (ge out k)).set 1 (.lit z5))),OB.var b1 [ZQ ([]:List Stp)]]) (fun _ _=>undef) [12] 0 () (fun _=>rfl) h hJ Yk rfl rfl rfl rfl rfl rfl hsb ⟨?_,?_,?_,?_,?_,?_,?_,?_,?_,?_,?_,?_,?_,trivial⟩ ⟨?e13_3_0,trivial⟩ ⟨.old 0 6 _,.old 1 5 _,.old 2 4 _,.old 3 3 _,.old 4 31 _,.old 5 32 _,.old 6 33 _,.old 7 47 _,.old 8 48 _,.old 9 49 _,trivial⟩ ?n13_3
     exact oX rfl fun hx hl=>Zy Yz rfl (hl.env 1 5 _ rfl rfl) hx
     exact fun _ O' hO'=>⟨rfl,fun _ _ _ hx hl _=>Zs Zaq rfl (Zf hx (hO' _ (mo 1 rfl))) (hl.D 0 58 rfl rfl) rfl hx⟩
     exact oX rfl fun hx hl=>ZW rfl (hl.env 0 6 _ rfl rfl) hx
     exact fun _ O' hO'=>⟨rfl,fun _ _ _ hx hl _=>Yc (i:=((k:Nat):Int)) Z3 rfl (Zf hx (hO' _ (mo 2 rfl))) (hl.D 1 59 rfl rfl) (hl.D 2 60 rfl rfl) nnn (by rw[List.length_set,List.length_map];exact Int.ofNat_lt.2 (by first | omega | (simp;omega) | grind[Zg])) hx⟩
     exact fun _ O' hO'=>⟨rfl,fun _ _ _ hx hl _=>Zcs Qa rfl (Zf hx (hO' _ (mo 2 rfl))) (by rw[List.length_set,List.length_map];exact Nat.lt_of_le_of_lt (Nat.zero_le k) (by first | omega | (simp;omega) | grind[Zg])) (hl.D 3 61 rfl rfl) hx⟩
     exact fun _ O' hO'=>⟨rfl,fun _ _ _ hx hl _=>ZlL (i:=k) (j:=1) QG rfl (Zf hx (hO' _ (mo 2 rfl))) (hl.D 4 62 rfl rfl) (ZfN (xs:=out) (k:=k) (by first | omega | (simp;omega) | grind[Zg])) rfl hx⟩
     exact oX rfl fun hx hl=>ZW rfl (hl.env 10 8 _ rfl rfl) hx
     exact oX rfl fun hx hl=>ZE ZcE rfl (hl.env 3 3 _ rfl rfl) hx
     exact oX rfl fun hx hl=>Zz QG rfl (hl.D 7 65 rfl rfl) hx
     exact oX rfl fun hx hl=>ZU (i:=((0:Nat):Int)) ZC rfl (hl.D 8 66 rfl rfl) (Rel.of_lit (Go.Value.int Go.IntKind.i64 0)) nnn (Z0 (xs:=c.args) (k:=0) (by first | omega | (simp;omega) | grind[Zg])) rfl hx
     exact oX rfl fun hx hl=>Zz Zcv rfl (hl.D 9 67 rfl rfl) hx
     exact fun _ O' hO'=>⟨rfl,fun _ _ _ hx hl _=>Yc (i:=((q:Nat):Int)) ZC rfl (Zf hx (hO' _ (mo 0 rfl))) (hl.D 5 63 rfl rfl) (hl.D 6 64 rfl rfl) nnn (by rw[List.length_map];exact Int.ofNat_lt.2 (by first | omega | (simp;omega) | grind[Zg])) hx⟩
     exact Zi rfl
     case e13_3_0=>exact⟨_,rfl,rfl,rfl,rfl,fun g _ w hk hx hl _=>Zk (Zjh (f:=Xa) (i:=q) (ge c.args 0) rfl hJ hJ0 ZbU rfl hk hx (hl.D 11 69 rfl rfl) (hl.D 10 68 rfl rfl) (by first | omega | (simp;omega) | grind[Zg])) fun v w' hp=>⟨g,rfl,fun _ _=>rfl,fun e=>(by cases e),hp⟩⟩
     clear a w h
     intro _
     dsimp only[List.map]
     refine nx (YR tb hJ [0,1,2,3,4,5,6,7,8,1001] [.int (q+1:Nat),_] [0] [_,_,_,_,_,_,_,_,_,_] rfl ⟨YN,trivial⟩ ?_)
     exact Xf (q+1,nums.set q (ge c.args 0)) [0,1,2,3,4,5,6,7,8,9] ⟨oz,by first | (rw[f2_2,←Zf7 (f:=Zvr c) oz];simp[Zvr,hb4];done) | (rw[f2_2];exact ZnJ oz (if_neg hb4))⟩
    ·
     try simp at hb4
     refine Zc (nx (YR tb hJ [0,1,2,3,4,5,6,7,8,1001] [.int (q+1:Nat),_] [0] [_,_,_,_,_,_,_,_,_,_] rfl ⟨YN,trivial⟩ ?_))
     exact Xf (q+1,nums) [0,1,2,3,4,5,6,7,8,9] ⟨oz,by first | (rw[f2_2,←Zf7 (f:=Zvr c) oz];simp[Zvr,hb4];done) | (rw[f2_2];exact ZnJ oz (if_neg hb4))⟩
   ·
    try simp at hb3
    refine Zu (nx (tw pm2 (tw pm1 ?_)))
    refine tw (fun h=>ZbR (rows':=(out.set k (⟨(ge out k).label,nums⟩:Stp)).map spC) (i:=k) (j:=1) hS (ZfN (xs:=out) (k:=k) (by first | omega | (simp;omega) | grind[Zg])) rfl (by rw[List.map_set,List.set_set];rfl) h) (YR tb hJ [1,2,3,4,5,1001] [.int (k+1:Nat),_] [0] [_,_,_,_,_,_] rfl ⟨YN,trivial⟩ ?_)
    refine kw pm2 (kw pm1 ?_)
    exact kw pm2 (Xf (k+1,out.set k (⟨(ge out k).label,nums⟩:Stp)) [0,1,2,3,4,5] ⟨oz,by rw[f1_2,Zt2 oz,f2_2,ZsK (l:=(ge ss k).args) (q:=q) oz,ZpE,Zf7 oz]⟩)
  ·
   try simp at hb2
   have e1:out=ss.map (ZbV c):=by rw[f1_2,ZsK (l:=ss) (q:=k) oz]
   have e5:out.length=ss.length:=by rw[e1,List.length_map]
   refine Zu (nx (Zh (ZqG tb hJ [0,1,2,1006] [_,_,.at b3 0,.lit z2,.int (out.length:Nat),.int (((out.length:Nat):Int)-(1:Int)),_] [2,3,4,5] [_,_,_,_] rfl ⟨fun _ _ _ hx hl _=>Zy Yz rfl (hl.env 0 5 _ rfl rfl) hx,fun _ _ _ hx hl _=>Zs Zaq rfl (Zb3 hx (mo 0 rfl)) (hl.D 2 74 rfl rfl) rfl hx,fun _ _ _ hx hl _=>Zam Z1 rfl (XK hS hx (mo 1 rfl) (hl.D 3 75 rfl rfl)) hx,ZsP,trivial⟩ ?_)))
   refine cj 3 (fun hb5=>?_) fun hb5=>?_
   ·
    try simp at hb5
    have e9:XY ss c=Zct ((ss.map (ZbV c)).take (ge c.args 0+1).toNat):=by rw[XY,if_neg hb1,if_pos oz]
    refine tw pm1 (tw (fun h=>List.map_take▸ZmS (m:=((ge c.args 0)+(1:Int)).toNat) (by rw[List.length_map];exact(by first | omega | (simp;omega) | grind[Zg])) h) ?_)
    refine tw pm1 (fun a w h=>YJ (γ:=Unit) (fun ix'=>([.at b3 0,.lit z2,.ptr [ZX c.args,.lit (.int .i64 c.before),.lit (.int .i64 c.after)],.rd (ZX c.args),.ptr [.lit (.int .i64 (ge c.args 0))],.int (ge c.args 0),.int ((ge c.args 0)+(1:Int)),.lit ((QR z2 (((ge c.args 0)+(1:Int)).toNat))),.at b3 0,.any]:List AV).getD ix' .any) (fun _=>true) [(5,fun _=>.at b3 0),(4,fun _=>.at b1 0)] (fun j' _=>match j' with | 0=>[OB.var b3 [.lit z2],OB.row (QR z2 (((ge c.args 0)+(1:Int)).toNat)) 88 2 ((out.take (((ge c.args 0)+(1:Int)).toNat)).map spC),OB.var b1 [ZQ ([]:List Stp)]] | _=>[OB.var b3 [.lit ((QR z2 (((ge c.args 0)+(1:Int)).toNat)))],OB.row (QR z2 (((ge c.args 0)+(1:Int)).toNat)) 88 2 ((out.take (((ge c.args 0)+(1:Int)).toNat)).map spC),OB.var b1 [ZQ ([]:List Stp)]]) (fun _ _=>undef) [9] 0 () (fun _=>rfl) h hJ Yk rfl rfl rfl rfl rfl rfl hsb ⟨?_,?_,?_,?_,?_,?_,?_,?_,?_,?_,trivial⟩ ⟨?e17_4_0,trivial⟩ ⟨.old 0 5 _,.old 1 4 _,trivial⟩ ?n17_4)
    exact oX rfl fun hx hl=>Zy Yz rfl (hl.env 0 5 _ rfl rfl) hx
    exact fun _ O' hO'=>⟨rfl,fun _ _ _ hx hl _=>Zs Zaq rfl (Zf hx (hO' _ (mo 0 rfl))) (hl.D 0 79 rfl rfl) rfl hx⟩
    exact oX rfl fun hx hl=>ZE ZcE rfl (hl.env 2 3 _ rfl rfl) hx
    exact oX rfl fun hx hl=>Zz QG rfl (hl.D 2 81 rfl rfl) hx
    exact oX rfl fun hx hl=>ZU (i:=((0:Nat):Int)) ZC rfl (hl.D 3 82 rfl rfl) (Rel.of_lit (Go.Value.int Go.IntKind.i64 0)) nnn (Z0 (xs:=c.args) (k:=0) (by first | omega | (simp;omega) | grind[Zg])) rfl hx
    exact oX rfl fun hx hl=>Zz Zcv rfl (hl.D 4 83 rfl rfl) hx
    exact oX rfl fun hx hl=>ZpW (i:=(ge c.args 0)) (j:=(1:Int)) rfl (hl.D 5 84 rfl rfl) (Rel.of_lit (Go.Value.int Go.IntKind.i64 1)) (by first | omega | (simp;omega) | grind[Zg]) (by first | omega | (simp;omega) | grind[Zg]) hx
    exact fun _ O' hO'=>⟨rfl,fun _ _ _ hx hl _=>ZdJ (m:=((ge c.args 0)+(1:Int)).toNat) Z3 rfl (Zf hx (hO' _ (mo 1 rfl))) (by first | rfl | (rw[List.length_map];exact(by first | omega | (simp;omega) | grind[Zg]))) (hl.D 1 80 rfl rfl) (Zty (by first | omega | (simp;omega) | grind[Zg]) (hl.D 6 85 rfl rfl)) hx⟩
    exact oX rfl fun hx hl=>Zy Yz rfl (hl.env 0 5 _ rfl rfl) hx
    exact Zi rfl
    case e17_4_0=>exact⟨_,rfl,rfl,rfl,rfl,fun g _ w hk hx hl _=>Zk (Zdc (off:=0) (es:=[_]) (c:=.lit ((QR z2 (((ge c.args 0)+(1:Int)).toNat)))) hJ hJ0 Zg1 rfl hk hx (hl.D 8 87 rfl rfl) (hl.D 7 86 rfl rfl) (lb rfl) rfl) fun v w' hp=>⟨g,rfl,fun _ _=>rfl,fun e=>(by cases e),hp⟩⟩
    clear a w h
    intro _
    dsimp only[List.map]
    refine nx (tw pm1 (tw (fun h=>Y7 (j:=0) (cs':=[ZQ (out.take (((ge c.args 0)+(1:Int)).toNat))]) hS rfl rfl h) ?_))
    refine tsq (sy (.agg (pfC (out.take (((ge c.args 0)+(1:Int)).toNat)))) (fun h=>Yt (ds:=[ZQ (out.take (((ge c.args 0)+(1:Int)).toNat))]) Yu rfl (Zf h.x (mo 0 rfl)) (h.get 0 rfl) rfl rfl h.x) ?_)
    refine sy (.agg (pfC ((Zct (out.take (((ge c.args 0)+(1:Int)).toNat)))))) (fun h=>Zbj (ZfS hJ (out.take (((ge c.args 0)+(1:Int)).toNat)) (by first | exact Zf1 hok (k:=c.step.toNat) (s:=⟨c.label,c.args⟩) ⟨hcl,fun a ha=>by have:=hca a ha;omega⟩ | (rw[e1];exact hsh) | (rw[e1];exact ZdW hsh oz))) Zjp rfl (Zm hS _ h.keep h.x) (h.x.1) (Za (h.get 0 rfl) Zd) (jo hJ h.x)) ?_
    refine kw pm1 (Zt (b:=b1) (off:=0) (es:=[_]) (news:=[_]) hJ hJ0 Y5 rfl rfl rfl (lb rfl) rfl (fun a w h=>⟨(h.get 3 rfl),(h.get 0 rfl)⟩) ?_)
    exact seK [3] [_] rfl (nx (Zv (fun a w h=>Zby (m:=0) rfl Yu h rfl rfl (show(_:List CD)=[ZQ (XY ss c)]from by(first | (rw[e9];done) | rw[e9,←e1])<;>rfl))))
   ·
    try simp at hb5
    have e9:XY ss c=Zct (ss.map (ZbV c)):=by rw[XY,if_neg hb1,if_neg oz]
    refine Zc (nx (tw pm1 (tw (fun h=>Y7 (j:=0) (cs':=[ZQ out]) hS rfl rfl h) ?_)))
    refine tsq (sy (.agg (pfC out)) (fun h=>Yt (ds:=[ZQ out]) Yu rfl (Zf h.x (mo 0 rfl)) (h.get 0 rfl) rfl rfl h.x) ?_)
    refine sy (.agg (pfC (Zct out))) (fun h=>Zbj (ZfS hJ out (by first | exact Zf1 hok (k:=c.step.toNat) (s:=⟨c.label,c.args⟩) ⟨hcl,fun a ha=>by have:=hca a ha;omega⟩ | (rw[e1];exact hsh) | (rw[e1];exact ZdW hsh oz))) Zjp rfl (Zm hS _ h.keep h.x) (h.x.1) (Za (h.get 0 rfl) Zd) (jo hJ h.x)) ?_
    refine kw pm1 (Zt (b:=b1) (off:=0) (es:=[_]) (news:=[_]) hJ hJ0 Y5 rfl rfl rfl (lb rfl) rfl (fun a w h=>⟨(h.get 3 rfl),(h.get 0 rfl)⟩) ?_)
    exact seK [3] [_] rfl (nx (Zv (fun a w h=>Zby (m:=0) rfl Yu h rfl rfl (show(_:List CD)=[ZQ (XY ss c)]from by(first | (rw[e9];done) | rw[e9,←e1])<;>rfl))))
end Go.Proofs.YtdfadihhfppjaaaGreatDoor
