/-
  A SLICE OF STEPS THAT THE CALL ITSELF GROWS: its row, and the rows of its Args beside it.
-/
import Derived.Test.YtaigaoflehfdcaaGreatDoorZGAE
import Derived.OwnWalkIn
import Derived.RangeFuncBox
namespace Go.Proofs.YtaigaoflehfdcaaGreatDoor
open Go.RowKit
theorem Keeps.upto {S:Nat→Prop} {w A B:World} (h:Keeps All w A) (hk:Keeps S A B) (hs:∀ k,k<w.heap.size→S k):Keeps All w B:=
 ⟨hk.os.trans h.os,hk.tape.trans h.tape,hk.output.trans h.output,Nat.le_trans h.size hk.size,fun k hlt _=>(hk.block k (Nat.lt_of_lt_of_le hlt h.size) (hs k hlt)).trans (h.block k hlt trivial)⟩
theorem IsInts.move {S S' T:Nat→Prop} {w w':World} {v:Value} {xs:List Int} (h:IsInts S w v xs) (hk:Keeps T w w') (hs:∀ k,k<w.heap.size→S k→T k∧S' k):IsInts S' w' v xs:=by
 obtain⟨a,cap,hv,hl,hx,h⟩:=h
 refine⟨a,cap,hv,hl,hx,?_⟩
 rcases h with h | ⟨b,off,ha,hB,hS,hc⟩
 · exact Or.inl h
 · exact Or.inr ⟨b,off,ha,by have:=hk.size;omega,(hs _ hB hS).2,fun i hi=>hk.cell (hs _ hB hS).1 (hc i hi)⟩
theorem IsSteps.move {S S' T:Nat→Prop} {w w':World} {v:Value} {ss:List Stp} (h:IsSteps S w v ss) (hk:Keeps T w w') (hs:∀ k,k<w.heap.size→S k→T k∧S' k):IsSteps S' w' v ss:=by
 obtain⟨a,cap,hv,hl,h⟩:=h
 refine⟨a,cap,hv,hl,?_⟩
 rcases h with h | ⟨b,off,ha,hB,hS,hc⟩
 · exact Or.inl h
 · refine Or.inr ⟨b,off,ha,by have:=hk.size;omega,(hs _ hB hS).2,fun i hi=>?_⟩
   obtain⟨h1,va,h2,h3⟩:=hc i hi
   exact⟨hk.cell (hs _ hB hS).1 h1,va,hk.cell (hs _ hB hS).1 h2,h3.move hk hs⟩
theorem ZdB {P:Program} (w:World) (base:Nat) (t ty e:TypeId) (i:TypeInfo) (z:Value) (size bytes:Nat) (ht:P.underlying t=some (.slice e)) (hi:P.info? e=some i) (hz:i.zero=some z)
 (hsize:i.size=size) (hby:i.bytes=bytes) (hzs:z.cells.size=size) (hsz:0<size)
 (v:Value) (n:Nat) (xs:List Value) (hown:w.ownsRow base e size v n xs)
 (a:Addr) (m c:Nat) (news:List Value) (hl:news.length=m*size) (hnews:∀ j u,news[j]?=some u→w.cell? (a.add j)=some u) (h1:∀ u∈news,u.oneCell'=true)
 (h63:n+m≤maxLen) (hbytes:(n+m)*bytes≤140737488355328) (hbase:base≤w.heap.size):
 ∃ v' w',(Builtin.append_ #[t,t] ty #[v,.slice (some a) m c]).run P w= .ok v' w'∧w'.ownsRow base e size v' (n+m) (xs++news)∧w.grownBy w' v.ownBlock∧
  (v'.ownBlock=v.ownBlock∨v'.ownBlock=some w.heap.size):=by
 obtain⟨v',w',hr,h2,h3,h4⟩:=run_append_own (P:=P) w base t ty e i z size bytes ht hi hz hsize hby hzs hsz v n xs hown a m c news hl hnews h1 h63 hbytes hbase
 refine⟨v',w',hr,h2,h3,?_⟩
 subst hsize
 subst hby
 have hsmall:n+m≤9223372036854775807:=by simp only[maxLen]at h63;omega
 rcases hown.2 with⟨rfl,rfl⟩ | ⟨g,cap,cur,rfl,hbg,hg,hnc,hcm,hcs,htake⟩
 · by_cases hm:m=0
   · have:=h4.2 ⟨rfl,hm⟩
     subst this
     exact Or.inl rfl
   · have hr2:=run_append_nil (P:=P) w t ty e i z ht hi hz a m c news hl hnews (by omega) (by omega) (by have hb:=hbytes;simp only[Nat.zero_add]at hb;omega)
     rw[hr]at hr2
     cases hr2
     exact Or.inr rfl
 · by_cases hroom:n+m≤cap
   · have hfit:n*i.size+news.length≤cur.size:=by rw[hl,hcs,←Nat.add_mul];exact Nat.mul_le_mul_right _ hroom
     have hr2:=run_append_room (P:=P) w t ty e i ht hi g n cap cur hg a m c news hl hnews h1 hroom hfit
     rw[hr]at hr2
     cases hr2
     exact Or.inl rfl
   · have holds:∀ j u,xs[j]?=some u→w.cell? ((⟨g,0,none⟩:Addr).add j)=some u:=hown.cells (g:=g) rfl
     have hr2:=run_append_grow (P:=P) w t ty e i z ht hi hz ⟨g,0,none⟩ n cap xs hown.1 holds a m c news hl hnews (by omega) (by omega) (growslice_fits (by omega) hbytes)
     rw[hr]at hr2
     cases hr2
     exact Or.inr rfl
theorem Xn {F:Fence} {n:Nat} {P:Program} (w:World) {ops:Array Oper} {rest:List Oper} {o:Oper} {a:Act} {Q:Exit→Act→World→Prop}
 (hg:o.guard=none) (s x:Operand) (t:TypeId) (hop:o.op=Op.call { callee:=Callee.builtin Builtin.append,args:= #[s,x],argTypes:= #[t,t] })
 (base:Nat) (e:TypeId) (i:TypeInfo) (z:Value) (size bytes:Nat) (h1:P.underlying t=some (.slice e)) (h2:P.info? e=some i) (h3:i.zero=some z) (h4:i.size=size) (h5:i.bytes=bytes) (h6:z.cells.size=size) (h7:0<size)
 (v:Value) (k:Nat) (xs:List Value) (hs:a.eval s=v) (hown:w.ownsRow base e size v k xs) (ad:Addr) (m c:Nat) (news:List Value) (hx:a.eval x= .slice (some ad) m c) (hn:news.length=m*size)
 (hc:∀ j u,news[j]?=some u→w.cell? (ad.add j)=some u) (h1c:∀ u∈news,u.oneCell'=true) (b1:k+m≤maxLen) (b2:(k+m)*bytes≤140737488355328) (b3:base≤w.heap.size)
 (hK:∀ v' w',w'.ownsRow base e size v' (k+m) (xs++news)→w.grownBy w' v.ownBlock→(v'.ownBlock=v.ownBlock∨v'.ownBlock=some w.heap.size)→wpListIn F n P ops Q rest (a.put o.dst v') w'):
 wpListIn F n P ops Q (o::rest) a w:=by
 refine wpListIn_plain hg fun K hK'=>?_
 obtain⟨v',w',hrun,r1,r2,r3⟩:=ZdB (P:=P) w base t o.type e i z size bytes h1 h2 h3 h4 h5 h6 h7 v k xs hown ad m c news hn hc h1c b1 b2 b3
 have hsem:o.semAt F.round a.eval=execOp a.eval o:=Oper.semAt_plain F _ _ (by rw[hop];intro c hc';cases hc')
 refine⟨by simp[Oper.about,hop,resolve,Target.leads,Sem.run_pure],?_⟩
 rw[hsem]
 simp[execOp,hop,resolve,invoke,builtin,hs,hx,hrun,Result.andThen]
 exact hK' _ _ (hK v' w' r1 r2 r3)
def Xe:List Stp→List Value→List Value
 | s::ss,v::vs=>.string s.label::v::Xe ss vs
 | _,_=>[]
theorem Zae:∀(ss:List Stp) (vs:List Value) (s:Stp) (v:Value),vs.length=ss.length→Xe (ss++[s]) (vs++[v])=Xe ss vs++[.string s.label,v]
 | [],[],_,_,_=>rfl
 | s::ss,v::vs,s',v',h=>by simp only[List.cons_append,Xe];rw[Zae ss vs s' v' (by simpa using h)]
 | [],_::_,_,_,h=>by simp at h
 | _::_,[],_,_,h=>by simp at h
theorem Zch:∀(ss:List Stp) (vs:List Value) (_:vs.length=ss.length) (i:Nat) (hi:i<ss.length) (hv:i<vs.length),
 (Xe ss vs)[i*2]?=some (.string ss[i].label)∧(Xe ss vs)[i*2+1]?=some vs[i]
 | s::ss,v::vs,h,0,_,_=>by simp[Xe]
 | s::ss,v::vs,h,i+1,hi,hv=>by
  have ih:=Zch ss vs (by simpa using h) i (by simpa using hi) (by simpa using hv)
  simp only[Xe]
  rw[show(i+1)*2=i*2+1+1 by omega]
  simp only[List.getElem?_cons_succ,List.getElem_cons_succ]
  exact ih
 | [],_,_,_,hi,_=>by simp at hi
 | _::_,[],h,_,_,_=>by simp at h
def OwnSteps (lo:Nat) (W:World) (v:Value) (ss:List Stp):Prop:=
 ∃ vs:List Value,∃ hl:vs.length=ss.length,W.ownsRow lo 69 2 v ss.length (Xe ss vs)∧
  ∀ i (h:i<ss.length),IsInts (fun k=>lo≤k∧v.ownBlock≠some k) W (vs[i]'(by omega)) ss[i].args
theorem OwnSteps.nil (lo:Nat) (W:World):OwnSteps lo W (.slice none 0 0) []:=
 ⟨[],rfl,World.ownsRow_nil W lo _ _,fun i h=>by simp at h⟩
theorem Keeps.grownBy {lo:Nat} {W W':World} {v:Value} {n:Nat} {xs:List Value} {e:TypeId} {size:Nat} {S:Nat→Prop} (h:W.ownsRow lo e size v n xs) (hk:Keeps S W W') (hs:∀ k,lo≤k→S k):W'.ownsRow lo e size v n xs:=by
 refine⟨h.1,?_⟩
 rcases h.2 with hn | ⟨g,cap,cur,rfl,hb,hg,rest⟩
 · exact Or.inl hn
 · exact Or.inr ⟨g,cap,cur,rfl,hb,(hk.block g (Array.getElem?_eq_some_iff.1 hg).1 (hs g hb)).trans hg,rest⟩
theorem OwnSteps.keep {lo:Nat} {W W':World} {v:Value} {ss:List Stp} {S:Nat→Prop} (h:OwnSteps lo W v ss) (hk:Keeps S W W') (hs:∀ k,lo≤k→S k):OwnSteps lo W' v ss:=by
 obtain⟨vs,hl,ho,hi⟩:=h
 exact⟨vs,hl,Keeps.grownBy ho hk hs,fun i h=>(hi i h).keep hk fun k _ h=>hs k h.1⟩
theorem OwnSteps.snoc {lo:Nat} {W W':World} {v v':Value} {ss:List Stp} {s:Stp} {va:Value} {vs:List Value} (hl:vs.length=ss.length)
 (hi:∀ i (h:i<ss.length),IsInts (fun k=>lo≤k∧v.ownBlock≠some k) W (vs[i]'(by omega)) ss[i].args)
 (ha:IsInts (fun k=>lo≤k∧v.ownBlock≠some k) W va s.args)
 (ho':W'.ownsRow lo 69 2 v' (ss.length+1) (Xe ss vs++[.string s.label,va])) (hg:W.grownBy W' v.ownBlock)
 (hnew:v'.ownBlock=v.ownBlock∨ ∀ k,v'.ownBlock=some k→W.heap.size≤k):OwnSteps lo W' v' (ss++[s]):=by
 have hk:Keeps (fun k=>v.ownBlock≠some k) W W':=⟨hg.os,hg.tape,hg.output,hg.size,fun k hk hs=>hg.block k hk (fun e=>hs e.symm)⟩
 have hsub:∀ k,k<W.heap.size→(lo≤k∧v.ownBlock≠some k)→v.ownBlock≠some k∧(lo≤k∧v'.ownBlock≠some k):=fun k hlt hk=>⟨hk.2,hk.1,by
  rcases hnew with h | h
  · rw[h];exact hk.2
  · intro e;have:=h k e;omega⟩
 refine⟨vs++[va],by simp[hl],?_,?_⟩
 · rw[Zae _ _ _ _ hl,List.length_append];exact ho'
 · intro i h
   by_cases hlt:i<ss.length
   · have h1:=(hi i hlt).move hk hsub
     simp only[List.getElem_append_left (show i<vs.length by omega),List.getElem_append_left hlt]
     exact h1
   · have h2:i=ss.length:=by simp at h;omega
     subst h2
     have h1:=ha.move hk hsub
     simp only[List.getElem_append_right (show vs.length≤ss.length by omega),List.getElem_append_right (Nat.le_refl _),Nat.sub_self,hl,List.getElem_cons_zero]
     exact h1
theorem OwnSteps.isSteps {lo:Nat} {W:World} {v:Value} {ss:List Stp} (h:OwnSteps lo W v ss) (hn:ss.length≤140737488351232):IsSteps (fun k=>lo≤k) W v ss:=by
 obtain⟨vs,hl,ho,hi⟩:=h
 rcases ho.2 with⟨rfl,h0⟩ | ⟨g,cap,cur,rfl,hb,hg,_⟩
 · have:ss=[]:=List.eq_nil_of_length_eq_zero h0
   subst this
   exact⟨none,0,rfl,hn,Or.inl ⟨rfl,trivial⟩⟩
 · refine⟨_,cap,rfl,hn,Or.inr ⟨g,0,rfl,(Array.getElem?_eq_some_iff.1 hg).1,hb,fun i h=>?_⟩⟩
   have hc:=ho.cells (g:=g) rfl
   obtain⟨h1,h2⟩:=Zch ss vs hl i h (by omega)
   have a1:=hc _ _ h1
   have a2:=hc _ _ h2
   have hadd:∀ j,(⟨g,0,none⟩:Addr).add j=⟨g,j,none⟩:=fun j=>by unfold Addr.add;split<;>simp_all
   rw[hadd]at a1 a2
   exact⟨by rw[Nat.zero_add];exact a1,_,by rw[Nat.zero_add];exact a2,(hi i h).sub fun k _ hk=>hk.1⟩
end Go.Proofs.YtaigaoflehfdcaaGreatDoor
