/-
  THE ENGINE: a part of an element of an own row; a store there that changes nothing.
-/
import Derived.Test.YtneapgbkkkjagaaGreatDoorYAB
import Derived.Laws.Pointers
namespace Go.Proofs.YtneapgbkkkjagaaGreatDoor
open Go.RowKit
section
variable {n:Rn} {N:Nat} {P:Program} {J X:WP} {S S' S'':Nat→Prop} {O:List OB} {w0:World} {env:List (Nat×AV)} {Q:Exit→Act→WP}
variable {o:Oper} {a:Act} {w:World} {x y:Operand} {t e:TypeId} {v:Value} {k:Nat} {rows:List (List CD)}
theorem ZdC {s:TypeId} {f d j:Nat} (h1:ZX P s f d) (hop:o.op= .fieldAddr s x f) (hi:∃ lo,(OB.row v e k rows).inv lo S w) (h0:0<rows.length) (h:Rel S' w (.lit (Y8 v j)) (a.eval x)) (hx:X w):Yj n P o a w (YB S X (.lit (Y8 v (j+d))) w):=by
 obtain⟨lo,hi⟩:=hi
 obtain⟨g,cap,us,cur,rfl,_⟩:=ZaD hi h0
 refine ZC (v:=.pointer (some ⟨g,j+d,none⟩)) ?_ (Rel.of_lit _) hx
 have hv:=h.lit
 simp only[Y8]at hv
 simp[execOp,hop,hv,h1 g j w]
theorem Zl7 {c:CD} {r:List CD} {i j:Nat} (h1:QM P t) (hop:o.op= .load t x) (hi:∃ lo,(OB.row v e k rows).inv lo S w) (h:Rel S' w (.lit (Y8 v (i*k+j))) (a.eval x)) (hr:rows[i]?=some r) (hc:r[j]?=some c) (hx:X w):Yj n P o a w (YB S X (.rd c) w):=by
 obtain⟨lo,hi⟩:=hi
 obtain⟨g,cap,rfl,us,hrd,hcell⟩:=ZeO hi hr
 have hj:j<us.length:=by rw[hrd.length];exact(List.getElem?_eq_some_iff.1 hc).1
 have h0:=hcell j _ (List.getElem?_eq_getElem hj)
 refine ZC (v:=us[j]) ?_ (by simp only[Rel];exact hrd.get hc (List.getElem?_eq_getElem hj)) hx
 have hv:=h.lit
 simp only[Y8]at hv
 simp[execOp,hop,hv,Instr.loadAt,Instr.sureAddr,loadVar,Sem.run_bind,h1 w,h0]
theorem ZvY {i j:Nat} {r:List CD} {c:CD} (hlen:∀ q∈rows,q.length=k) (hr:rows[i]?=some r) (hc:r[j]?=some c):rows.flatten[i*k+j]?=some c:=by
 have hlt:i<rows.length:=(List.getElem?_eq_some_iff.1 hr).1
 have hge:rows[i]=r:=(List.getElem?_eq_some_iff.1 hr).2
 have hj:j<r.length:=(List.getElem?_eq_some_iff.1 hc).1
 rw[←List.getElem?_drop,Za5 rows i hlen,List.drop_eq_getElem_cons hlt,hge,List.flatten_cons,List.getElem?_append_left hj,hc]
theorem Zpz {c:CD} {r:List CD} {i j:Nat} (hJ:Stab J) (hJ0:J w0) (hs:XR P t 1) (hop:o.op= .store t x y) (hk0:Keeps All w0 w) (hx:XO J S w0.heap.size (OB.row v e k rows::O) w) (h1:Rel S' w (.lit (Y8 v (i*k+j))) (a.eval x))
 (h2:Rel (SO S (OB.row v e k rows::O)) w (.rd c) (a.eval y)) (hrow:rows[i]?=some r) (hc:r[j]?=some c):
 Yj n P o a w fun _ w'=>Zbp J S w0 (OB.row v e k rows::O) w (OB.row v e k rows::O) w':=by
 have hl:i<rows.length:=(List.getElem?_eq_some_iff.1 hrow).1
 obtain⟨g,cap,old,cur,rfl,hlo,hg,hnc,hcm,hcs,htake,hul,hrd,hlen⟩:=ZaD (hx.2.1 (OB.row v e k rows) yz) oz
 simp only[Rel]at h2
 have hv:(a.eval y).cells.toList=[a.eval y]:=by rw[ZbR h2.one]
 have hge:rows[i]=r:=(List.getElem?_eq_some_iff.1 hrow).2
 have hj:j<r.length:=(List.getElem?_eq_some_iff.1 hc).1
 have hrk:r.length=k:=hlen r (hge▸List.getElem_mem hl)
 have hik:i*k+j+1≤rows.length*k:=by
  have:=Nat.mul_le_mul_right k hl
  rw[Nat.succ_mul]at this
  omega
 generalize hp:i*k+j=p at*
 have hf:rows.flatten[p]?=some c:=hp▸ZvY hlen hrow hc
 have hrc:rows.length*k≤cap*k:=Nat.mul_le_mul_right k hnc
 have hr:RdL (SO S (OB.row (.slice (some ⟨g,0,none⟩) rows.length cap) e k rows::O)) w [c] [a.eval y]:=⟨h2,trivial⟩
 have hrun:=Qp (P:=P) (ty:=t) (o:=p) (cur:=cur.toList) (t:=e) hv (by simpa using hs) (by simpa using hg) (by simp;omega) hr.one
 have hlt:g<w.heap.size:=(Array.getElem?_eq_some_iff.1 hg).1
 have hk:Keeps (fun b=>¬ (OB.row (.slice (some ⟨g,0,none⟩) rows.length cap) e k rows).blk b) w (w.setRow g (cur.toList.take p++[a.eval y]++cur.toList.drop (p+ [a.eval y].length)).toArray):=
  (QZ (g:=g)).sub fun b _ hb e=>hb (by simp[OB.row,Value.ownBlock,e])
 have hsub:∀ b,b<w.heap.size→SO S (OB.row (.slice (some ⟨g,0,none⟩) rows.length cap) e k rows::O) b→(¬ (OB.row (.slice (some ⟨g,0,none⟩) rows.length cap) e k rows).blk b)∧SO S (OB.row (.slice (some ⟨g,0,none⟩) rows.length cap) e k rows::O) b:=fun b _ hs=>⟨hs.2 (OB.row (.slice (some ⟨g,0,none⟩) rows.length cap) e k rows) yz,hs⟩
 refine Za8 (w':=w.setRow g (cur.toList.take p++[a.eval y]++cur.toList.drop (p+ [a.eval y].length)).toArray) ?_ (ZaA hJ hJ0 hk0 hx hk (fun b hb=>.inl hb) ⟨old.take p++[a.eval y]++old.drop (p+1),⟨?_,.inr ⟨g,cap,_,rfl,hlo,setRow_heap w g _ _ e _ hg,hnc,hcm,?_,?_⟩⟩,?_,hlen⟩)
 · have hv':=h1.lit
   simp only[Y8]at hv'
   rw[execOp,hop]
   simp only[hv',Sem.run_bind,hrun]
   rfl
 · simp;omega
 · simp;omega
 · rw[←htake]
   exact ZgF cur.toList p (rows.length*k) [a.eval y] (by simpa using hik) (by simp;omega)
 · have hfl:rows.flatten=rows.flatten.take p++[c]++rows.flatten.drop (p+1):=by
    have hpl:p<rows.flatten.length:=(List.getElem?_eq_some_iff.1 hf).1
    have hpe:rows.flatten[p]=c:=(List.getElem?_eq_some_iff.1 hf).2
    rw[List.append_assoc,List.singleton_append,←hpe,←List.drop_eq_getElem_cons hpl,List.take_append_drop]
   rw[hfl]
   exact(((hrd.take p).move hk hsub).append (hr.move hk hsub)).append ((hrd.drop (p+1)).move hk hsub)
end
theorem Zjj {n:Rn} {P:Program} {X:WP} {S:Nat→Prop} {o:Oper} {a:Act} {w:World} {x:Operand} {t u:TypeId} {b off:Nat} (ht:P.underlying t=some (.pointer (P.pointee t))) (hop:o.op= .binOp .eql t x (.const (.pointer none)) u) (h1:Rel S w (.at b off) (a.eval x)) (hx:X w):Yj n P o a w (YB S X (.bool false) w):=
 Q4 (v1:=.pointer (some ⟨b,off,none⟩)) (v2:=.pointer none) True.intro (by cases x<;>rfl) (run_eql_pointer_nil w t (some ⟨b,off,none⟩) ht) hop (by rw[h1.lit];exact Rel.of_lit _) (Rel.of_lit _) hx
theorem Zu2 {n:Rn} {P:Program} {X:WP} {S:Nat→Prop} {o:Oper} {a:Act} {w:World} {x:Operand} {t u:TypeId} {b off:Nat} (ht:P.underlying t=some (.pointer (P.pointee t))) (hop:o.op= .binOp .neq t x (.const (.pointer none)) u) (h1:Rel S w (.at b off) (a.eval x)) (hx:X w):Yj n P o a w (YB S X (.bool true) w):=
 Q4 (v1:=.pointer (some ⟨b,off,none⟩)) (v2:=.pointer none) True.intro (by cases x<;>rfl) (run_neq_pointer_nil w t (some ⟨b,off,none⟩) ht) hop (by rw[h1.lit];exact Rel.of_lit _) (Rel.of_lit _) hx
theorem sq_on {K:Nat→Prop} {n:Rn} {P:Program} {X:WP} {S:Nat→Prop} {N:Nat} {w0:World} {env:List (Nat×AV)} {Q:Exit→Act→WP} {ops:Array Oper} {rest:List Oper} {o p:Oper} {j s:Nat} {g:Bool} (hg:o.guard=some (j,g)) (hp:ops[j]?=some p) (hs:p.dst=some s) (m:Nat) (he:env[m]?=some (s,.bool g))
 (h:∀ a w,St K S w0 N env X a w→wpListIn n.F n.d P ops Q ({ o with guard:=none }::rest) a w):∀ a w,St K S w0 N env X a w→wpListIn n.F n.d P ops Q (o::rest) a w:=fun a w hst=>by
 have hval:a.tmps.getD s undef= .bool g:=(hst.get m he).lit
 have hlt:s<a.tmps.size:=by rw[hst.size];exact(hst.env _ (List.mem_of_getElem? he)).1
 have hget:a.tmps[s]?=some (.bool g):=by
  rw[Array.getD_eq_getD_getElem?,Array.getElem?_eq_getElem hlt]at hval
  rw[Array.getElem?_eq_getElem hlt];simpa using hval
 have hw:Region.wanted o (yielded ops a.tmps)=true:=by
  simp only[Region.wanted,hg,yielded,hp,Option.bind_some,hs,hget]
  cases g<;>rfl
 have h2:=h a w hst
 simp only[wpListIn,hw,if_true]
 simp only[wpListIn,Region.wanted,if_true]at h2
 exact h2
theorem Zcg {J:WP} {S S':Nat→Prop} {O:List OB} {w0:World} {n:Rn} {P:Program} {o:Oper} {a:Act} {w:World} {x y:Operand} {t:TypeId} {b off:Nat} {cs es:List CD} {c:CD} (hJ:Stab J) (hJ0:J w0) (hs:XR P t 1) (hop:o.op= .store t x y) (hk0:Keeps All w0 w) (hx:XO J S w0.heap.size (OB.var b cs::O) w) (h1:Rel S' w (.at b off) (a.eval x))
 (h2:Rel (SO S (OB.var b cs::O)) w (.rd c) (a.eval y)) (hl:off+1≤cs.length) (he:cs.take off++[c]++cs.drop (off+1)=es):Yj n P o a w fun _ w'=>Zbp J S w0 (OB.var b cs::O) w (OB.var b es::O) w':=by
 have h2':=h2
 simp only[Rel]at h2'
 exact Xl (news:=[c]) (us:=[a.eval y]) hJ hJ0 hs hop hk0 hx h1 (by rw[ZbR h2'.one]) ⟨h2',trivial⟩ hl he
theorem Zpo {P:Program} {J:WP} {f:FuncId} {args:List AV} {e:TypeId} {k:Nat} {rows:List (List CD)} (h:FnM (ι:=Value) P J f [] args [] (fun i=>.lit i) (fun i=>[OB.row i e k rows])):Fn P J f args (.rd (.sl rows)):=by
 intro S w vs hS hJ ha
 refine Calls.mono (h S w [] w vs hS hJ Zv (Keeps.refl _ _) (ZtH hJ) (ha.sub fun k _ hk=>⟨hk,fun q hq=>(by cases hq)⟩)) ?_
 rintro e' w' ⟨i,v,he,hv,hk,hx⟩
 have hi:=hx.2.1 (OB.row i e k rows) yz
 have hv':=hv.lit
 subst hv'
 exact⟨_,he,ZhL (fun b hb=>hS b ((OB.row _ _ _ _).lt hi b hb).1) (OB.sub hi fun k _ hk=>hk.1),hk,hx.1⟩
end Go.Proofs.YtneapgbkkkjagaaGreatDoor
