/-
  Part of the proof that MinimizeChecks returns true. Conditions: none.
-/
import Derived.Test.YtdfadihhfppjaaaGreatDoorBEZ
import Derived.Laws.Concat
namespace Go.Proofs.YtdfadihhfppjaaaGreatDoor
set_option maxRecDepth 100000
set_option maxHeartbeats 8000000
open Go.Proofs.Tryz
open List (all_eq_true any_eq_false append_assoc flatten_cons getD_eq_getElem?_getD getElem_map length_append length_cons length_map length_set length_take map_map mem_append mem_cons mem_cons_of_mem mem_map mem_of_find?_eq_some mem_of_getElem? mem_range mem_singleton nodup_cons pairwise_cons prefix_refl take_length)
section
open Go.RowKit
section
variable {n:Rn} {N:Nat} {P:Program} {J X:WP} {S S' gK:Nat->Prop} {O:List OB} {w0:World} {env:List (Nat×AV)} {Q:Exit->Act->WP}
variable {o:Oper} {a:Act} {w:World} {x y:Operand} {t e:TypeId} {v:Value} {k:Nat} {rows:List (List CD)}
theorem DY {c:CD} {r:List CD} {i j:Nat} (V:aR J) (hJ0:J w0) (hs:dV P t 1) (hop:o.op= .store t x y) (hk0:Keeps All w0 w) (Z:XO J S w0.heap.size (OB.row v e k rows::O) w) (h1:Rel S' w (.lit (cG v (i*k+j))) (a.eval x))
 (h2:Rel (SO S (OB.row v e k rows::O)) w (.rd c) (a.eval y)) (hrow:rows[i]?=some r) (hj:j<r.length):
 Does n P o a w λ_ w'=>dc J S w0 (OB.row v e k rows::O) w (OB.row v e k (rows.set i (r.set j c))::O) w':=by
 have hl:i<rows.length:=(List.getElem?_eq_some_iff.1 hrow).1
 obtain⟨g,cap,old,cur,rfl,m6,hg,er,dg,iP,htake,kE,hrd,hlen⟩:=qJ (Z.2.1 (OB.row v e k rows) yz) oz
 simp only[Rel]at h2
 have hv:(a.eval y).cells.toList=[a.eval y]:=by rw[rp h2.one]
 have hge:rows[i]=r:=(List.getElem?_eq_some_iff.1 hrow).2
 have Ax:r.length=k:=hlen r (hge▸List.getElem_mem hl)
 have qi:i*k+j+1<=rows.length*k:=by
  have:=Nat.mul_le_mul_right k hl
  rw[Nat.succ_mul]at this
  omega
 have hset:(rows.set i (r.set j c)).flatten=rows.flatten.take (i*k+j)++[c]++rows.flatten.drop (i*k+j+1):=by
  have hd:rows.flatten.drop (i*k)=r++rows.flatten.drop (i*k+k):=by
   rw[oM rows i hlen,List.drop_eq_getElem_cons hl,hge,flatten_cons,show i*k+k=(i+1)*k by rw[Nat.add_mul];omega,oM rows (i+1) hlen]
  have tK:rows.flatten.drop (i*k+j+1)=r.drop (j+1)++rows.flatten.drop (i*k+k):=by
   rw[show i*k+j+1=i*k+(j+1) by omega,<-List.drop_drop,hd,List.drop_append_of_le_length oz]
  have Ag:rows.flatten.take (i*k+j)=rows.flatten.take (i*k)++r.take j:=by
   rw[List.take_add,hd,List.take_append_of_le_length oz]
  rw[zB rows i (r.set j c) hlen hl,Ag,tK,List.set_eq_take_append_cons_drop,if_pos hj]
  simp
 have hlen':∀ q∈rows.set i (r.set j c),q.length=k:=λq hq=>by
  rcases List.mem_or_eq_of_mem_set hq with h | rfl
  ·exact hlen q h
  ·rw[length_set];exact Ax
 generalize hp:i*k+j=p at*
 have Fz:rows.length*k<=cap*k:=Nat.mul_le_mul_right k er
 have hr:bE (SO S (OB.row (.slice (some ⟨g,0,none⟩) rows.length cap) e k rows::O)) w [c] [a.eval y]:=⟨h2,trivial⟩
 have hrun:=BS (P:=P) (ty:=t) (o:=p) (cur:=cur.toList) (t:=e) hv (by simpa using hs) (by simpa using hg) (by simp;omega) hr.one
 have hlt:g<w.heap.size:=(Array.getElem?_eq_some_iff.1 hg).1
 have hk:Keeps (λb=>¬ (OB.row (.slice (some ⟨g,0,none⟩) rows.length cap) e k rows).blk b) w (w.setRow g (cur.toList.take p++[a.eval y]++cur.toList.drop (p+ [a.eval y].length)).toArray):=
  (wY (g:=g)).sub λb _ hb e=>hb (by simp[OB.row,Value.ownBlock,e])
 have hsub:∀ b,b<w.heap.size->SO S (OB.row (.slice (some ⟨g,0,none⟩) rows.length cap) e k rows::O) b->(¬ (OB.row (.slice (some ⟨g,0,none⟩) rows.length cap) e k rows).blk b)/\SO S (OB.row (.slice (some ⟨g,0,none⟩) rows.length cap) e k (rows.set i (r.set j c))::O) b:=λb _ hs=>⟨hs.2 (OB.row (.slice (some ⟨g,0,none⟩) rows.length cap) e k rows) yz,hs.1,λp hp=>by
  rcases mem_cons.1 hp with rfl | hp
  ·exact hs.2 (OB.row (.slice (some ⟨g,0,none⟩) rows.length cap) e k rows) yz
  ·exact hs.2 p (mem_cons_of_mem _ hp)⟩
 refine td (w':=w.setRow g (cur.toList.take p++[a.eval y]++cur.toList.drop (p+ [a.eval y].length)).toArray) ?_ (pu V hJ0 hk0 Z hk (λb hb=>.inl hb) ⟨old.take p++[a.eval y]++old.drop (p+1),⟨?_,.inr ⟨g,cap,_,?_,m6,setRow_heap w g _ _ e _ hg,?_,dg,?_,?_⟩⟩,?_,hlen'⟩)
 ·have hv':=h1.lit
  simp only[cG]at hv'
  rw[execOp,hop]
  simp only[hv',Sem.run_bind,hrun]
  rfl
 ·simp;omega
 ·simp
 ·simpa using er
 ·simp;omega
 ·simp only[length_set]
  rw[<-htake]
  exact I4 cur.toList p (rows.length*k) [a.eval y] (by simpa using qi) (by simp;omega)
 ·rw[hset]
  exact(((hrd.take p).move hk hsub).append (hr.move hk hsub)).append ((hrd.drop (p+1)).move hk hsub)
theorem VG {ops:Array Oper} {rest:List Oper} {c:CD} {r:List CD} {i j:Nat} (V:aR J) (hJ0:J w0) (hs:dV P t 1) (hg:o.guard=none) (hd:o.dst=none) (hop:o.op= .store t x y) (hrow:rows[i]?=some r) (hj:j<r.length)
 (h1:∀ a w,So J S w0 N (OB.row v e k rows::O) env a w->Rel (SO S (OB.row v e k rows::O)) w (.lit (cG v (i*k+j))) (a.eval x)/\Rel (SO S (OB.row v e k rows::O)) w (.rd c) (a.eval y))
 (next:∀ a w,So J S w0 N (OB.row v e k (rows.set i (r.set j c))::O) env a w->wpListIn n.F n.d P ops Q rest a w):
 ∀ a w,So J S w0 N (OB.row v e k rows::O) env a w->wpListIn n.F n.d P ops Q (o::rest) a w:=
 qU (O2:=λ_:Unit=>_) hg hd (λa w h=>by
  obtain⟨g1,g2⟩:=h1 a w h
  exact bD (DY V hJ0 hs hop h.keep h.x g1 g2 hrow hj) λ_ _ hp=>⟨(),hp⟩) λ_=>next
end
theorem TZ {n:Rn} {P:Program} {X:WP} {S:Nat->Prop} {o:Oper} {a:Act} {w:World} {x y:Operand} {t u:TypeId} {i j:BA} (hop:o.op= .binOp .add t x y u) (h1:Rel S w (.str i) (a.eval x)) (h2:Rel S w (.str j) (a.eval y)) (hl:i.size+j.size<=9223372036854775807) (Z:X w):Does n P o a w (bG S X (.str (i++j)) w):=
 j3 (v:=.string (i++j)) (show(i++j).size<=maxLen by rw[ByteArray.size_append];exact hl) (rI ..) (by simp only[binOp];exact run_string_add_sum w i j hl) hop h1 h2 Z
end
section
open Go.RowKit
section
variable {J:WP} (V:aR J)
include V
theorem sW (l:List Bd) (s:BA)  :Fn prog J 207 [.rd (fq l),.str s] (.rd (ai (bp (az l) s))):=by
 refine fE func207 λS w0 hS hJ0=>?_
 refine tw cc (ln 0 λcr=>?_)
 refine aj tb V [0,1] [_] U2 ?_
 refine af (aj tb V [0,1,1000] [_] U3 ?_)
 refine ax (lpo (ι:=Nat) (λk=>(k<=l.length)/\(∀ j,j<k->¬ (G l j).var=s)) (λ_=>[]) (λk=>[(5,.int (k:Nat))]) (λk=>l.length-k) [0,1,2] U2 0 ⟨aI,λj hj=>by omega⟩ ?_)
 rintro k ⟨aQ,ah⟩
 refine af (au tb V [0,1,2,1003] [_,_,.int (l.length:Nat),_] [2] U4 Y ⟨aC Jo,U⟩ ?_)
 refine cj 3 ?_ ?_<;>intro hb1<;>try simp at hb1
 ·refine ak (nx (af (ax (au tb V [0,1,2,1006] [_,_,.ptr (fj (G l k)),_,_,_,_] [2] U4 Y ⟨bq p6,U⟩ ?_))))
  refine cj 3 ?_ ?_<;>intro hb2<;>try simp at hb2
  ·refine au tb V [1004,1005] [_,_,.ptr (fj (G l k)),_,_,_] [2] U2 Y ⟨bq p6,U⟩ ?_
   refine ln 0 λ_=>?_
   exact bH 1 (hE:=congrArg (λz=>AV.rd (ai z)) (show((G l k).ac)=(bp (az l) s)from by first | exact(FS hb1 ah hb2).symm | exact(FT λj hj=>ah j oz).symm))
  ·refine ak (nx (aT tb V [0,1,1002] [_,.int (k+1:Nat),_] [1] U3 Y ⟨aM,U⟩ ?_))
   exact br (k+1) [0,1,2] ⟨oz,cB ah hb2⟩
 ·refine aW (nx (au tb V [1001,1002] [_,.rd (ai ([s])),_] [1] U2 Y ⟨λ_ _ hk Z hl _=>fz bz j7 Y (hl.D 0 24 Y Y) (aK hS _ hk Z _ aV) (jo V Z),U⟩ ?_))
  refine ln 0 λ_=>?_
  exact bH 1 (hE:=congrArg (λz=>AV.rd (ai z)) (show([s])=(bp (az l) s)from by first | exact(FS hb1 ah hb2).symm | exact(FT λj hj=>ah j oz).symm))
theorem KK (t:List BA) (l:List Bd) (hb:(bA (az l) t).length<=2000):Fn prog J 208 [.rd (ai t),.rd (fq l)] (.rd (ai (bA (az l) t))):=by
 refine fE func208 λS w0 hS hJ0=>?_
 refine tw cc (ln 0 λcr=>?_)
 refine ln 1 λ_=>?_
 refine aj tb V [0,1] [_] U2 ?_
 refine aL (kz bz V Y Y Y (lb Y) λv1=>ao 1 tb Y (aA [0,2,3] U3 Y (nx (af (aj tb V [0,1,2,1000] [_] U4 ?_)))))
 refine ax (lpo (ι:=Nat×Value×(List BA)) (λ(k,_,out)=>(k<=t.length)/\(out=bA (az l) (t.take k))) (λ(_,v,out)=>[OB.row v 9 1 (out.map dO)]) (λ(k,v,_)=>[(6,.int (k:Nat)),(5,.lit v)]) (λ(k,_,_)=>t.length-k) [1,2,3,0] U2 (0,v1,([]:List BA)) ⟨aI,Y⟩ ?_)
 rintro⟨k,v,out⟩ ⟨aQ,ah⟩
 refine af (au tb V [0,1,2,3,1003] [_,_,.int (t.length:Nat),_] [2] U5 Y ⟨aC b7,U⟩ ?_)
 refine cj 4 ?_ ?_<;>intro hb1<;>try simp at hb1
 ·refine ak (nx (af (ax (cC (ao 4 tb Y (sy (.ptr [lS (G t k)]) (λh=>cb (i:=(k:Int)) bz Y (h.get 1 Y) (h.get 0 Y) bK (cl (xs:=t) (k:=k) ay) Y h.x) ?_))))))
  refine ao 1 tb Y (sy (.rd (ai (bp (az l) (G t k)))) (λh=>cV (sW V l (G t k)) (cO func207) Y (aK hS _ h.keep h.x) (h.x.1) (aq (h.get 4 Y) (aq (h.get 0 Y) aN)) (jo V h.x)) ?_)
  refine fN (f:=dO) (m:=6) (s:=14) out (bp (az l) (G t k)) (λ_=>Y) ke V hJ0 Y Y Y (lb Y) Y Y (λa w h=>(h.get 0 Y)) (by have h9:=pK (az l) t (k+1);rw[kd oz,length_append,<-ah]at h9;omega) (by have h9:=pK (az l) t (k+1);rw[kd oz,length_append,<-ah]at h9;omega) λv2=>ao 1 tb Y (aA [0,2,9,10,11] U5 Y (nx (ln 1 λhl3=>?_)))
  refine aT tb V [0,2,3,1002] [_,.int (k+1:Nat),_] [1] U4 Y ⟨aM,U⟩ ?_
  exact br (k+1,v2,out++(bp (az l) (G t k))) [1,2,3,0] ⟨oz,by rw[kd oz,<-ah]⟩
 ·refine aW (nx (aj tb V [1001] U2 [_] ?_))
  exact tw (λh=>dU hS h (m:=0) (s:=4) Y) (bH 0 (hE:=congrArg (λz=>AV.rd (ai z)) (show out=(bA (az l) t)from by rw[ah,cS oz])))
theorem KV (t:List BA) (l:List Bd) (n:Nat) (hn:n<=2000) (hl:∀ b∈l,b.ac.length<=2000):Fn prog J 167 [.rd (ai t),.rd (fq l),.int (n:Nat)] (.bF [.rd (ai (if ca (az l) t n then bA (az l) t else [])),.int (if ca (az l) t n then 0 else 15)]):=by
 refine fE func167 λS w0 hS hJ0=>?_
 refine tw cc (ln 0 λcr=>?_)
 refine ln 1 λ_=>?_
 refine aj tb V [0,1,2] U2 U3 ?_
 refine af (aj tb V [0,1,2,1001] U2 U4 ?_)
 refine cj 3 ?_ ?_<;>intro hb1<;>try simp at hb1
 ·exact False.elim oz
 ·refine ak (nx (aj tb V [0,1,2,1000] [_] U4 ?_))
  refine af (aj tb V [0,1,2,3,1000] [_] U5 ?_)
  refine ax (lpo (ι:=Nat×Nat) (λ(k,z)=>(k<=t.length)/\(z=(bA (az l) (t.take k)).length)/\(z<=n)) (λ(_,_)=>[]) (λ(k,z)=>[(9,.int (k:Nat)),(8,.int (z:Nat))]) (λ(k,_)=>t.length-k) [0,1,2,4,3] U3 (0,0) ⟨aI,by simp[bA],aI⟩ ?_)
  rintro⟨k,z⟩ ⟨aQ,ah,bh⟩
  refine af (au tb V (r5 [1003]) [_,_,.int (t.length:Nat),_] [2] U6 Y ⟨aC b7,U⟩ ?_)
  refine cj 5 ?_ ?_<;>intro hb2<;>try simp at hb2
  ·refine ak (nx (af (ax (au tb V [0,1,2,3,1006,1009] (V4 [.ptr [lS (G t k)],_,.rd (ai (bp (az l) (G t k))),.int ((bp (az l) (G t k)).length:Nat),.int (z+(bp (az l) (G t k)).length:Nat),_]) [4,6,7,8] U6 Y ⟨bq bz,bJ hS V (sW V l (G t k)) (cO func207),aC b7,aM (h0:=by have:=qo (m:=2000) oz hl (G t k);omega),U⟩ ?_))))
   refine ln 4 λ_=>?_
   refine aj tb V [0,1,2,3,5,1002] U3 U6 ?_
   refine cj 5 ?_ ?_<;>intro aD<;>try simp at aD
   ·have e3:ca (az l) t n=false:=by have h9:=pK (az l) t (k+1);rw[kd oz,length_append]at h9;simp only[ca,decide_eq_false_iff_not];omega
    refine aj tb V [1000,1001] U2 U2 ?_
    exact tw (λh=>gu h (m:=0) (s:=6) Y) (aX (λa w h=>di (m:=0) (k:=1) Y (dw h) Y Y (congrArg (λz=>AV.rd (ai z)) (show([]:List BA)=(if ca (az l) t n then bA (az l) t else [])from by simp[e3])) (eI (by simp[e3]))))
   ·refine ak (nx (aT tb V [0,1,2,4,1002] [_,.int (k+1:Nat),_] [1] U5 Y ⟨aM,U⟩ ?_))
    exact br (k+1,z+(bp (az l) (G t k)).length) [0,1,2,4,3] ⟨oz,by rw[kd oz,length_append,ah],oz⟩
  ·have e4:ca (az l) t n=true:=by rw[cS (xs:=t) oz]at ah;simp only[ca,decide_eq_true_eq];omega
   refine aW (nx (au tb V [1002,1003,1004] [_,_,.rd (ai (bA (az l) t)),_,_] [2] U3 Y ⟨bJ hS V (KK V t l (by simp only[ca,decide_eq_true_eq]at e4;omega)) (cO func208),U⟩ ?_))
   refine ln 0 λ_=>?_
   exact aX (λa w h=>di (m:=1) (k:=2) Y (dw h) Y Y (congrArg (λz=>AV.rd (ai z)) (show(bA (az l) t)=(if ca (az l) t n then bA (az l) t else [])from by simp[e4])) (eI (by simp[e4])))
theorem Do (xs ys:List BA)  :Fn prog J 100 [.rd (ai xs),.rd (ai ys)] (.bool (decide (xs=ys))):=by
 refine fE func100 λS w0 hS hJ0=>?_
 clear hJ0
 refine ln 0 λ_=>?_
 refine ln 1 λ_=>?_
 refine qs tb V [0,1] [_] U2 ?_
 refine af (aJ tb V [0,1,1004] [_,.int (xs.length:Nat),_,.int (ys.length:Nat),_] [1,3] U3 Y ⟨aC b7,aC b7,U⟩ ?_)
 refine cj 2 ?_ ?_<;>intro hb1<;>try simp at hb1
 ·refine qs tb V [1000] [_] [_] ?_
  exact aU 0 (hE:=eB (by first | rfl | grind[aE]))
 ·refine ak (nx (af (qs tb V [0,1,1000] [_] U3 ?_)))
  refine ax (lp (ι:=Nat) (λk=>(k<=xs.length)/\(∀ j,j<k->G xs j=G ys j)) (λk=>[(5,.int (k:Nat))]) (λk=>xs.length-k) [0,1,2] U2 0 (show(0<=xs.length)/\(∀ j,j<0->G xs j=G ys j)from by first | trivial | grind) ?_)
  rintro k ⟨aQ,ah⟩
  refine af (aJ tb V [0,1,2,1003] [_,_,.int (xs.length:Nat),_] [2] U4 Y ⟨aC b7,U⟩ ?_)
  refine cj 3 ?_ ?_<;>intro hb2<;>try simp at hb2
  ·refine ak (nx (af (ax (aJ tb V [0,1,2,1008] [_,_,.ptr [lS (G xs k)],_,_,_,.ptr [lS (G ys k)],_,_] [2,6] U4 Y ⟨bq bz,bq bz,U⟩ ?_))))
   refine cj 3 ?_ ?_<;>intro aD<;>try simp at aD
   ·refine qs tb V [1000] [_] [_] ?_
    exact aU 0 (hE:=eB (by first | rfl | grind[aE]))
   ·refine ak (nx (dK tb V [0,1,1002] [_,.int (k+1:Nat),_] [1] U3 Y ⟨aM,U⟩ ?_))
    exact dM (k+1) [0,1,2] ⟨by first | omega | (simp;omega) | grind[aE],by first | omega | (simp;omega) | grind[aE]⟩
  ·refine aW (nx (qs tb V [1000] [_] [_] ?_))
   exact aU 0 (hE:=eB (by have:=ib (xs:=xs) (ys:=ys) oz (λj hj=>ah j oz);simp[this]))
theorem KP (t:List BA) (l:List Bd) (x:List BA)  :Fn prog J 166 [.rd (ai t),.rd (fq l),.rd (ai x)] (.bool (lW t l x)):=by
 refine fE func166 λS w0 hS hJ0=>?_
 refine tw cc (ln 0 λcr=>?_)
 refine ln 1 λ_=>?_
 refine ln 2 λ_=>?_
 refine aj tb V [0,1,2] [_] U3 ?_
 refine aj tb V [0,1,2,1000] [_] U4 ?_
 refine af (aj tb V [0,1,2,3,1000] [_] U5 ?_)
 refine ax (lpo (ι:=Nat×Nat) (λ(k,p)=>(k<=t.length)/\(p<=x.length)/\(x.take p=bA (az l) (t.take k))) (λ(_,_)=>[]) (λ(k,p)=>[(8,.int (k:Nat)),(7,.int (p:Nat))]) (λ(k,_)=>t.length-k) [0,1,2,4,3] U3 (0,0) ⟨aI,aI,Y⟩ ?_)
 rintro⟨k,p⟩ ⟨aQ,ah,bh⟩
 refine af (au tb V (r5 [1003]) [_,_,.int (t.length:Nat),_] [2] U6 Y ⟨aC b7,U⟩ ?_)
 refine cj 5 ?_ ?_<;>intro hb1<;>try simp at hb1
 ·refine ak (nx (af (ax (au tb V (r5 [1005,1006]) (V3 [.ptr [lS (G t k)],_,.rd (ai (bp (az l) (G t k))),_]) [3,5] U7 Y ⟨bq bz,bJ hS V (sW V l (G t k)) (cO func207),U⟩ ?_))))
  refine ln 5 λ_=>?_
  refine af (au tb V (r5 [6,1018]) [_,.int ((bp (az l) (G t k)).length:Nat),_,.int (x.length:Nat),_,.int ((x.length:Int)-(p:Int)),_,_,_,_,_,_,_,.int ((bp (az l) (G t k)).length:Nat),.int (p+(bp (az l) (G t k)).length:Nat),.rd (ai ((x.take (p+(bp (az l) (G t k)).length)).drop p)),.bool (decide ((bp (az l) (G t k))=((x.take (p+(bp (az l) (G t k)).length)).drop p))),_,_] [1,3,5,13,14,15,16] U7 Y ⟨aC b7,aC b7,md,aC b7,λ_ _ _ Z hl hc=>qE (i:=(p:Int)) (j:=(((bp (az l) (G t k)).length:Nat):Int)) Y (hl.D 11 33 Y hc) (hl.D 13 35 Y hc) (by have aF:((decide ((x.length:Int)-(p:Int)< (((bp (az l) (G t k)).length:Nat):Int)))==false)=true:=hc;(try simp at aF);(first | omega | (simp;omega) | grind[aE])) (by have aF:((decide ((x.length:Int)-(p:Int)< (((bp (az l) (G t k)).length:Nat):Int)))==false)=true:=hc;(try simp at aF);(first | omega | (simp;omega) | grind[aE])) Z,λ_ _ _ Z hl hc=>iW (ys:=(x.take (p+(bp (az l) (G t k)).length)).drop p) (lo:=p) (hi:=p+(bp (az l) (G t k)).length) Y bz (λ_=>Y) Y (hl.D 9 31 Y hc) (hl.D 10 32 Y hc) (hl.D 14 36 Y hc) (by have aF:((decide ((x.length:Int)-(p:Int)< (((bp (az l) (G t k)).length:Nat):Int)))==false)=true:=hc;(try simp at aF);(first | omega | (simp;omega) | grind[aE])) (by have aF:((decide ((x.length:Int)-(p:Int)< (((bp (az l) (G t k)).length:Nat):Int)))==false)=true:=hc;(try simp at aF);(first | omega | (simp;omega) | grind[aE])) Z,bJ hS V (Do V (bp (az l) (G t k)) ((x.take (p+(bp (az l) (G t k)).length)).drop p)) (cO func100),U⟩ ?_)
  refine cj 6 ?_ ?_<;>intro hb2
  ·have e3:lW t l x=false:=by rw[lW,decide_eq_false (UL hb1 bh ah (λh9=>by have h8:(bp (az l) (G t k))=(x.take (p+(bp (az l) (G t k)).length)).drop p:=h9.2.symm;simp[<-h8]at hb2;omega))]
   refine aj tb V [1000] [_] [_] ?_
   exact bH 0 (hE:=eB (e3.symm))
  ·have e4:(bp (az l) (G t k)).length<=x.length-p/\(bp (az l) (G t k))=(x.take (p+(bp (az l) (G t k)).length)).drop p:=by simp only[Bool.or_eq_false_iff,decide_eq_false_iff_not,Bool.not_eq_false',decide_eq_true_eq]at hb2;exact⟨oz,hb2.2⟩
   refine ak (nx (aT tb V [0,1,2,3,1004] [_,_,.int ((bp (az l) (G t k)).length:Nat),.int (p+(bp (az l) (G t k)).length:Nat),_] [2,3] U5 Y ⟨aC b7,aM,U⟩ ?_))
   refine nx (aT tb V [0,1,2,4,1002] [_,.int (k+1:Nat),_] [1] U5 Y ⟨aM,U⟩ ?_)
   exact br (k+1,p+(bp (az l) (G t k)).length) [0,1,2,4,3] ⟨oz,oz,UK hb1 bh e4.2.symm⟩
 ·refine aW (nx (au tb V [1004] [_,_,.int (x.length:Nat),_,_] [2] [_] Y ⟨aC b7,U⟩ ?_))
  exact bH 0 (hE:=eB (by rw[lW,UJ (by rw[bh,cS oz]) ah]))
theorem Dl (xs:List BA) (s:BA)  :Fn prog J 254 [.rd (ai xs),.str s] (.bool (decide (s∈xs))):=by
 refine fE func254 λS w0 hS hJ0=>?_
 clear hJ0
 refine ln 0 λ_=>?_
 refine qs tb V [0,1] [_] U2 ?_
 refine af (qs tb V [0,1,1000] [_] U3 ?_)
 refine ax (lp (ι:=Nat) (λk=>(k<=xs.length)/\(∀ j,j<k->G xs j≠s)) (λk=>[(5,.int (k:Nat))]) (λk=>xs.length-k) [0,1,2] U2 0 (show(0<=xs.length)/\(∀ j,j<0->G xs j≠s)from by first | trivial | grind) ?_)
 rintro k ⟨aQ,ah⟩
 refine af (aJ tb V [0,1,2,1003] [_,_,.int (xs.length:Nat),_] [2] U4 Y ⟨aC b7,U⟩ ?_)
 refine cj 3 ?_ ?_<;>intro hb1<;>try simp at hb1
 ·refine ak (nx (af (ax (aJ tb V [0,1,2,1005] [_,_,.ptr [lS (G xs k)],_,_,_] [2] U4 Y ⟨bq bz,U⟩ ?_))))
  refine cj 3 ?_ ?_<;>intro hb2<;>try simp at hb2
  ·refine qs tb V [1000] [_] [_] ?_
   exact aU 0 (hE:=eB (by grind[aE]))
  ·refine ak (nx (dK tb V [0,1,1002] [_,.int (k+1:Nat),_] [1] U3 Y ⟨aM,U⟩ ?_))
   exact dM (k+1) [0,1,2] ⟨by first | omega | (simp;omega) | grind[aE],by first | omega | (simp;omega) | grind[aE]⟩
 ·refine aW (nx (qs tb V [1000] [_] [_] ?_))
  exact aU 0 (hE:=eB (by grind[ej]))
theorem Dq (t vs:List BA) (hb:t.length<=2000):Fn prog J 237 [.rd (ai t),.rd (ai vs)] (.rd (ai (c9 t vs))):=by
 refine fE func237 λS w0 hS hJ0=>?_
 refine tw cc (ln 0 λcr=>?_)
 refine ln 1 λ_=>?_
 refine aj tb V [0,1] [_] U2 ?_
 refine aL (kz bz V Y Y Y (lb Y) λv1=>ao 1 tb Y (aA [0,2,3] U3 Y (nx (af (aj tb V [0,1,2,1000] [_] U4 ?_)))))
 refine ax (lpo (ι:=Nat×Value×(List BA)) (λ(k,_,out)=>(k<=t.length)/\(out=c9 (t.take k) vs)/\(out.length<=k)) (λ(_,v,out)=>[OB.row v 9 1 (out.map dO)]) (λ(k,v,_)=>[(6,.int (k:Nat)),(5,.lit v)]) (λ(k,_,_)=>t.length-k) [1,2,3,0] U2 (0,v1,([]:List BA)) ⟨aI,Y,Nat.le_refl _⟩ ?_)
 rintro⟨k,v,out⟩ ⟨aQ,ah,bh⟩
 refine af (au tb V [0,1,2,3,1003] [_,_,.int (t.length:Nat),_] [2] U5 Y ⟨aC b7,U⟩ ?_)
 refine cj 4 ?_ ?_<;>intro hb1<;>try simp at hb1
 ·refine ak (nx (af (ax (l8 tb V [0,1,2,3,1014] (V3 [.ptr [lS (G t k)],_,.bool (decide ((G t k)∈vs)),_,_,_,_,.ptr [lS (G t k)],_,.bool (decide ((G t k)∈out)),_,_]) [3,5,10,12] U5 Y ⟨bq bz,FP hS V (Dl V vs (G t k)) (cO func254),cT bz (hk:=λ(aF:((decide ((G t k)∈vs))==true)=true)=>by(try simp at aF);first | omega | (simp;omega) | grind[aE]),λ_ _ hk Z hl hc=>cV (Dl V out (G t k)) (cO func254) Y (nm hS hk) (Z.1) (aq (kI hS Z (mo 0 Y) (hl.D 7 21 Y hc)) (aq (hl.D 11 25 Y hc) aN)) (jo V Z),U⟩ ?_))))
  refine cj 4 ?_ ?_<;>intro hb2<;>try simp at hb2
  ·refine cC (ao 3 tb Y (sy (.ptr [lS (G t k)]) (λh=>cb (i:=(k:Int)) bz Y (h.get 1 Y) (h.get 0 Y) bK (cl (xs:=t) (k:=k) ay) Y h.x) ?_))
   refine ao 1 tb Y (sy (.rd (ai ([(G t k)]))) (λh=>fz bz j7 Y (h.get 0 Y) (aK hS _ h.keep h.x _ aV) (jo V h.x)) ?_)
   refine fN (f:=dO) (m:=5) (s:=29) out ([(G t k)]) (λ_=>Y) ke V hJ0 Y Y Y (lb Y) Y Y (λa w h=>(h.get 0 Y)) ay ay λv2=>ao 1 tb Y (aA [0,2,8,9,10] U5 Y (nx (ln 1 λhl3=>?_)))
   refine aT tb V [0,2,3,1002] [_,.int (k+1:Nat),_] [1] U4 Y ⟨aM,U⟩ ?_
   exact br (k+1,v2,out++([(G t k)])) [1,2,3,0] ⟨oz,by rw[xi oz,<-ah];simp_all[kH],by simp;omega⟩
  ·refine ak (nx (aT tb V [0,1,3,1002] [_,.int (k+1:Nat),_] [1] U4 Y ⟨aM,U⟩ ?_))
   exact br (k+1,v,out) [0,1,3,2] ⟨oz,by rw[xi oz,<-ah];simp[kH];grind,oz⟩
 ·refine aW (nx (aj tb V [1001] U2 [_] ?_))
  exact tw (λh=>dU hS h (m:=0) (s:=4) Y) (bH 0 (hE:=congrArg (λz=>AV.rd (ai z)) (show out=(c9 t vs)from by rw[ah,cS oz])))
theorem Du (pa pb:BA)  :Fn prog J 238 [.str pa,.str pb] (.agg (aS (da ⟨pa,pb⟩))):=by
 refine fE func238 λS w0 hS hJ0=>?_
 refine tw cc (aL (cx nw V Y Y Y (lb Y) λb1=>aA [0,1,2] U3 Y (nx (af (aj tb V [0,1,2,1002] U3 U4 ?_)))))
 refine cj 3 ?_ ?_<;>intro hb1<;>try simp at hb1
 ·refine aL (ao 2 tb Y (sq (.agg (aS (⟨pb,pa⟩:Pr))) Y Y (lb Y) (λa _ h=>gq (us:=[a.eval (.tmp 8),a.eval (.tmp 9)]) yN Y yz (b6 (h.get 1 Y) (b6 (h.get 0 Y) cM)) Y h.x) (ce (b:=b1) (off:=0) (es:=U2) (news:=U2) V hJ0 j6 Y Y Y (lb Y) Y (λa w h=>⟨(h.get 3 Y),(h.get 0 Y)⟩) (aA [3] [_] Y (nx (aX (λa w h=>j0 (m:=0) Y jE h Y Y (show(_:List CD)=[lS ((da ⟨pa,pb⟩).a),lS ((da ⟨pa,pb⟩).b)]from by(simp[da,hb1])<;>rfl))))))))
 ·refine ak (nx (aL (ao 2 tb Y (sq (.agg (aS (⟨pa,pb⟩:Pr))) Y Y (lb Y) (λa _ h=>gq (us:=[a.eval (.tmp 11),a.eval (.tmp 12)]) yN Y yz (b6 (h.get 1 Y) (b6 (h.get 0 Y) cM)) Y h.x) (ce (b:=b1) (off:=0) (es:=U2) (news:=U2) V hJ0 j6 Y Y Y (lb Y) Y (λa w h=>⟨(h.get 3 Y),(h.get 0 Y)⟩) (aA [3] [_] Y (nx (aX (λa w h=>j0 (m:=0) Y jE h Y Y (show(_:List CD)=[lS ((da ⟨pa,pb⟩).a),lS ((da ⟨pa,pb⟩).b)]from by(simp[da,hb1])<;>rfl))))))))))
theorem Lj (l:List Bd) (ap:List Pr) (us:List BA) (hap:ap.length<=100000) (hl:∀ b∈l,b.ac.length<=2000):Fn prog J 209 [.rd (fq l),.rd (bM ap),.rd (ai us)] (.rd (bM (fi l ap us))):=by
 refine fE func209 λS w0 hS hJ0=>?_
 refine tw cc (ln 0 λcr=>?_)
 refine ln 1 λ_=>?_
 refine ln 2 λ_=>?_
 refine aj tb V [0,1,2] [_] U3 ?_
 refine aL (kz df V Y Y Y (lb Y) λv1=>ao 1 tb Y (aA [0,2,3,4] U4 Y (nx (af (aj tb V [0,1,2,3,1000] [_] U5 ?_)))))
 refine ax (lpo (ι:=Nat×Value×(List Pr)) (λ(k,_,out)=>(k<=ap.length)/\(out=(ap.take k).flatMap (pq l us))/\(out.length<=4000000*k)) (λ(_,v,out)=>[OB.row v 162 2 (out.map aS)]) (λ(k,v,_)=>[(8,.int (k:Nat)),(7,.lit v)]) (λ(k,_,_)=>ap.length-k) [1,2,3,4,0] U3 (0,v1,([]:List Pr)) ⟨aI,Y,by simp⟩ ?_)
 rintro⟨k,v,out⟩ ⟨aQ,ah,bh⟩
 refine af (au tb V (r5 [1003]) [_,_,.int (ap.length:Nat),_] [2] U6 Y ⟨aC fQ,U⟩ ?_)
 refine cj 5 ?_ ?_<;>intro hb1<;>try simp at hb1
 ·have ea:=GH (us:=us) (s:=(G ap k).a) hl
  have eb:=GH (us:=us) (s:=(G ap k).b) hl
  refine ak (nx (af (ax (af (aT tb V (r5 [1006,1008,1009]) (V3 [.ptr (aS (G ap k)),_,_,.rd (ai (bp (az l) ((G ap k).a))),_,.rd (ai (c9 (bp (az l) ((G ap k).a)) us)),_]) [3,6,8] U8 Y ⟨bq df,bJ hS V (sW V l ((G ap k).a)) (cO func207),bJ hS V (Dq V (bp (az l) ((G ap k).a)) us (qo (m:=2000) oz hl _)) (cO func237),U⟩ ?_)))))
  refine kw (sa 7 Y (show(.rd (ai (c9 (bp (az l) ((G ap k).a)) us)):AV)= .rd (ai (dr l us (G ap k).a))from by rw[GG])) (nx (ln 5 λtR=>?_))
  refine ln 6 λ_=>?_
  refine ln 7 λ_=>?_
  refine af (aT tb V (r5 [7,1006,1008,1009]) (V3 [.ptr (aS (G ap k)),_,_,.rd (ai (bp (az l) ((G ap k).b))),_,.rd (ai (c9 (bp (az l) ((G ap k).b)) us)),_]) [3,6,8] U9 Y ⟨bq df,bJ hS V (sW V l ((G ap k).b)) (cO func207),bJ hS V (Dq V (bp (az l) ((G ap k).b)) us (qo (m:=2000) oz hl _)) (cO func237),U⟩ ?_)
  refine kw (sa 8 Y (show(.rd (ai (c9 (bp (az l) ((G ap k).b)) us)):AV)= .rd (ai (dr l us (G ap k).b))from by rw[GG])) (nx (ln 6 λPi=>?_))
  refine ln 7 λ_=>?_
  refine ln 8 λ_=>?_
  refine aj tb V (r6 [8,1000]) [_] U8 ?_
  refine ax (lpo (ι:=Nat×Value×(List Pr)) (λ(j,_,fG)=>(j<=(dr l us (G ap k).a).length)/\(fG=(ap.take k).flatMap (pq l us)++((dr l us (G ap k).a).take j).flatMap (sx l us (G ap k)))/\(fG.length<=4000000*k+2000*j)) (λ(_,v2,fG)=>[OB.row v2 162 2 (fG.map aS)]) (λ(j,v2,_)=>[(11,.int (j:Nat)),(7,.lit v2)]) (λ(j,_,_)=>(dr l us (G ap k).a).length-j) [0,1,2,3,5,6,7,4] U6 (0,v,out) ⟨aI,by simp only[List.take_zero,List.flatMap_nil,List.append_nil];exact ah,oz⟩ ?_)
  rintro⟨j,v2,fG⟩ ⟨fD,bu,i5⟩
  refine af (au tb V (r8 [1003]) [_,_,.int ((dr l us (G ap k).a).length:Nat),_] [2] U9 Y ⟨aC b7,U⟩ ?_)
  refine cj 8 ?_ ?_<;>intro hb2<;>try simp at hb2
  ·refine ak (nx (af (ax (aj tb V (r8 [1000]) [_] U9 ?_))))
   refine ax (lpo (ι:=Nat×Value×(List Pr)) (λ(i,_,nh)=>(i<=(dr l us (G ap k).b).length)/\(nh=(ap.take k).flatMap (pq l us)++((dr l us (G ap k).a).take j).flatMap (sx l us (G ap k))++((dr l us (G ap k).b).take i).map (λy=>da ⟨G (dr l us (G ap k).a) j,y⟩))/\(nh.length<=4000000*k+2000*j+i)) (λ(_,v3,nh)=>[OB.row v3 162 2 (nh.map aS)]) (λ(i,v3,_)=>[(12,.int (i:Nat)),(7,.lit v3)]) (λ(i,_,_)=>(dr l us (G ap k).b).length-i) (r7 [8,7]) U7 (0,v2,fG) ⟨aI,by simp only[List.take_zero,List.map_nil,List.append_nil];exact bu,oz⟩ ?_)
   rintro⟨i,v3,nh⟩ ⟨rx,jU,zx⟩
   refine af (au tb V (r9 [1003]) [_,_,.int ((dr l us (G ap k).b).length:Nat),_] [2] fp Y ⟨aC b7,U⟩ ?_)
   refine cj 9 ?_ ?_<;>intro aD<;>try simp at aD
   ·refine ak (nx (af (ax (λa w h=>po [] (γ:=Value) (λix'=>([.lit v3,.rd (ai (dr l us (G ap k).a)),.int (j:Nat),.ptr [lS (G (dr l us (G ap k).a) j)],.str (G (dr l us (G ap k).a) j),.rd (ai (dr l us (G ap k).b)),.int (i:Nat),.ptr [lS (G (dr l us (G ap k).b) i)],.str (G (dr l us (G ap k).b) i),.agg (aS (da ⟨(G (dr l us (G ap k).a) j),(G (dr l us (G ap k).b) i)⟩)),.rd (bM ([(da ⟨(G (dr l us (G ap k).a) j),(G (dr l us (G ap k).b) i)⟩)])),.any,.any]:List AV).getD ix' .any) (λ_=>true) [(0,λ_=>.rd (fq l)),(1,λ_=>.rd (bM ap)),(2,λ_=>.rd (ai us)),(8,λ_=>.int (k:Nat)),(9,λ_=>.rd (ai (dr l us (G ap k).a))),(10,λ_=>.rd (ai (dr l us (G ap k).b))),(11,λ_=>.int (j:Nat)),(12,λ_=>.int (i:Nat)),(7,λg=>.lit g)] (λj' g=>match j' with | 0=>[OB.row v3 162 2 (nh.map aS)] | _=>[OB.row g 162 2 ((nh++([(da ⟨(G (dr l us (G ap k).a) j),(G (dr l us (G ap k).b) i)⟩)])).map aS)]) (λk' g=>match k' with | 0=>g | 1=>g | _=>undef) [11,12] 2 (.slice none 0 0) (λ_=>Y) h V cU Y Y Y Y Y Y hsb ⟨oX Y λZ hl=>b9 Y (hl.env 8 7 _ Y Y) Z,oX Y λZ hl=>b9 Y (hl.env 4 9 _ Y Y) Z,oX Y λZ hl=>b9 Y (hl.env 6 11 _ Y Y) Z,?_,oX Y λZ hl=>bU fh Y (hl.D 3 53 Y Y) Z,oX Y λZ hl=>b9 Y (hl.env 5 10 _ Y Y) Z,oX Y λZ hl=>b9 Y (hl.env 7 12 _ Y Y) Z,?_,oX Y λZ hl=>bU fh Y (hl.D 7 57 Y Y) Z,λ_ O' _=>⟨Y,λa _ hk Z hl _=>cV (Du V (G (dr l us (G ap k).a) j) (G (dr l us (G ap k).b) i)) (cO func238) Y (aK hS _ hk Z) (Z.1) (aq (hl.D 4 54 Y Y) (aq (hl.D 8 58 Y Y) aN)) (jo V Z)⟩,?_,bC Y,bC Y,U⟩ ⟨?zi,?zj,U⟩ ⟨.old 0 0 _,.old 1 1 _,.old 2 2 _,.old 3 8 _,.old 4 9 _,.old 5 10 _,.old 6 11 _,.old 7 12 _,.d6 1 12 7 (λ(g:Value)=>g) Y Y (λ_=>Y) (λ_ _ Z=>nq (Z.2.1 _ (mo 0 Y))),U⟩ ?Rl))))
    exact λ_ O' _=>⟨Y,λa _ _ Z hl _=>cb (i:=(j:Int)) bz Y (hl.D 1 51 Y Y) (hl.D 2 52 Y Y) bK (cl (xs:=(dr l us (G ap k).a)) (k:=j) ay) Y Z⟩
    exact oX Y λZ hl=>cb (i:=(i:Int)) bz Y (hl.D 5 55 Y Y) (hl.D 6 56 Y Y) bK (cl (xs:=(dr l us (G ap k).b)) (k:=i) ay) Y Z
    exact oY Y λhk Z hl=>nl df Cs dz Y Y (hl.D 9 59 Y Y) (aK hS _ hk Z _ aV) (jo V Z)
    case zi=>exact⟨_,Y,Y,Y,Y,λ_ a w hk Z hl _=>bD (lw (f:=aS) nh ([(da ⟨(G (dr l us (G ap k).a) j),(G (dr l us (G ap k).b) i)⟩)]) (λ_=>rfl) vk V hJ0 Y hk Z (hl.D 0 50 Y Y).lit (hl.D 10 60 Y Y) (by simp;omega) (by simp;omega)) λv w' hp=>⟨v,Y,λk' hk'=>absurd hk' (Nat.not_lt_zero _),λ_=>rfl,hp⟩⟩
    case zj=>exact⟨_,Y,Y,Y,Y,λg _ w hk Z _ hs=>bD (rq (.inl Y) (hs 0 11 _ 61 oz Y Y Y) hk Z) λv w' hp=>⟨g,Y,λ_ _=>rfl,λ_=>hp.1,hp.2⟩⟩
    clear a w h
    intro v2
    dsimp only[List.map]
    refine nx (ln 4 λXQ=>?_)
    refine ln 5 λ_=>?_
    refine aT tb V (r7 [8,1002]) [_,.int (i+1:Nat),_] [1] U9 Y ⟨aM,U⟩ ?_
    exact br (i+1,v2,nh++([(da ⟨(G (dr l us (G ap k).a) j),(G (dr l us (G ap k).b) i)⟩)])) (r7 [8,7]) ⟨oz,by rw[A2 oz,<-append_assoc,<-jU],by simp;omega⟩
   ·refine aW (nx (aT tb V (r6 [8,1002]) [_,.int (j+1:Nat),_] [1] U8 Y ⟨aM,U⟩ ?_))
    exact br (j+1,v3,nh) (r6 [7,6]) ⟨oz,by rw[tC oz,<-append_assoc,<-bu,jU,cS (xs:=(dr l us (G ap k).b)) oz,<-bu];rfl,oz⟩
  ·refine aW (nx (aT tb V [0,1,2,7,1002] [_,.int (k+1:Nat),_] [1] U5 Y ⟨aM,U⟩ ?_))
   exact br (k+1,v2,fG) [0,1,2,4,3] ⟨oz,by rw[tC oz,<-ah,bu,cS (xs:=(dr l us (G ap k).a)) oz,<-ah];rfl,oz⟩
 ·refine aW (nx (aj tb V [1001] U2 [_] ?_))
  exact tw (λh=>dU hS h (m:=0) (s:=6) Y) (bH 0 (hE:=congrArg (λz=>AV.rd (bM z)) (show out=(fi l ap us)from by rw[ah,cS oz,BN])))
theorem Ld (wd:List Pr) (x:Pr)  :Fn prog J 210 [.rd (bM wd),.agg (aS x)] (.bool (decide (x∈wd.map da))):=by
 refine fE func210 λS w0 hS hJ0=>?_
 refine tw cc (ln 0 λcr=>?_)
 refine au tb V [0,1000] [.ptr (aS x),_] [0] U2 Y ⟨cY hS V,U⟩ ?_
 refine af (aj tb V [0,1,1000] [_] U3 ?_)
 refine ax (lpo (ι:=Nat) (λk=>(k<=wd.length)/\(∀ j,j<k->¬ da (G wd j)=x)) (λ_=>[]) (λk=>[(5,.int (k:Nat))]) (λk=>wd.length-k) [0,1,2] U2 0 ⟨aI,λj hj=>by omega⟩ ?_)
 rintro k ⟨aQ,ah⟩
 refine af (au tb V [0,1,2,1003] [_,_,.int (wd.length:Nat),_] [2] U4 Y ⟨aC fQ,U⟩ ?_)
 refine cj 3 ?_ ?_<;>intro hb1<;>try simp at hb1
 ·refine ak (nx (af (ax (au tb V [0,1,2,1012] [_,_,.ptr (aS (G wd k)),_,_,_,_,.ptr (aS (G wd k)),_,_,.agg (aS (da ⟨((G wd k).a),((G wd k).b)⟩)),_,.bool (decide ((da ⟨((G wd k).a),((G wd k).b)⟩).a=x.a)&&decide ((da ⟨((G wd k).a),((G wd k).b)⟩).b=x.b))] [2,7,10,12] U4 Y ⟨bq df,bq df,bJ hS V (Du V ((G wd k).a) ((G wd k).b)) (cO func238),λ_ _ _ Z hl _=>BB ru Y (hl.D 10 22 Y Y) (hl.D 11 23 Y Y) Z,U⟩ ?_))))
  refine cj 3 ?_ ?_<;>intro hb2<;>try simp at hb2
  ·refine aj tb V [1000] [_] [_] ?_
   exact bH 0 (hE:=eB (by rw[decide_eq_true (TJ hb1 (sr.1 (by simpa [iq]using hb2)))]))
  ·refine ak (nx (aT tb V [0,1,1002] [_,.int (k+1:Nat),_] [1] U3 Y ⟨aM,U⟩ ?_))
   exact br (k+1) [0,1,2] ⟨oz,cB ah (λe=>by simp[e]at hb2)⟩
 ·refine aW (nx (aj tb V [1000] [_] [_] ?_))
  exact bH 0 (hE:=eB (by rw[decide_eq_false (TK λj hj=>ah j oz)]))
theorem KM (l:List Bd) (ap:List Pr) (us:List BA) (wd:List Pr) (hap:ap.length<=100000) (hl:∀ b∈l,b.ac.length<=2000):Fn prog J 168 [.rd (fq l),.rd (bM ap),.rd (ai us),.rd (bM wd)] (.bF [.agg (aS (fJ l ap us wd)),.bool (eQ l ap us wd)]):=by
 refine fE func168 λS w0 hS hJ0=>?_
 refine tw cc (ln 0 λcr=>?_)
 refine ln 1 λ_=>?_
 refine ln 2 λ_=>?_
 refine ln 3 λ_=>?_
 refine aL (cx nw V Y Y Y (lb Y) λb1=>ao 1 tb Y (aA [1,2,3,4,5] U5 Y (nx (au tb V [0,4,1003,1004] (V3 [.rd (bM (fi l ap us)),_]) [3] U4 Y ⟨bJ hS V (Lj V l ap us ay ay) (cO func209),U⟩ ?_))))
 refine ln 2 λ_=>?_
 refine af (aj tb V [0,1,3,1000] [_] U4 ?_)
 refine ax (lpo (ι:=Nat) (λk=>(k<=(fi l ap us).length)/\(∀ j,j<k->gM wd (G (fi l ap us) j)=false)) (λ_=>[OB.var b1 [lS (⟨#[]⟩:BA),lS (⟨#[]⟩:BA)]]) (λk=>[(11,.int (k:Nat))]) (λk=>(fi l ap us).length-k) [0,1,2,3] U3 0 ⟨aI,λj hj=>by omega⟩ ?_)
 rintro k ⟨aQ,ah⟩
 refine af (au tb V [0,1,2,3,1003] [_,_,.int ((fi l ap us).length:Nat),_] [2] U5 Y ⟨aC fQ,U⟩ ?_)
 refine cj 4 ?_ ?_<;>intro hb1<;>try simp at hb1
 ·refine ak (nx (af (ax (au tb V [0,1,2,3,1019] [_,_,.ptr (aS (G (fi l ap us) k)),_,_,_,_,.ptr (aS (G (fi l ap us) k)),_,_,_,_,_,_,_,.ptr (aS (G (fi l ap us) k)),_,.bool (decide ((G (fi l ap us) k)∈wd.map da)),_,_] [2,7,15,17] U5 Y ⟨bq df,bq df,cT df (hk:=λ(aF:((decide (((G (fi l ap us) k).a)=((G (fi l ap us) k).b)))==false)=true)=>by(try simp at aF);first | omega | (simp;omega) | grind[aE]),bJ hS V (Ld V wd (G (fi l ap us) k)) (cO func210),U⟩ ?_))))
  refine cj 4 ?_ ?_<;>intro hb2
  ·have e3:jS l ap us wd=some (G (fi l ap us) k):=Kr hb1 ah (by rw[<-hb2,gM,Bool.or_comm])
   refine aL (ao 2 tb Y (sy (.ptr (aS (G (fi l ap us) k))) (λh=>cb (i:=(k:Int)) df Y (h.get 1 Y) (h.get 0 Y) bK (cl (xs:=(fi l ap us)) (k:=k) ay) Y h.x) ?_))
   refine ao 1 tb Y (ce (b:=b1) (off:=0) (es:=U2) (news:=U2) V hJ0 j6 Y Y Y (lb Y) Y (λa w h=>⟨(h.get 4 Y),(h.get 0 Y)⟩) (ao 1 tb Y (aA [0,5] U2 Y (nx (aX (λa w h=>ja (m:=1) (q:=0) Y jE h Y Y (show(_:List CD)=[lS ((fJ l ap us wd).a),lS ((fJ l ap us wd).b)]from by(simp[fJ, *])<;>rfl) Y (eB (by simp[eQ, *]))))))))
  ·have e4:gM wd (G (fi l ap us) k)=false:=by rw[<-hb2,gM,Bool.or_comm]
   refine ak (nx (aT tb V [0,1,2,1002] [_,.int (k+1:Nat),_] [1] U4 Y ⟨aM,U⟩ ?_))
   exact br (k+1) [0,1,2,3] ⟨oz,cB ah e4⟩
 ·have e5:jS l ap us wd=none:=Kv λj hj=>ah j oz
  refine aW (nx (aL (sy (.agg (aS (⟨⟨#[]⟩,⟨#[]⟩⟩:Pr))) (λh=>gr (ps:=[]) (us:=[.string ⟨#[]⟩,.string ⟨#[]⟩]) De Y yz gn Y (dT (.lit _ aI) (dT (.lit _ aI) cM)) h.x) ?_)))
  refine ce (b:=b1) (off:=0) (es:=U2) (news:=U2) V hJ0 j6 Y Y Y (lb Y) Y (λa w h=>⟨(h.get 1 Y),(h.get 0 Y)⟩) (ao 1 tb Y (aA [0,2] U2 Y (nx (aX (λa w h=>ja (m:=1) (q:=0) Y jE h Y Y (show(_:List CD)=[lS ((fJ l ap us wd).a),lS ((fJ l ap us wd).b)]from by(simp[fJ, *])<;>rfl) Y (eB (by simp[eQ, *])))))))
end
end
section
open Go.RowKit
theorem HL:∀(r:List Value) (s off:Nat) (pre old post:List Value),pre.length=off+s->old.length=r.length->
 (r.zipIdx s).foldl (λ(cs:Array Value) (x:Value×Nat)=>cs.setIfInBounds (off+x.2) x.1) (pre++old++post).toArray=(pre++r++post).toArray
 | [],s,off,pre,old,post,_,h2=>by
  have:old=[]:=List.length_eq_zero_iff.1 (by simpa using h2)
  subst this
  rfl
 | v::r,s,off,pre,old,post,h1,h2=>by
  match old,h2 with
  | u::old,h2=>
   rw[List.zipIdx_cons,List.foldl_cons]
   have e:((pre++u::old++post).toArray.setIfInBounds (off+s) v)=((pre++[v])++old++post).toArray:=by
    rw[List.setIfInBounds_toArray]
    congr 1
    rw[append_assoc,List.set_append_right _ _ oz,h1.symm,Nat.sub_self]
    simp
   rw[e,HL r (s+1) off (pre++[v]) old post (by simp;omega) (by simpa using h2)]
   simp
theorem Ee {k:Nat}:∀(rows:List (List Value)) (i:Nat) (pre z:List Value),pre.length=i*k->z.length=rows.length*k->(∀ r∈rows,r.length=k)->
 Instr.fill (λi=>some (i*k,k)) (pre++z).toArray ((rows.zipIdx i).map λp=>(p.2,Value.agg p.1.toArray))=some (pre++rows.flatten).toArray
 | [],i,pre,z,_,h2,_=>by
  have:z=[]:=List.length_eq_zero_iff.1 (by simpa using h2)
  subst this
  simp[Instr.fill]
 | r::rows,i,pre,z,h1,h2,h3=>by
  have hr:=h3 r yz
  have hz:z.length=k+rows.length*k:=by rw[h2,length_cons,Nat.succ_mul,Nat.add_comm]
  have hcell:(Value.agg r.toArray).cells=r.toArray:=rfl
  simp only[List.zipIdx_cons,List.map_cons,Instr.fill,hcell]
  rw[if_neg (by simp[hr];omega)]
  have e:(Array.foldl (λcs (x:Value×Nat)=>cs.setIfInBounds (i*k+x.snd) x.fst) (pre++z).toArray r.toArray.zipIdx)=((pre++r)++z.drop k).toArray:=by
   have:=HL r 0 (i*k) pre (z.take k) (z.drop k) h1 (by rw[length_take];omega)
   rw[append_assoc pre,List.take_append_drop]at this
   rw[<-this]
   simp
  rw[e,Ee rows (i+1) (pre++r) (z.drop k) (by rw[length_append,h1,hr,Nat.succ_mul]) (by rw[List.length_drop];omega) λq hq=>h3 q (by simp[hq])]
  simp
section
variable {n:Rn} {N:Nat} {P:Program} {J X:WP} {S S' gK:Nat->Prop} {O:List OB} {w0:World} {env:List (Nat×AV)} {Q:Exit->Act->WP}
variable {o:Oper} {a:Act} {w:World} {t e u:TypeId} {x y:Operand}
theorem Iv {k:Nat}:∀ {cs:List (List CD)} {vs:List Value},bi S w (cs.map AV.agg) vs->(∀ r∈cs,r.length=k)->
 ∃ us:List (List Value),vs=us.map (λr=>Value.agg r.toArray)/\us.length=cs.length/\(∀ r∈us,r.length=k)/\bE S w cs.flatten us.flatten
 | [],vs,h,_=>by
  simp only[List.map_nil,bi]at h
  subst h
  exact⟨[],rfl,rfl,by simp,trivial⟩
 | c::cs,vs,h,hk=>by
  simp only[List.map_cons,bi]at h
  obtain⟨v,vs',rfl,h1,h2⟩:=h
  simp only[Rel]at h1
  obtain⟨u,rfl,hr⟩:=h1
  obtain⟨us,rfl,hl,hk2,ff⟩:=Iv (cs:=cs) h2 λr hr=>hk r (by simp[hr])
  refine⟨u::us,rfl,by simp[hl],λr eh=>?_,?_⟩
  ·rcases mem_cons.1 eh with rfl | eh
   ·rw[hr.length];exact hk c yz
   ·exact hk2 r eh
  ·rw[flatten_cons,flatten_cons]
   exact hr.append ff
theorem H7 {k m:Nat} {cs:List (List CD)} {vs:List Value} {z:Array Value} {parts:Array (Nat×Operand)} (ht:dA P t e k) (hz:∀ w,(zeroValue e).run P w= .ok (.agg z) w) (hop:o.op= .buildSlice t m parts) (hp:(parts.map λ(i,x)=>(i,a.eval x)).toList=vs.zipIdx.map λp=>(p.2,p.1)) (h:bi S w (cs.map AV.agg) vs) (hk:∀ r∈cs,r.length=k) (hl:cs.length=m) (h1:1<=k) (hm:1<=m*k) (hm2:m*k<=16777216)
 (hS:S w.heap.size) (Z:∀ w',Keeps All w w'->X w'):Does n P o a w (bG S X (.rd (.sl cs)) w):=by
 obtain⟨us,rfl,kE,FF,nT⟩:=Iv h hk
 have fe:us.flatten.length=m*k:=by
  have:∀ us:List (List Value),(∀ r∈us,r.length=k)->us.flatten.length=us.length*k:=by
   intro us
   induction us with
   | nil=>simp
   | cons r us ih=>intro h;rw[flatten_cons,length_append,h r yz,ih λq hq=>h q (by simp[hq]),length_cons,Nat.succ_mul,Nat.add_comm]
  rw[this us FF,kE,hl]
 have hf:=Ee us 0 [] ((List.range (m*k)).map (z[· %z.size]!)) yz (by simp[kE,hl]) FF
 have O0:Instr.fill (λi=>some (i*k,k)) ((Array.range (m*k)).map (z[· %z.size]!)) (parts.map λ(i,x)=>(i,a.eval x)).toList=some us.flatten.toArray:=by
  rw[hp,List.zipIdx_map,map_map]
  have e:(Array.range (m*k)).map (z[· %z.size]!)=([]++(List.range (m*k)).map (z[· %z.size]!)).toArray:=by
   apply Array.ext'
   simp[Array.toList_range]
  rw[e]
  exact hf
 have hk':Keeps All w (w.alloc (.cells us.flatten.toArray e)):=(Keeps.refl _ _).alloc _
 refine en (v:=.slice (some ⟨w.heap.size,0,none⟩) m m) (w':=w.alloc (.cells us.flatten.toArray e)) ?_ ⟨?_,hk',Z _ hk'⟩
 ·have OT:(Value.agg z).cells=z:=rfl
  rw[execOp,hop]
  simp only[Sem.run_bind,Instr.buildSlice,run_underlying ht.1,Result.andThen_ok,ht.2 w]
  simp[newRow,newObj]
  rw[hz w]
  simp only[Result.andThen_ok,OT]
  have Ff:=O0
  simp only[Array.toList_map]at Ff
  simp only[Ff]
  rw[if_neg oz,if_neg oz]
  rfl
 ·simp only[Rel]
  rw[show(m:Nat)=cs.length from hl.symm]
  refine Rd.of_cells (n:=k) (us:=us.flatten) aV (by rw[hl];exact Nat.le_trans (Nat.le_mul_of_pos_right m h1) (Nat.le_trans hm2 dz)) yz hS hk (nT.keep hk' λ_ _ _=>trivial) λj u hj=>nJ j u hj
end
theorem yO:lN prog 182 2:=⟨#[.string ⟨#[]⟩,.slice none 0 0],Y,λi=>(#[(0,1),(1,1)]:Array (Nat×Nat))[i]?,λj hj=>by rcases j with _ | _ | j<;>first | rfl | omega,λparts=>by kernel_rfl⟩
section
variable {J:WP} (V:aR J)
include V
theorem KR (f:Fr) (s:BA)  :Fn prog J 129 [.agg (a8 f),.str s] (.bF [.agg (aP ((cA f s).getD default)),.bool ((cA f s).isSome)]):=by
 refine fE func129 λS w0 hS hJ0=>?_
 refine tw cc (aL (sy (.ptr (a8 f)) (λh=>fk Y (h.get 0 Y) (aK hS _ h.keep h.x _ aV) (jo V h.x)) ?_))
 refine cx kR V Y Y Y (lb Y) λb1=>ao 1 tb Y (aA [1,2,4] U3 Y (nx (af (aj tb V [0,1,2,1000] [_] U4 ?_))))
 refine ax (lpo (ι:=Nat) (λk=>(k<=f.aa.length)/\(∀ j,j<k->¬ (G f.aa j).ae=s)) (λ_=>[OB.var b1 [lS (⟨#[]⟩:BA),lB false,ai ([]:List BA)]]) (λk=>[(6,.int (k:Nat))]) (λk=>f.aa.length-k) [0,1,2,3] U3 0 ⟨aI,λj hj=>by omega⟩ ?_)
 rintro k ⟨aQ,ah⟩
 refine af (au tb V [0,1,2,3,1002,1004] (V3 [.int (f.aa.length:Nat),_]) [3] U6 Y ⟨aC cW,U⟩ ?_)
 refine ln 4 λ_=>?_
 refine cj 5 ?_ ?_<;>intro hb1<;>try simp at hb1
 ·refine ak (nx (af (ax (au tb V [0,1,2,3,1007] (V3 [.ptr (aP (G f.aa k)),_,_,_,_]) [3] U5 Y ⟨bq cL,U⟩ ?_))))
  refine cj 4 ?_ ?_<;>intro hb2<;>try simp at hb2
  ·have e3:cA f s=some (G f.aa k):=AE (k:=0) oz (λi hi=>by omega) hb1 ah hb2
   refine aL (ao 3 tb Y (sy (.ptr (aP (G f.aa k))) (λh=>cb (i:=(k:Int)) cL Y (h.get 1 Y) (h.get 0 Y) bK (cl (xs:=f.aa) (k:=k) ay) Y h.x) ?_))
   refine ao 1 tb Y (ce (b:=b1) (off:=0) (es:=U3) (news:=U3) V hJ0 jx Y Y Y (lb Y) Y (λa w h=>⟨(h.get 5 Y),(h.get 0 Y)⟩) (ao 1 tb Y (aA [0,6] U2 Y (nx (aX (λa w h=>ja (m:=1) (q:=0) Y nF h Y Y (show(_:List CD)=[lS (((cA f s).getD default).ae),lB (((cA f s).getD default).bn),ai (((cA f s).getD default).ac)]from by(rw[e3];rfl)<;>rfl) Y (eB (by rw[e3];rfl))))))))
  ·refine ak (nx (aT tb V [0,1,2,1002] [_,.int (k+1:Nat),_] [1] U4 Y ⟨aM,U⟩ ?_))
   exact br (k+1) [0,1,2,3] ⟨oz,cB ah hb2⟩
 ·have E1:∀ i,i<1->∀ h∈fX f.aa f.bB i,¬ h.ae=s:=λi hi h hh=>by obtain rfl:i=0:=oz;obtain⟨j,hj,rfl⟩:=ej (show h∈f.aa from hh);exact ah j oz
  refine aW (nx (af (aj tb V [0,1,2,1000] [_] U4 ?_)))
  refine ax (lpo (ι:=Nat) (λq=>(q<=f.bB.length)/\(∀ j,j<q->¬ (G f.bB j).ae=s)) (λ_=>[OB.var b1 [lS (⟨#[]⟩:BA),lB false,ai ([]:List BA)]]) (λq=>[(7,.int (q:Nat))]) (λq=>f.bB.length-q) [0,1,2,3] U3 0 ⟨aI,λj hj=>by omega⟩ ?_)
  rintro q ⟨fD,bu⟩
  refine af (au tb V [0,1,2,3,1002,1004] (V3 [.int (f.bB.length:Nat),_]) [3] U6 Y ⟨aC cW,U⟩ ?_)
  refine ln 4 λ_=>?_
  refine cj 5 ?_ ?_<;>intro aD<;>try simp at aD
  ·refine ak (nx (af (ax (au tb V [0,1,2,3,1007] (V3 [.ptr (aP (G f.bB q)),_,_,_,_]) [3] U5 Y ⟨bq cL,U⟩ ?_))))
   refine cj 4 ?_ ?_<;>intro bd<;>try simp at bd
   ·have e3:cA f s=some (G f.bB q):=AE (k:=1) oz E1 aD bu bd
    refine aL (ao 3 tb Y (sy (.ptr (aP (G f.bB q))) (λh=>cb (i:=(q:Int)) cL Y (h.get 1 Y) (h.get 0 Y) bK (cl (xs:=f.bB) (k:=q) ay) Y h.x) ?_))
    refine ao 1 tb Y (ce (b:=b1) (off:=0) (es:=U3) (news:=U3) V hJ0 jx Y Y Y (lb Y) Y (λa w h=>⟨(h.get 5 Y),(h.get 0 Y)⟩) (ao 1 tb Y (aA [0,6] U2 Y (nx (aX (λa w h=>ja (m:=1) (q:=0) Y nF h Y Y (show(_:List CD)=[lS (((cA f s).getD default).ae),lB (((cA f s).getD default).bn),ai (((cA f s).getD default).ac)]from by(rw[e3];rfl)<;>rfl) Y (eB (by rw[e3];rfl))))))))
   ·refine ak (nx (aT tb V [0,1,2,1002] [_,.int (q+1:Nat),_] [1] U4 Y ⟨aM,U⟩ ?_))
    exact br (q+1) [0,1,2,3] ⟨oz,cB bu bd⟩
  ·have e3:cA f s=none:=AD λi hi h hh=>by(rcases Nat.lt_or_ge i 1 with h9 | h9);exact E1 i h9 h hh;obtain rfl:i=1:=oz;obtain⟨j,hj,rfl⟩:=ej (show h∈f.bB from hh);exact bu j oz
   refine aW (nx (aL (sy (.agg (aP (⟨⟨#[]⟩,false,[]⟩:Hy))) (λh=>gr (ps:=[]) (us:=[.string ⟨#[]⟩,.bool false,.slice none 0 0]) yL Y yz gn Y (dT (.lit _ aI) (dT (.lit _ True.intro) (dT (.nil _ _ aI) cM))) h.x) ?_)))
   refine ce (b:=b1) (off:=0) (es:=U3) (news:=U3) V hJ0 jx Y Y Y (lb Y) Y (λa w h=>⟨(h.get 1 Y),(h.get 0 Y)⟩) (ao 1 tb Y (aA [0,2] U2 Y (nx (aX (λa w h=>ja (m:=1) (q:=0) Y nF h Y Y (show(_:List CD)=[lS (((cA f s).getD default).ae),lB (((cA f s).getD default).bn),ai (((cA f s).getD default).ac)]from by(rw[e3];rfl)<;>rfl) Y (eB (by rw[e3];rfl)))))))
theorem KJ (d:Db) (i:Nat) (s:BA) (hi:i<=d.ab.length):Fn prog J 130 [.agg (bV d),.int (i:Nat),.str s] (.int (dR d i s)):=by
 refine fE func130 λS w0 hS hJ0=>?_
 clear hJ0
 refine aJ tb V [1,2,1000] [.ptr (bV d),_] [0] U3 Y ⟨d9 hS V,U⟩ ?_
 refine af (qs tb V [0,1,2,1000] [_] U4 ?_)
 refine ax (lp (ι:=Nat) (λk=>(k<=i)/\(∀ j,j<k->¬ (G d.ab j).ae=s)) (λk=>[(7,.int (k:Nat))]) (λk=>i-k) [0,1,2,3] U3 0 ⟨aI,λj hj=>by omega⟩ ?_)
 rintro k ⟨aQ,ah⟩
 refine af (qs tb V [0,1,2,3,1002] U3 U5 ?_)
 refine cj 4 ?_ ?_<;>intro hb1<;>try simp at hb1
 ·refine ak (nx (af (ax (aJ tb V [0,1,2,3,1001,1007] (V3 [.ptr (a8 (G d.ab k)),_,_,_,_]) [3] U6 Y ⟨bq fT,U⟩ ?_))))
  refine ln 4 λ_=>?_
  refine cj 5 ?_ ?_<;>intro hb2<;>try simp at hb2
  ·refine qs tb V [1001] U2 [_] ?_
   exact aU 0 (hE:=eI (by first | exact(yD hi hb1 ah hb2).symm | exact(yE λj hj=>ah j oz).symm))
  ·refine ak (nx (dK tb V [0,1,2,1002] [_,.int (k+1:Nat),_] [1] U4 Y ⟨aM,U⟩ ?_))
   exact dM (k+1) [0,1,2,3] ⟨oz,cB ah hb2⟩
 ·refine aW (nx (qs tb V [1000] [_] [_] ?_))
  exact aU 0 (hE:=eI (by first | exact(yD hi hb1 ah hb2).symm | exact(yE λj hj=>ah j oz).symm))
theorem KZ (d:Db) (i q:Nat) (es:List (List BA)) (hi:i<d.ab.length) (hq:q<d.ab.length) (tM:es.length=(G d.ab q).aa.length) (het:∀ t∈es,1<=t.length/\t.length<=2000) (hf:∀ h∈(G d.ab q).aa,h.bn=true->h.ac.length=2) (hap:(G d.ab q).apart.length<=100000) (hh:(G d.ab q).aa.length<=2000):Fn prog J 131 [.agg (bV d),.int (i:Nat),.int (q:Nat),.rd (cu es)] (.bF [.rd (ai ((de d.vars (G d.ab i).wide (G d.ab q) es).1)),.int ((de d.vars (G d.ab i).wide (G d.ab q) es).2)]):=by
 refine fE func131 λS w0 hS hJ0=>?_
 refine tw cc (ln 3 λcr=>?_)
 refine au tb V [1,2,3,1000] [.ptr (bV d),_,_] [0] U4 Y ⟨cY hS V,U⟩ ?_
 refine aL (ao 3 tb Y (sy (.ptr (a8 (G d.ab q))) (λh=>cb (i:=(q:Int)) fT Y (h.get 1 Y) (h.get 0 Y) bK (cl (xs:=d.ab) (k:=q) ay) Y h.x) ?_))
 refine ao 1 tb Y (iX (cs:=a8 (G d.ab q)) yn Y Y Y (lb Y) Y Y Y dz (m:=0) Y Y (λa w h=>aK hS _ h.keep h.x _ aV) (λa w h w' hk'=>fo V _ _ hk' h.x) (aA [0,4,6,8,9] U5 Y (nx (ln 1 λhl2=>?_))))
 refine aL (kz p6 V Y Y Y (lb Y) λv1=>ao 1 tb Y (aA [0,2,4,5,6] U5 Y (nx (af (aj tb V (r5 [1000]) [_] U6 ?_)))))
 refine ax (lpo (ι:=Nat×Value×(List Bd)) (λ(k,_,bs)=>(k<=(G d.ab q).aa.length)/\(bs=bP (G d.ab q).aa es 0 k)/\(∀ j,j<k->fg (G d.ab q).aa es 0 j=true)) (λ(_,wv,bs)=>[OB.row wv 182 2 (bs.map fj)]) (λ(k,wv,_)=>[(12,.int (k:Nat)),(11,.lit wv)]) (λ(k,_,_)=>(G d.ab q).aa.length-k) [1,2,3,4,5,0] U4 (0,v1,([]:List Bd)) ⟨aI,Y,λj hj=>by omega⟩ ?_)
 rintro⟨k,wv,bs⟩ ⟨aQ,ah,bh⟩
 refine af (au tb V (r6 [1002,1004]) (V3 [.int (((G d.ab q).aa).length:Nat),_]) [3] U8 Y ⟨aC cW,U⟩ ?_)
 refine ln 6 λ_=>?_
 refine cj 7 ?_ ?_<;>intro hb1<;>try simp at hb1
 ·refine ak (nx (af (ax (af (au tb V (r6 [1006]) (V3 [.ptr (aP (G ((G d.ab q).aa) k)),_,_,_]) [3] U7 Y ⟨bq cL,U⟩ ?_)))))
  refine cj 6 ?_ ?_<;>intro hb2<;>try simp at hb2
  ·refine aW (nx (aT tb V [0,1,2,3,5,1002] [_,.int (k+1:Nat),_] [1] U6 Y ⟨aM,U⟩ ?_))
   exact br (k+1,wv,bs) [0,1,2,3,5,4] ⟨oz,by rw[sS,<-ah];simp[kU,hb2],cB bh (by simp[fg,hb2])⟩
  ·have e3:(G (G d.ab q).aa k).ac.length=2:=hf _ (aE oz) (by simpa using hb2)
   have e4:=het _ (aE (xs:=es) (k:=k) oz)
   refine ak (nx (af (au tb V (r6 [1003,1022]) [_,_,.ptr [ai (G es k)],_,.int ((G es k).length:Nat),_,_,_,_,.ptr [ai (G es k)],_,.ptr [lS (G (G es k) 0)],_,_,_,_,.ptr (aP (G ((G d.ab q).aa) k)),_,_,.ptr [lS (G ((G ((G d.ab q).aa) k).ac) 0)],_,_,_] [2,4,9,11,16,19] U8 Y ⟨bq eG,aC b7,cT eG (hk:=λ(aF:((decide ((((G es k).length:Nat):Int)=(0:Int)))==false)=true)=>by(try simp at aF);first | omega | (simp;omega) | grind[aE]),cT (k:=0) bz (hk:=λ(aF:((decide ((((G es k).length:Nat):Int)=(0:Int)))==false)=true)=>by(try simp at aF);first | omega | (simp;omega) | grind[aE]),cT cL (hk:=λ(aF:((decide ((((G es k).length:Nat):Int)=(0:Int)))==false)=true)=>by(try simp at aF);first | omega | (simp;omega) | grind[aE]),cT (k:=0) bz (hk:=λ(aF:((decide ((((G es k).length:Nat):Int)=(0:Int)))==false)=true)=>by(try simp at aF);first | omega | (simp;omega) | grind[aE]),U⟩ ?_)))
   refine ln 6 λ_=>?_
   refine cj 7 ?_ ?_<;>intro aD
   ·have e5:fg (G d.ab q).aa es 0 k=false:=by simp only[fg,Nat.zero_add,Bool.or_eq_false_iff,Bool.not_eq_false',decide_eq_false_iff_not];exact⟨by simpa using hb2,λe=>by simp[e]at aD;have:=e4.1;simp[aD]at this⟩
    have eU:(de d.vars (G d.ab i).wide (G d.ab q) es)=([],24):=Jr oz e5
    refine aj tb V [1000,1001] U2 U2 ?_
    exact tw (λh=>gu h (m:=0) (s:=8) Y) (aX (λa w h=>di (m:=0) (k:=1) Y (dw h) Y Y (congrArg (λz=>AV.rd (ai z)) (show([]:List BA)=((de d.vars (G d.ab i).wide (G d.ab q) es).1)from by first | (rw[eU];done) | (rw[eU,if_neg (by simp[e9])]))) (eI (by first | (rw[eU];done) | (rw[eU,if_neg (by simp[e9])])))))
   ·have e5:fg (G d.ab q).aa es 0 k=true:=by simp only[Bool.or_eq_false_iff,Bool.not_eq_false',decide_eq_true_eq]at aD;simp[fg,aD.2]
    refine ak (nx (λa w h=>po [] (γ:=Value) (λix'=>([.lit wv,.ptr [bX ((G d.ab q).aa),bM ((G d.ab q).apart),ai ((G d.ab q).ac),bX ((G d.ab q).bB),bM ((G d.ab q).wide),ai ((G d.ab q).proof)],.rd (bX ((G d.ab q).aa)),.int (k:Nat),.ptr (aP (G ((G d.ab q).aa) k)),.ptr [ai ((G ((G d.ab q).aa) k).ac)],.rd (ai ((G ((G d.ab q).aa) k).ac)),.ptr [lS (G ((G ((G d.ab q).aa) k).ac) 1)],.str (G ((G ((G d.ab q).aa) k).ac) 1),.rd (cu es),.int (k:Nat),.ptr [ai (G es k)],.rd (ai (G es k)),.rd (ai ((G es k).drop 1)),.agg (fj (⟨(G ((G ((G d.ab q).aa) k).ac) 1),(G es k).drop 1⟩:Bd)),.rd (fq ([(⟨(G ((G ((G d.ab q).aa) k).ac) 1),(G es k).drop 1⟩:Bd)])),.any,.any]:List AV).getD ix' .any) (λ_=>true) [(10,λ_=>.ptr (a8 (G d.ab q))),(1,λ_=>.int (i:Nat)),(3,λ_=>.rd (cu es)),(4,λ_=>.ptr (bV d)),(12,λ_=>.int (k:Nat)),(11,λg=>.lit g)] (λj' g=>match j' with | 0=>[OB.row wv 182 2 (bs.map fj)] | _=>[OB.row g 182 2 ((bs++([(⟨(G ((G ((G d.ab q).aa) k).ac) 1),(G es k).drop 1⟩:Bd)])).map fj)]) (λk' g=>match k' with | 0=>g | 1=>g | _=>undef) [16,17] 2 (.slice none 0 0) (λ_=>Y) h V cU Y Y Y Y Y Y hsb ⟨oX Y λZ hl=>b9 Y (hl.env 5 11 _ Y Y) Z,oX Y λZ hl=>cd tB Y (hl.env 0 10 _ Y Y) Z,oX Y λZ hl=>bU si Y (hl.D 1 62 Y Y) Z,oX Y λZ hl=>b9 Y (hl.env 4 12 _ Y Y) Z,?_,oX Y λZ hl=>cd lX Y (hl.D 4 65 Y Y) Z,oX Y λZ hl=>bU ip Y (hl.D 5 66 Y Y) Z,?_,oX Y λZ hl=>bU fh Y (hl.D 7 68 Y Y) Z,oX Y λZ hl=>b9 Y (hl.env 2 3 _ Y Y) Z,oX Y λZ hl=>b9 Y (hl.env 4 12 _ Y Y) Z,?_,oX Y λZ hl=>bU ip Y (hl.D 11 72 Y Y) Z,?_,?_,?_,bC Y,bC Y,U⟩ ⟨?p5,?th,U⟩ ⟨.old 0 10 _,.old 1 1 _,.old 2 3 _,.old 3 4 _,.old 4 12 _,.d6 1 17 11 (λ(g:Value)=>g) Y Y (λ_=>Y) (λ_ _ Z=>nq (Z.2.1 _ (mo 0 Y))),U⟩ ?Ba))
    exact oX Y λZ hl=>cb (i:=(k:Int)) cL Y (hl.D 2 63 Y Y) (hl.D 3 64 Y Y) bK (cl (xs:=(G d.ab q).aa) (k:=k) ay) Y Z
    exact oX Y λZ hl=>cb (i:=((1:Nat):Int)) bz Y (hl.D 6 67 Y Y) (Rel.aH (.int .i64 1)) bK (cl (xs:=(G ((G d.ab q).aa) k).ac) (k:=1) ay) Y Z
    exact oX Y λZ hl=>cb (i:=(k:Int)) eG Y (hl.D 9 70 Y Y) (hl.D 10 71 Y Y) bK (cl (xs:=es) (k:=k) ay) Y Z
    exact oX Y λZ hl=>iW (ys:=(G es k).drop 1) (lo:=1) (hi:=(G es k).length) (by rw[take_length]) bz (λ_=>Y) Y (hl.D 12 73 Y Y) (Rel.aH (.int .i64 1)) Y ay ay Z
    exact λ_ O' _=>⟨Y,λa _ _ Z hl _=>gq (us:=[a.eval (.tmp 69),a.eval (.tmp 74)]) yO Y yz (b6 (hl.D 8 69 Y Y) (b6 (hl.D 13 74 Y Y) cM)) Y Z⟩
    exact oY Y λhk Z hl=>nl p6 Ct dz Y Y (hl.D 14 75 Y Y) (aK hS _ hk Z _ aV) (jo V Z)
    case p5=>exact⟨_,Y,Y,Y,Y,λ_ _ w hk Z hl _=>bD (lw (f:=fj) bs ([(⟨(G ((G ((G d.ab q).aa) k).ac) 1),(G es k).drop 1⟩:Bd)]) (λ_=>rfl) yH V hJ0 Y hk Z (hl.D 0 61 Y Y).lit (hl.D 15 76 Y Y) (by have:=vp (G d.ab q).aa es 0 k;rw[ah];simp;omega) (by have:=vp (G d.ab q).aa es 0 k;rw[ah];simp;omega)) λv w' hp=>⟨v,Y,λk' hk'=>absurd hk' (Nat.not_lt_zero _),λ_=>rfl,hp⟩⟩
    case th=>exact⟨_,Y,Y,Y,Y,λg _ w hk Z _ hs=>bD (rq (.inl Y) (hs 0 16 _ 77 oz Y Y Y) hk Z) λv w' hp=>⟨g,Y,λ_ _=>rfl,λ_=>hp.1,hp.2⟩⟩
    clear a w h
    intro v2
    dsimp only[List.map]
    refine nx (aT tb V [0,1,2,3,5,1002] [_,.int (k+1:Nat),_] [1] U6 Y ⟨aM,U⟩ ?_)
    exact br (k+1,v2,bs++([(⟨(G ((G ((G d.ab q).aa) k).ac) 1),(G es k).drop 1⟩:Bd)])) [0,1,2,3,5,4] ⟨oz,by rw[sS,<-ah];simp[kU,hb2],cB bh e5⟩
 ·have e6:∀ j,j< (G d.ab q).aa.length->fg (G d.ab q).aa es 0 j=true:=λj hj=>bh j oz
  refine aW (nx (af (tw (λh=>dU hS h (m:=5) (s:=11) Y) (tw (sa 0 Y (congrArg (λz'=>AV.rd (fq z')) (show bs=(bP (G d.ab q).aa es 0 (G d.ab q).aa.length)from by rw[ah,show k=(G d.ab q).aa.length by omega]))) ?_))))
  refine aj tb V (r5 [1000]) [_] U6 ?_
  refine ln 0 λ_=>?_
  refine ax (lpo (ι:=Nat) (λj=>(j<=(G d.ab q).aa.length)/\(∀ i',i'<j->jK (G d.ab q).aa es 0 (bP (G d.ab q).aa es 0 (G d.ab q).aa.length) i'=true)) (λ_=>[]) (λj=>[(13,.int (j:Nat))]) (λj=>(G d.ab q).aa.length-j) (r6 []) U5 0 ⟨aI,λj hj=>by omega⟩ ?_)
  rintro j ⟨fD,bu⟩
  refine af (au tb V (r6 [1004]) (V3 [.int (((G d.ab q).aa).length:Nat),_]) [3] U7 Y ⟨aC cW,U⟩ ?_)
  refine cj 6 ?_ ?_<;>intro bd<;>try simp at bd
  ·refine ak (nx (af (ax (au tb V (r6 [1021]) (V3 [.ptr (aP (G ((G d.ab q).aa) j)),_,_,_,_,_,_,_,.ptr (aP (G ((G d.ab q).aa) j)),_,_,_,_,_,.ptr [ai (G es j)],_,.bool (lW ((G ((G d.ab q).aa) j).ac) (bP (G d.ab q).aa es 0 (G d.ab q).aa.length) (G es j)),_,_]) [3,11,17,19] U7 Y ⟨bq cL,cT cL (hk:=λ(aF:((!((G ((G d.ab q).aa) j).bn))==true)=true)=>by(try simp at aF);first | omega | (simp;omega) | grind[aE]),cT eG (hk:=λ(aF:((!((G ((G d.ab q).aa) j).bn))==true)=true)=>by(try simp at aF);first | omega | (simp;omega) | grind[aE]),bJ hS V (KP V ((G ((G d.ab q).aa) j).ac) (bP (G d.ab q).aa es 0 (G d.ab q).aa.length) (G es j)) (cO func166),U⟩ ?_))))
   refine cj 6 ?_ ?_<;>intro bW
   ·have e7:jK (G d.ab q).aa es 0 (bP (G d.ab q).aa es 0 (G d.ab q).aa.length) j=false:=by simp only[jK,Nat.zero_add];simpa using bW
    have eU:(de d.vars (G d.ab i).wide (G d.ab q) es)=([],25):=Js e6 oz e7
    refine aj tb V [1000,1001] U2 U2 ?_
    exact tw (λh=>gu h (m:=0) (s:=8) Y) (aX (λa w h=>di (m:=0) (k:=1) Y (dw h) Y Y (congrArg (λz=>AV.rd (ai z)) (show([]:List BA)=((de d.vars (G d.ab i).wide (G d.ab q) es).1)from by first | (rw[eU];done) | (rw[eU,if_neg (by simp[e9])]))) (eI (by first | (rw[eU];done) | (rw[eU,if_neg (by simp[e9])])))))
   ·refine ak (nx (aT tb V (r5 [1002]) [_,.int (j+1:Nat),_] [1] U6 Y ⟨aM,U⟩ ?_))
    exact br (j+1) (r6 []) ⟨oz,cB bu (by cases h9:(G (G d.ab q).aa j).bn<;>simp_all[jK])⟩
  ·have e8:∀ j,j< (G d.ab q).aa.length->jK (G d.ab q).aa es 0 (bP (G d.ab q).aa es 0 (G d.ab q).aa.length) j=true:=λj hj=>bu j oz
   refine aW (nx (au tb V [0,1,2,4,1001,1005,1007,1008] (V3 [.bF [.rd (ai (if ca (az (bP (G d.ab q).aa es 0 (G d.ab q).aa.length)) ((G d.ab q).ac) 2000 then bA (az (bP (G d.ab q).aa es 0 (G d.ab q).aa.length)) ((G d.ab q).ac)else [])),.int (if ca (az (bP (G d.ab q).aa es 0 (G d.ab q).aa.length)) ((G d.ab q).ac) 2000 then 0 else 15)],_,_,_,_,_]) [3] U8 Y ⟨bJ hS V (KV V ((G d.ab q).ac) (bP (G d.ab q).aa es 0 (G d.ab q).aa.length) 2000 ay (vq (λt ht=>(het t ht).2) oz)) (cO func167),U⟩ ?_))
   refine ln 4 λ_=>?_
   refine ln 5 λ_=>?_
   refine af (aj tb V [0,1,2,3,6,7,1001] U2 U7 ?_)
   refine cj 6 ?_ ?_<;>intro eW<;>try simp at eW
   ·have e9:ca (az (bP (G d.ab q).aa es 0 (G d.ab q).aa.length)) (G d.ab q).ac 2000=false:=by cases h9:ca (az (bP (G d.ab q).aa es 0 (G d.ab q).aa.length)) (G d.ab q).ac 2000<;>simp_all
    have eU:(de d.vars (G d.ab i).wide (G d.ab q) es)=([],15):=Jq e6 e8 e9
    refine aj tb V [1001,1002] U3 U2 ?_
    exact tw (λh=>gu h (m:=0) (s:=8) Y) (aX (λa w h=>di (m:=0) (k:=1) Y (dw h) Y Y (congrArg (λz=>AV.rd (ai z)) (show([]:List BA)=((de d.vars (G d.ab i).wide (G d.ab q) es).1)from by first | (rw[eU];done) | (rw[eU,if_neg (by simp[e9])]))) (eI (by first | (rw[eU];done) | (rw[eU,if_neg (by simp[e9])])))))
   ·have e9:ca (az (bP (G d.ab q).aa es 0 (G d.ab q).aa.length)) (G d.ab q).ac 2000=true:=by cases h9:ca (az (bP (G d.ab q).aa es 0 (G d.ab q).aa.length)) (G d.ab q).ac 2000<;>simp_all
    refine tw (sa 4 Y (show(.rd (ai (if ca (az (bP (G d.ab q).aa es 0 (G d.ab q).aa.length)) ((G d.ab q).ac) 2000 then bA (az (bP (G d.ab q).aa es 0 (G d.ab q).aa.length)) ((G d.ab q).ac)else [])):AV)= .rd (ai (bA (az (bP (G d.ab q).aa es 0 (G d.ab q).aa.length)) (G d.ab q).ac))from by rw[if_pos e9])) (ak (nx (ln 4 λFq=>?_)))
    refine af (af (λa w h=>iF (γ:=Nat) (λix'=>([.rd (fq (bP (G d.ab q).aa es 0 (G d.ab q).aa.length)),.ptr [bM ((G d.ab q).apart),ai ((G d.ab q).ac),bX ((G d.ab q).bB),bM ((G d.ab q).wide),ai ((G d.ab q).proof)],.rd (bM ((G d.ab q).apart)),.ptr [ai d.vars,dX d.ab],.rd (ai d.vars),.ptr [dX d.ab],.rd (dX d.ab),.int (i:Nat),.ptr (a8 (G d.ab i)),.ptr [bM ((G d.ab i).wide),ai ((G d.ab i).proof)],.rd (bM ((G d.ab i).wide)),.bF [.agg (aS (fJ (bP (G d.ab q).aa es 0 (G d.ab q).aa.length) ((G d.ab q).apart) d.vars ((G d.ab i).wide))),.bool (eQ (bP (G d.ab q).aa es 0 (G d.ab q).aa.length) ((G d.ab q).apart) d.vars ((G d.ab i).wide))],.bF [.agg (aS (fJ (bP (G d.ab q).aa es 0 (G d.ab q).aa.length) ((G d.ab q).apart) d.vars ((G d.ab i).wide))),.bool (eQ (bP (G d.ab q).aa es 0 (G d.ab q).aa.length) ((G d.ab q).apart) d.vars ((G d.ab i).wide))],.agg (aS (fJ (bP (G d.ab q).aa es 0 (G d.ab q).aa.length) ((G d.ab q).apart) d.vars ((G d.ab i).wide))),.bool (eQ (bP (G d.ab q).aa es 0 (G d.ab q).aa.length) ((G d.ab q).apart) d.vars ((G d.ab i).wide)),.any,.any,.bool (eQ (bP (G d.ab q).aa es 0 (G d.ab q).aa.length) ((G d.ab q).apart) d.vars ((G d.ab i).wide))]:List AV).getD ix' .any) (λ_=>true) [(14,λ_=>.rd (ai (bA (az (bP (G d.ab q).aa es 0 (G d.ab q).aa.length)) (G d.ab q).ac))),(17,λ_=>.bool (eQ (bP (G d.ab q).aa es 0 (G d.ab q).aa.length) ((G d.ab q).apart) d.vars ((G d.ab i).wide)))] (λj' g=>match j' with | 0=>[] | 1=>[OB.var g [lS (⟨#[]⟩:BA),lS (⟨#[]⟩:BA)]] | _=>[OB.var g (aS (fJ (bP (G d.ab q).aa es 0 (G d.ab q).aa.length) ((G d.ab q).apart) d.vars ((G d.ab i).wide)))]) (λk' g=>match k' with | 0=>(.pointer (some ⟨g,0,none⟩)) | _=>undef) [15,16] 2 0 (λ_=>Y) h V cU Y Y Y Y Y Y hsb ⟨oX Y λZ hl=>b9 Y (hl.env 0 11 _ Y Y) Z,oX Y λZ hl=>cd zI Y (hl.env 1 10 _ Y Y) Z,oX Y λZ hl=>bU sj Y (hl.D 1 119 Y Y) Z,oX Y λZ hl=>cd zF Y (hl.env 3 4 _ Y Y) Z,oX Y λZ hl=>bU ip Y (hl.D 3 121 Y Y) Z,oX Y λZ hl=>cd qa Y (hl.env 3 4 _ Y Y) Z,oX Y λZ hl=>bU qA Y (hl.D 5 123 Y Y) Z,oX Y λZ hl=>b9 Y (hl.env 2 1 _ Y Y) Z,?_,oX Y λZ hl=>cd zJ Y (hl.D 8 126 Y Y) Z,oX Y λZ hl=>bU sj Y (hl.D 9 127 Y Y) Z,?_,oX Y λZ hl=>b9 Y (hl.D 11 129 Y Y) Z,oX Y λZ hl=>gt Y (hl.D 12 117 Y Y) Y Z,oX Y λZ hl=>gt Y (hl.D 12 117 Y Y) Y Z,bC Y,bC Y,oX Y λZ hl=>gY Y (hl.D 14 131 Y Y) Z,U⟩ ⟨?Mm,?Mn,U⟩ ⟨.old 4 14 _,.new 17 17 _,U⟩ ?X5))
    exact oX Y λZ hl=>cb (i:=(i:Int)) fT Y (hl.D 6 124 Y Y) (hl.D 7 125 Y Y) bK (cl (xs:=d.ab) (k:=i) ay) Y Z
    exact oY Y λhk Z hl=>cV (KM V (bP (G d.ab q).aa es 0 (G d.ab q).aa.length) ((G d.ab q).apart) d.vars ((G d.ab i).wide) (by exact hap) (vq (λt ht=>(het t ht).2) oz)) (cO func168) Y (aK hS _ hk Z) (Z.1) (aq (hl.D 0 118 Y Y) (aq (hl.D 2 120 Y Y) (aq (hl.D 4 122 Y Y) (aq (hl.D 10 128 Y Y) aN)))) (jo V Z)
    case Mm=>exact⟨_,Y,Y,Y,Y,λg _ w hk Z _ _=>bD (gD nw V Y hk Z) λv w' ⟨g',hv,hp⟩=>⟨g',Y,λk' hk'=>absurd hk' (Nat.not_lt_zero _),λ_=>hv,hp⟩⟩
    case Mn=>exact⟨_,Y,Y,Y,Y,λg a w hk Z hl hs=>(by obtain⟨eP,hv2,eh⟩:=jw (hl.D 13 130 Y Y);exact bD (iw (S':=S) (off:=0) (news:=U2) (es:=U2) (us:=eP) V hJ0 j6 Y hk Z (kt (hs 0 15 _ 16 oz Y Y Y)) (by rw[hv2];rfl) eh (lb Y) Y) λv w' hp=>⟨g,Y,λ_ _=>rfl,λe=>(by cases e),hp⟩)⟩
    clear a w h
    intro b3
    dsimp only[List.map]
    refine kw cK (nx (ln 0 λPj=>?_))
    refine aj tb V [0,1000] [_] U2 ?_
    refine cj 1 ?_ ?_<;>intro fV<;>try simp at fV
    ·have eU:(de d.vars (G d.ab i).wide (G d.ab q) es)=([],26):=Jt e6 e8 e9 fV
     refine aj tb V [1000,1001] U2 U2 ?_
     exact tw (λh=>gu h (m:=0) (s:=8) Y) (aX (λa w h=>di (m:=0) (k:=1) Y (dw h) Y Y (congrArg (λz=>AV.rd (ai z)) (show([]:List BA)=((de d.vars (G d.ab i).wide (G d.ab q) es).1)from by first | (rw[eU];done) | (rw[eU,if_neg (by simp[e9])]))) (eI (by first | (rw[eU];done) | (rw[eU,if_neg (by simp[e9])])))))
    ·have eU:(de d.vars (G d.ab i).wide (G d.ab q) es)=(bA (az (bP (G d.ab q).aa es 0 (G d.ab q).aa.length)) (G d.ab q).ac,0):=Ju e6 e8 e9 fV
     refine ak (nx (aj tb V [1001,1002] U3 U2 ?_))
     exact aX (λa w h=>di (m:=0) (k:=1) Y (dw h) Y Y (congrArg (λz=>AV.rd (ai z)) (show(bA (az (bP (G d.ab q).aa es 0 (G d.ab q).aa.length)) (G d.ab q).ac)=((de d.vars (G d.ab i).wide (G d.ab q) es).1)from by first | (rw[eU];done) | (rw[eU,if_neg (by simp[e9])]))) (eI (by first | (rw[eU];done) | (rw[eU,if_neg (by simp[e9])]))))
end
section
variable {n:Rn} {P:Program} {X:WP} {S S' gK:Nat->Prop}
variable {S:Nat->Prop} {d:Db}
def Cy (P:Program) (t:TypeId):Prop:=∀(x y z:Value) (i:Int),P.built t [(0,.agg #[x,y,z]),(1,.int .i64 i)]=some #[x,y,z,.int .i64 i,.slice none 0 0]
theorem T4 {o:Oper} {a:Act} {w:World} {x y:Operand} {t:TypeId} {i:Int} (ht:Cy P t) (hop:o.op= .build t #[(0,x),(1,y)]) (h:Rel S w (.agg (bV d)) (a.eval x)) (h2:Rel S w (.int i) (a.eval y)) (Z:X w):
 Does n P o a w (bG S X (.agg (bV d++[.lit (.int .i64 i),.lit (.slice none 0 0)])) w):=by
 simp only[Rel]at h
 obtain⟨us,hv,hr⟩:=h
 have hi:=h2.lit
 match us,hr with
 | [u1,u2,u3],hr=>
  refine cN (v:=.agg #[u1,u2,u3,.int .i64 i,.slice none 0 0]) ?_ (by simp only[Rel];exact⟨[u1,u2,u3,.int .i64 i,.slice none 0 0],rfl,hr.append (ds:=[.lit (.int .i64 i),.lit (Value.slice none 0 0)]) (us:=[.int .i64 i,.slice none 0 0]) ⟨.lit _ True.intro,.lit _ True.intro,trivial⟩⟩) Z
  have hrun:=run_build (P:=P) w t #[(0,a.eval x),(1,a.eval y)] #[u1,u2,u3,.int .i64 i,.slice none 0 0] (by rw[hv,hi];exact ht u1 u2 u3 _)
  rw[execOp,hop]
  simp only[List.map_toArray,List.map_cons,List.map_nil,Sem.run_bind,hrun]
  rfl
end
theorem pg {J:WP} {S:Nat->Prop} {N:Nat} {P:Program} {w0:World} {O:List OB} {env:List (Nat×AV)} {fn:Func} {a:Act} {w:World} {b:Nat} {cs cs':List CD} {t:TypeId} {d m q u x z k:Nat} {r1 r2 r3 r4:AV} (hr:fn.results= #[.tmp x,.cell d t,.tmp u]) (h1:fY P t k) (h:So J S w0 N (OB.var b cs::O) env a w) (he:env[m]?=some (d,.at b 0)) (hl:cs.length=k) (hE:cs=cs') (OY:env[z]?=some (x,r1)) (OA:r1=r2) (k4:env[q]?=some (u,r3)) (nS:r3=r4):
 bodyPost P fn (λe w'=>∃ v,e= .returned v/\Rel S w' (.bF [r2,.agg cs',r4]) v/\Keeps All w0 w'/\J w') .ret a w:=by
 subst hE
 subst OA
 subst nS
 obtain⟨h0,us,e,hb,hrd⟩:=h.x.2.1 (OB.var b cs) yz
 have hd:a.tmps.getD d undef= .pointer (some ⟨b,0,none⟩):=(h.get m he).lit
 have hrun:=mq (P:=P) b 0 w us 0 #[] λj u hj=>by rw[Nat.zero_add];simp[World.cell?,hb,hj]
 rw[show us.length=k by rw[hrd.length,hl]]at hrun
 have hd':a.tmps[d]?.getD undef= .pointer (some ⟨b,0,none⟩):=by rw[<-Array.getD_eq_getD_getElem?];exact hd
 refine⟨h.defs,.tuple #[a.tmps.getD x undef,.agg us.toArray,a.tmps.getD u undef],by simp[results,hr,hd',asAddr,Sem.run_bind,loadVar,loadCells,h1.1 w,h1.2 w,hrun],_,rfl,?_,h.keep,h.x.1⟩
 have h2:=(h.get q k4).sub (T:=S) λ_ _ hk=>hk.1
 have h3:=(h.get z OY).sub (T:=S) λ_ _ hk=>hk.1
 simp only[Rel,bi]
 exact⟨_,rfl,_,_,rfl,h3,_,_,rfl,⟨us,rfl,hrd.sub λ_ _ hk=>hk.1⟩,_,_,rfl,h2,rfl⟩
theorem KQ {J:WP} (V:aR J) (ss:List Stp)  :Fn prog J 98 [.agg (be ss)] (.int (ft ss)):=by
 refine fE func98 λS w0 hS hJ0=>?_
 clear hJ0
 refine aJ tb V [1000] [.ptr (be ss),_] [0] [_] Y ⟨d9 hS V,U⟩ ?_
 refine af (aJ tb V [0,1001,1009] [_,_,.int (ss.length:Nat),_,_,_,_,.int (ss.length:Nat),_,_] [2,7] U3 Y ⟨aC eo,aC eo,U⟩ ?_)
 refine ln 1 λ_=>?_
 refine cj 2 ?_ ?_<;>intro hb1
 ·have eU:ft ss=4:=zQ (by simp only[Bool.or_eq_true,decide_eq_true_eq]at hb1;omega)
  refine qs tb V [1000] [_] [_] ?_
  exact aU 0 (hE:=eI (by rw[eU]))
 ·have hn:¬ (ss.length<1∨2000<ss.length):=by simp only[Bool.or_eq_false_iff,decide_eq_false_iff_not]at hb1;omega
  refine ak (nx (af (qs tb V [0,1000] [_] U2 ?_)))
  refine ax (lp (ι:=Nat) (λk=>(k<=ss.length)/\(∀ j,j<k->kX ss j=0)) (λk=>[(3,.int (k:Nat))]) (λk=>ss.length-k) [0,1] [_] 0 ⟨aI,λj hj=>by omega⟩ ?_)
  rintro k ⟨aQ,ah⟩
  refine af (aJ tb V [0,1,1004] (V3 [.int (ss.length:Nat),_]) [3] U3 Y ⟨aC eo,U⟩ ?_)
  refine cj 2 ?_ ?_<;>intro hb2<;>try simp at hb2
  ·refine ak (nx (af (ax (af (aJ tb V [0,1,1005,1007] (V3 [.ptr (bx (G ss k)),_,_,.int (((G ss k).args).length:Nat),_]) [3,6] U4 Y ⟨bq eq,aC fb,U⟩ ?_)))))
   refine ln 2 λ_=>?_
   refine cj 3 ?_ ?_<;>intro aD<;>try simp at aD
   ·have eU:ft ss=4:=by have e9:=zV (ss:=ss) (k:=k) oz;rw[rC hn oz ah (by rw[e9];decide),e9]
    refine qs tb V [1000] [_] [_] ?_
    exact aU 0 (hE:=eI (by rw[eU]))
   ·refine ak (nx (qs tb V [0,1,1000] [_] U3 ?_))
    refine ax (lp (ι:=Nat) (λq=>(q<=(G ss k).args.length)/\(∀ j,j<q->kf k (G (G ss k).args j)=false)) (λq=>[(4,.int (q:Nat))]) (λq=>(G ss k).args.length-q) [0,1,2] U2 0 ⟨aI,λj hj=>by omega⟩ ?_)
    rintro q ⟨fD,bu⟩
    refine af (aJ tb V [0,1,2,1008] (V4 [.ptr (bx (G ss k)),_,_,.int (((G ss k).args).length:Nat),_]) [4,7] U4 Y ⟨bq eq,aC fb,U⟩ ?_)
    refine cj 3 ?_ ?_<;>intro bd<;>try simp at bd
    ·refine ak (nx (af (ax (aJ tb V [0,1,2,1022] (V3 [.ptr (bx (G ss k)),_,_,_,.ptr [lI (G ((G ss k).args) q)],_,_,_,_,_,_,.ptr (bx (G ss k)),_,_,_,.ptr [lI (G ((G ss k).args) q)],_,_,_,_]) [3,7,14,18] U4 Y ⟨bq eq,bq c8,cT eq (hk:=λ(aF:((decide ((G ((G ss k).args) q)< (0:Int)))==false)=true)=>by(try simp at aF);first | omega | (simp;omega) | grind[aE]),cT c8 (hk:=λ(aF:((decide ((G ((G ss k).args) q)< (0:Int)))==false)=true)=>by(try simp at aF);first | omega | (simp;omega) | grind[aE]),U⟩ ?_))))
     refine cj 3 ?_ ?_<;>intro bW
     ·have eU:ft ss=3:=by have e9:=zU (ss:=ss) (k:=k) oz (C1 oz bW);rw[rC hn oz ah (by rw[e9];decide),e9]
      refine qs tb V [1000] [_] [_] ?_
      exact aU 0 (hE:=eI (by rw[eU]))
     ·refine ak (nx (dK tb V [0,1,1002] [_,.int (q+1:Nat),_] [1] U3 Y ⟨aM,U⟩ ?_))
      exact dM (q+1) [0,1,2] ⟨oz,cB bu bW⟩
    ·have eF:=zW (ss:=ss) (k:=k) oz (C2 λj hj=>bu j oz)
     refine aW (nx (dK tb V [0,1002] [_,.int (k+1:Nat),_] [1] U2 Y ⟨aM,U⟩ ?_))
     exact dM (k+1) [0,1] ⟨oz,cB ah eF⟩
  ·have eU:ft ss=0:=zP hn λj hj=>ah j oz
   refine aW (nx (qs tb V [1000] [_] [_] ?_))
   exact aU 0 (hE:=eI (by rw[eU]))
theorem Dj {J:WP} (V:aR J) (d:Db) (z:Int) (ss:List Stp) (hw:∀ i,i<d.ab.length->(G d.ab i).wide.length*32<=140737488351232):Fn prog J 70 [.agg (bV d),.int z,.agg (be ss)] (.int (dH d z ss)):=by
 refine fE func70 λS w0 hS hJ0=>?_
 clear hJ0
 refine aJ tb V [1,1000,1001] [.ptr (bV d),.ptr (be ss),_] [0,1] U3 Y ⟨d9 hS V,d9 hS V,U⟩ ?_
 refine af (aJ tb V [0,1,2,1002] [_,.int (dG d),_] [1] U4 Y ⟨dh hS V (KN V d (by exact hw)) (cO func97),U⟩ ?_)
 refine qs tb V [0,1,2,3,1001] U2 U5 ?_
 refine cj 4 ?_ ?_<;>intro hb1<;>try simp at hb1
 ·have e3:iK d z=dG d:=by rw[iK,if_pos (by simpa using hb1)]
  have eU:dH d z ss=dG d:=by rw[dH,e3,if_neg (by simpa using hb1)]
  refine qs tb V [1001] U2 [_] ?_
  exact aU 0 (hE:=eI (by rw[eU]))
 ·refine ak (nx (af (aJ tb V [2,1008] (V6 [.int (d.ab.length:Nat),_,_]) [6] U2 Y ⟨aC nv,U⟩ ?_)))
  refine cj 1 ?_ ?_<;>intro hb2
  ·have e3:iK d z=5:=by rw[iK,if_neg (by simpa using hb1),if_pos (by simpa using hb2)]
   have eU:dH d z ss=5:=by rw[dH,e3];rfl
   refine qs tb V [1000] [_] [_] ?_
   exact aU 0 (hE:=eI (by rw[eU]))
  ·have e3:iK d z=0:=by rw[iK,if_neg (by simpa using hb1),if_neg (by simpa using hb2)]
   have eU:dH d z ss=ft ss:=by rw[dH,if_pos e3]
   refine ak (nx (aJ tb V [1002] [_,.int (ft ss),_] [1] [_] Y ⟨dh hS V (KQ V ss) (cO func98),U⟩ ?_))
   exact aU 0 (hE:=eI (by rw[eU]))
theorem Gl:u7 prog 29 3 8 (.int .i64 0):=Gj yq yq Y True.intro
section
variable {J:WP} (V:aR J)
include V
theorem Tg (y:Int) (k:Nat)  :Fn prog J 109 [.int y,.ptr [lI (k:Int)]] (.bool (kf (k:Int) y)):=by
 refine fE func109 λS w0 hS hJ0=>?_
 clear hJ0
 refine qs tb V [0,1] [_] U2 ?_
 refine qs tb V [1007] U8 [_] ?_
 exact aU 0 (hE:=eB (Y))
theorem Tf (ss:List Stp)  :Fn prog J 81 [.agg (be ss)] (.int (ft ss)):=by
 refine fE func81 λS w0 hS hJ0=>?_
 refine tw cc (au tb V [1000] [.ptr (be ss),_] [0] [_] Y ⟨cY hS V,U⟩ ?_)
 refine af (au tb V [0,1001,1009] [_,_,.int (ss.length:Nat),_,_,_,_,.int (ss.length:Nat),_,_] [2,7] U3 Y ⟨aC eo,aC eo,U⟩ ?_)
 refine ln 1 λ_=>?_
 refine cj 2 ?_ ?_<;>intro hb1
 ·have eU:ft ss=4:=zQ (by simp only[Bool.or_eq_true,decide_eq_true_eq]at hb1;omega)
  refine aj tb V [1000] [_] [_] ?_
  exact bH 0 (hE:=eI (by rw[eU]))
 ·have hn:¬ (ss.length<1∨2000<ss.length):=by simp only[Bool.or_eq_false_iff,decide_eq_false_iff_not]at hb1;omega
  refine ak (nx (af (au tb V [1001,1002,1003] [_,_,.int (ss.length:Nat),_] [2] U3 Y ⟨aC eo,U⟩ ?_)))
  refine ax (lpo (ι:=Nat) (λk=>(k<=ss.length)/\(∀ j,j<k->kX ss j=0)) (λ_=>[]) (λk=>[(18,.int (k:Nat))]) (λk=>ss.length-k) [0,1,2] U2 0 ⟨aI,λj hj=>by omega⟩ ?_)
  rintro k ⟨aQ,ah⟩
  refine aj tb V [0,1,2,1000] [_] U4 ?_
  refine cE 3 ?_ ?_<;>intro hb2<;>try simp at hb2
  ·refine ak (nx (af (ax (aL (ao 1 tb Y (sy (.ptr (bx (G ss k))) (λh=>cb (i:=(k:Int)) eq Y (h.get 1 Y) (h.get 3 Y) bK (cl (xs:=ss) (k:=k) ay) Y h.x) ?_))))))
   refine ao 1 tb Y (cx WW V Y Y Y (lb Y) λb1=>cx mw V Y Y Y (lb Y) λb2=>kw bO (gI (b:=b1) (off:=0) (es:=[_]) V hJ0 qN Y Y Y (lb Y) Y (λa w h=>⟨(h.get 1 Y),(h.get 4 Y)⟩) (kw bO (ce (b:=b2) (off:=0) (es:=U2) (news:=U2) V hJ0 mt Y Y Y (lb Y) Y (λa w h=>⟨(h.get 0 Y),(h.get 2 Y)⟩) (kw bO (kw (λh=>fB hS h (m:=1) (s:=3) Y) (kw (λh=>fB hS h (m:=1) (s:=4) Y) (aA [0,1,5,6,7] U5 Y (nx (af (au tb V (r5 [1001,1003]) [_,_,.int (((G ss k).args).length:Nat),_] [2] U7 Y ⟨aC fb,U⟩ ?_)))))))))))
   refine ln 5 λ_=>?_
   refine cj 6 ?_ ?_<;>intro aD<;>try simp at aD
   ·have eU:ft ss=4:=by have e9:=zV (ss:=ss) (k:=k) oz;rw[rC hn oz ah (by rw[e9];decide),e9]
    refine aj tb V [1000] [_] [_] ?_
    exact bH 0 (hE:=eI (by rw[eU]))
   ·refine ak (nx (au tb V [2,3,4,1003] [_,_,.fn 109 [.ptr [lI (k:Int)]],.bool (((G ss k).args).any (kf (k:Int)))] [2,3] U4 Y ⟨λ_ _ _ Z hl _=>lf (caps:=[(.tmp 3)]) Y (aq (hl.env 1 3 _ Y Y) aN) Z,λ_ _ hk Z hl _=>dv (G3 V ((G ss k).args) 109 [.ptr [lI (k:Int)]] [] (kf (k:Int)) (λq'=>(Tg V q' k).rr) ((cO func109))) (cO func65) Y (aK hS _ hk Z) (Z.1) b8 (aq (hl.D 1 28 Y Y) (aq (hl.D 2 29 Y Y) aN)) (jo V Z),U⟩ ?_))
    refine cj 3 ?_ ?_<;>intro bd
    ·have eU:ft ss=3:=by have e9:=zU (ss:=ss) (k:=k) oz (bd);rw[rC hn oz ah (by rw[e9];decide),e9]
     refine aj tb V [1000] [_] [_] ?_
     exact bH 0 (hE:=eI (by rw[eU]))
    ·have eF:=zW (ss:=ss) (k:=k) oz bd
     refine ak (nx (aT tb V [0,1,1001] [.int (k+1:Nat),_] [0] U3 Y ⟨aM,U⟩ ?_))
     exact br (k+1) [0,1,2] ⟨oz,cB ah eF⟩
  ·have eU:ft ss=0:=zP hn λj hj=>ah j oz
   refine aW (nx (aj tb V [1000] [_] [_] ?_))
   exact bH 0 (hE:=eI (by rw[eU]))
theorem Tv (d:Db) (z:Int) (hw:∀ f∈d.ab,f.wide.length*32<=140737488351232) (hG:gJ J):Fn prog J 85 [.agg (bV d),.int z] (.int (iK d z)):=by
 refine fE func85 λS w0 hS hJ0=>?_
 clear hJ0
 refine aJ tb V [1,1000] [.ptr (bV d),_] [0] U2 Y ⟨d9 hS V,U⟩ ?_
 refine af (aJ tb V [0,1,1002] [_,.int (dG d),_] [1] U3 Y ⟨dh hS V (Sl V d (by exact hw) (by exact hG)) (cO func112),U⟩ ?_)
 refine qs tb V [0,1,2,1001] U2 U4 ?_
 refine cj 3 ?_ ?_<;>intro hb1<;>try simp at hb1
 ·have e3:iK d z=dG d:=by rw[iK,if_pos (by simpa using hb1)]
  refine qs tb V [1001] U2 [_] ?_
  exact aU 0 (hE:=eI (by rw[e3]))
 ·refine ak (nx (af (aJ tb V [1008] (V6 [.int (d.ab.length:Nat),_,_]) [6] [_] Y ⟨aC nv,U⟩ ?_)))
  refine cj 0 ?_ ?_<;>intro hb2
  ·have e3:iK d z=5:=by rw[iK,if_neg (by simpa using hb1),if_pos (by simpa using hb2)]
   refine qs tb V [1000] [_] [_] ?_
   exact aU 0 (hE:=eI (by rw[e3]))
  ·have e3:iK d z=0:=by rw[iK,if_neg (by simpa using hb1),if_neg (by simpa using hb2)]
   refine ak (nx (qs tb V [1000] [_] [_] ?_))
   exact aU 0 (hE:=eI (by rw[e3]))
theorem Bm (d:Db) (z:Int) (ss:List Stp) (hw:∀ f∈d.ab,f.wide.length*32<=140737488351232) (hG:gJ J):Fn prog J 56 [.agg (bV d),.int z,.agg (be ss)] (.int (dH d z ss)):=by
 refine fE func56 λS w0 hS hJ0=>?_
 clear hJ0
 refine aJ tb V [1,1000,1001] [.ptr (bV d),.ptr (be ss),_] [0,1] U3 Y ⟨d9 hS V,d9 hS V,U⟩ ?_
 refine af (aJ tb V [2,1003] [_,_,.int (iK d z),_] [2] U2 Y ⟨dh hS V (Tv V d z (by exact hw) (by exact hG)) (cO func85),U⟩ ?_)
 refine qs tb V [0,1,1001] U2 U3 ?_
 refine cj 2 ?_ ?_<;>intro hb1<;>try simp at hb1
 ·have eU:dH d z ss=iK d z:=if_neg (by simpa using hb1)
  refine qs tb V [1001] U2 [_] ?_
  exact aU 0 (hE:=eI (by rw[eU]))
 ·have eU:dH d z ss=ft ss:=if_pos (by simpa using hb1)
  refine ak (nx (aJ tb V [1002] [_,.int (ft ss),_] [1] [_] Y ⟨dh hS V (Tf V ss) (cO func81),U⟩ ?_))
  exact aU 0 (hE:=eI (by rw[eU]))
end
theorem TF {J:WP} (V:aR J) (bc:Nat) (d:Db) (i:Nat) (fv:Value) (fs:List (List BA)) (gf:Fr) (ag:List Int) (hi:i<d.ab.length) (mZ:∀ t∈fs,1<=t.length/\t.length<=2000) (oP:∀ j,j<ag.length->0<=G ag j/\G ag j< (fs.length:Int)) (l6:ag.length=gf.aa.length) (hf:∀ h∈gf.aa,h.bn=true->h.ac.length=2) (hh:gf.aa.length<=2000) (qn:(G d.ab i).wide.length*32<=140737488351232):cD prog J 88 [OB.var bc [ai d.bL,ai d.vars,dX d.ab,lI (i:Int),.lit fv],OB.row fv 22 1 (fs.map kN)] [.at bc 0,.agg (a8 gf),.rd (bQ ag)] (.bF [.rd (ai ((de d.vars (G d.ab i).wide gf (bg fs ag)).1)),.int ((de d.vars (G d.ab i).wide gf (bg fs ag)).2)]):=by
 refine eV func88 λS w0 hS hJ0 hH=>?_
 refine tw cc (ln 2 λcr=>?_)
 have het:∀ t∈(bg fs ag),1<=t.length/\t.length<=2000:=zu mZ oP
 have tM:(bg fs ag).length=gf.aa.length:=by rw[rt];exact l6
 refine au tb V [0,2,1000] [.ptr (a8 gf),_,_] [0] U3 Y ⟨cY hS V,U⟩ ?_
 refine aj tb V [0,1,2,1000] [_] U4 ?_
 refine af (au tb V [0,1,2,3,1001,1002,1003] [_,_,.int (gf.aa.length:Nat),_] [2] U7 Y ⟨aC cW,U⟩ ?_)
 refine ln 4 λ_=>?_
 refine ax (tw (iJ 182 2 V) (lpo (ι:=Nat×Value×(List Bd)) (λ(k,_,bs)=>(k<=gf.aa.length)/\(bs=bP gf.aa (bg fs ag) 0 k)/\(∀ j,j<k->fg gf.aa (bg fs ag) 0 j=true)) (λ(_,wv,bs)=>[OB.row wv 182 2 (bs.map fj)]) (λ(k,wv,_)=>[(21,.int (k:Nat)),(8,.lit wv)]) (λ(k,_,_)=>gf.aa.length-k) [0,1,2,4,5,6,3] U5 (0,(.slice none 0 0),([]:List Bd)) ⟨aI,Y,λj hj=>by omega⟩ ?_))
 rintro⟨k,wv,bs⟩ ⟨aQ,ah,bh⟩
 refine aj tb V (r7 [1000]) [_] U8 ?_
 refine cE 7 ?_ ?_<;>intro hb1<;>try simp at hb1
 ·have e0:G (bg fs ag) k=(G fs (G ag k).toNat):=ti oz
  have e1:=oP k oz
  refine ak (nx (af (ax (aL (ao 1 tb Y (sy (.ptr (aP (G gf.aa k))) (λh=>cb (i:=(k:Int)) cL Y (h.get 4 Y) (h.get 6 Y) bK (cl (xs:=gf.aa) (k:=k) ay) Y h.x) ?_))))))
  refine ao 1 tb Y (cx kR V Y Y Y (lb Y) λb1=>ao 1 tb Y (ce (b:=b1) (off:=0) (es:=U3) (news:=U3) V hJ0 jx Y Y Y (lb Y) Y (λa w h=>⟨(h.get 1 Y),(h.get 2 Y)⟩) (kw (λh=>fB hS h (m:=1) (s:=10) Y) (aA [0,1,5,6,7,8,9,10,11] U9 Y (nx (au tb V [0,2,3,4,5,6,7,8,1009,1010] [_,.at bc 0,.at bc 4,.lit fv,_,_,.ptr [lI (G ag k)],_,.lit (cG fv (((G ag k).toNat)*1)),.rd (ai (G fs ((G ag k).toNat))),_] [1,2,3,6,8,9] fp Y ⟨λ_ _ _ Z hl _=>jv Y (hl.D 0 26 Y Y) Z,λ_ _ _ Z hl _=>cy oN Y (hl.D 1 27 Y Y) Z,λ_ _ hk Z hl _=>cg qB Y (dC hH hk Z (mo 0 Y)) (hl.D 2 28 Y Y) Y Z,bq c8,λ_ _ hk Z hl _=>eZ (i:=(G ag k)) eG Y (dC hH hk Z (mo 1 Y)) (hl.D 3 29 Y Y) (hl.D 7 33 Y Y) ay (by rw[length_map];exact ay) Z,λ_ _ hk Z hl _=>nn (i:=(G ag k).toNat) ip Y (dC hH hk Z (mo 1 Y)) (hl.D 8 34 Y Y) (iG (xs:=fs) (k:=(G ag k).toNat) ay) Z,U⟩ ?_))))))
  refine ln 8 λ_=>?_
  refine af (aj tb V (r8 [9,1002]) U3 fp ?_)
  refine cj 9 ?_ ?_<;>intro hb2<;>try simp at hb2
  ·refine aW (nx (aT tb V [1,2,3,4,5,7,1001] [.int (k+1:Nat),_] [0] U7 Y ⟨aM,U⟩ ?_))
   exact br (k+1,wv,bs) (r5 [6,5]) ⟨oz,by rw[sS,<-ah];simp[kU,hb2],cB bh (by simp[fg,hb2])⟩
  ·have e3:(G gf.aa k).ac.length=2:=hf _ (aE oz) (by simpa using hb2)
   have e4:=mZ _ (aE (xs:=fs) (k:=(G ag k).toNat) oz)
   refine ak (nx (af (au tb V (r9 [1012]) [_,.int ((G fs ((G ag k).toNat)).length:Nat),_,_,_,.ptr [lS (G (G fs ((G ag k).toNat)) 0)],_,_,_,.ptr [lS (G ((G gf.aa k).ac) 0)],_,_,_] [1,5,9] fp Y ⟨aC b7,cT (k:=0) bz (hk:=λ(aF:((decide ((((G fs ((G ag k).toNat)).length:Nat):Int)=(0:Int)))==false)=true)=>by(try simp at aF);first | omega | (simp;omega) | grind[aE]),cT (k:=0) bz (hk:=λ(aF:((decide ((((G fs ((G ag k).toNat)).length:Nat):Int)=(0:Int)))==false)=true)=>by(try simp at aF);first | omega | (simp;omega) | grind[aE]),U⟩ ?_)))
   refine cj 9 ?_ ?_<;>intro aD
   ·have e5:fg gf.aa (bg fs ag) 0 k=false:=by simp only[fg,Nat.zero_add,e0,Bool.or_eq_false_iff,Bool.not_eq_false',decide_eq_false_iff_not];exact⟨by simpa using hb2,λe=>by simp[e]at aD;have:=e4.1;simp[aD]at this⟩
    have eU:(de d.vars (G d.ab i).wide gf (bg fs ag))=([],24):=Jr oz e5
    refine aj tb V [1000,1001] U2 U2 ?_
    exact tw (λh=>gu h (m:=0) (s:=6) Y) (aX (λa w h=>di (m:=0) (k:=1) Y (dw h) Y Y (congrArg (λz=>AV.rd (ai z)) (show([]:List BA)=((de d.vars (G d.ab i).wide gf (bg fs ag)).1)from by first | (rw[eU];done) | (rw[eU,if_neg (by simp[e9])]))) (eI (by first | (rw[eU];done) | (rw[eU,if_neg (by simp[e9])])))))
   ·have e5:fg gf.aa (bg fs ag) 0 k=true:=by simp only[Bool.or_eq_false_iff,Bool.not_eq_false',decide_eq_true_eq]at aD;simp[fg,e0,aD.2]
    refine ak (nx (λa w h=>po [] (γ:=Value) (λix'=>([.lit wv,.ptr [ai ((G gf.aa k).ac)],.rd (ai ((G gf.aa k).ac)),.ptr [lS (G ((G gf.aa k).ac) 1)],.str (G ((G gf.aa k).ac) 1),.rd (ai (G fs ((G ag k).toNat))),.rd (ai ((G fs ((G ag k).toNat)).drop 1)),.agg (fj (⟨(G ((G gf.aa k).ac) 1),(G fs ((G ag k).toNat)).drop 1⟩:Bd)),.rd (fq ([(⟨(G ((G gf.aa k).ac) 1),(G fs ((G ag k).toNat)).drop 1⟩:Bd)])),.any,.any]:List AV).getD ix' .any) (λ_=>true) [(0,λ_=>.at bc 0),(2,λ_=>.rd (bQ ag)),(4,λ_=>.ptr (a8 gf)),(19,λ_=>.rd (bX gf.aa)),(20,λ_=>.int (gf.aa.length:Nat)),(21,λ_=>.int (k:Nat)),(8,λg=>.lit g)] (λj' g=>match j' with | 0=>[OB.row wv 182 2 (bs.map fj)] | _=>[OB.row g 182 2 ((bs++([(⟨(G ((G gf.aa k).ac) 1),(G fs ((G ag k).toNat)).drop 1⟩:Bd)])).map fj)]) (λk' g=>match k' with | 0=>g | 1=>g | _=>undef) [9,10] 2 (.slice none 0 0) (λ_=>Y) h V cU Y Y Y Y Y Y hsb ⟨oX Y λZ hl=>b9 Y (hl.env 7 8 _ Y Y) Z,oX Y λZ hl=>cd lX Y (hl.env 0 10 _ Y Y) Z,oX Y λZ hl=>bU ip Y (hl.D 1 53 Y Y) Z,?_,oX Y λZ hl=>bU fh Y (hl.D 3 55 Y Y) Z,oX Y λZ hl=>b9 Y (hl.env 8 11 _ Y Y) Z,?_,?_,?_,bC Y,bC Y,U⟩ ⟨?p5,?th,U⟩ ⟨.old 1 0 _,.old 2 2 _,.old 3 4 _,.old 4 19 _,.old 5 20 _,.old 6 21 _,.d6 1 10 8 (λ(g:Value)=>g) Y Y (λ_=>Y) (λ_ _ Z=>nq (Z.2.1 _ (mo 0 Y))),U⟩ ?Ba))
    exact oX Y λZ hl=>cb (i:=((1:Nat):Int)) bz Y (hl.D 2 54 Y Y) (Rel.aH (.int .i64 1)) bK (cl (xs:=(G gf.aa k).ac) (k:=1) ay) Y Z
    exact oX Y λZ hl=>iW (ys:=(G fs ((G ag k).toNat)).drop 1) (lo:=1) (hi:=(G fs ((G ag k).toNat)).length) (by rw[take_length]) bz (λ_=>Y) Y (hl.D 5 57 Y Y) (Rel.aH (.int .i64 1)) Y ay ay Z
    exact λ_ O' _=>⟨Y,λa _ _ Z hl _=>gq (us:=[a.eval (.tmp 56),a.eval (.tmp 58)]) yO Y yz (b6 (hl.D 4 56 Y Y) (b6 (hl.D 6 58 Y Y) cM)) Y Z⟩
    exact oY Y λhk Z hl=>nl p6 Ct dz Y Y (hl.D 7 59 Y Y) (aK hS _ hk Z _ aV) (jo V Z)
    case p5=>exact⟨_,Y,Y,Y,Y,λ_ _ w hk Z hl _=>bD (lw (f:=fj) bs ([(⟨(G ((G gf.aa k).ac) 1),(G fs ((G ag k).toNat)).drop 1⟩:Bd)]) (λ_=>rfl) yH V hJ0 Y hk Z (hl.D 0 52 Y Y).lit (hl.D 8 60 Y Y) (by have:=vp gf.aa (bg fs ag) 0 k;rw[ah];simp;omega) (by have:=vp gf.aa (bg fs ag) 0 k;rw[ah];simp;omega)) λv w' hp=>⟨v,Y,λk' hk'=>absurd hk' (Nat.not_lt_zero _),λ_=>rfl,hp⟩⟩
    case th=>exact⟨_,Y,Y,Y,Y,λg _ w hk Z _ hs=>bD (rq (.inl Y) (hs 0 9 _ 61 oz Y Y Y) hk Z) λv w' hp=>⟨g,Y,λ_ _=>rfl,λ_=>hp.1,hp.2⟩⟩
    clear a w h
    intro v2
    dsimp only[List.map]
    refine nx (aT tb V (r5 [6,1001]) [.int (k+1:Nat),_] [0] U7 Y ⟨aM,U⟩ ?_)
    exact br (k+1,v2,bs++([(⟨(G ((G gf.aa k).ac) 1),(G fs ((G ag k).toNat)).drop 1⟩:Bd)])) (r5 [6,5]) ⟨oz,by rw[sS,<-ah];simp[kU,e0,hb2],cB bh e5⟩
 ·have e6:∀ j,j<gf.aa.length->fg gf.aa (bg fs ag) 0 j=true:=λj hj=>bh j oz
  refine aW (nx (af (tw (λh=>dU hS h (m:=6) (s:=8) Y) (tw (sa 0 Y (congrArg (λz'=>AV.rd (fq z')) (show bs=(bP gf.aa (bg fs ag) 0 gf.aa.length)from by rw[ah,show k=gf.aa.length by omega]))) ?_))))
  refine au tb V [0,1,2,3,1001,1002,1003] [_,_,.int (gf.aa.length:Nat),_] [2] U7 Y ⟨aC cW,U⟩ ?_
  refine ln 0 λ_=>?_
  refine ax (lpo (ι:=Nat) (λj=>(j<=gf.aa.length)/\(∀ i',i'<j->jK gf.aa (bg fs ag) 0 (bP gf.aa (bg fs ag) 0 gf.aa.length) i'=true)) (λ_=>[]) (λj=>[(66,.int (j:Nat))]) (λj=>gf.aa.length-j) (r7 []) U6 0 ⟨aI,λj hj=>by omega⟩ ?_)
  rintro j ⟨fD,bu⟩
  refine aj tb V (r7 [1000]) [_] U8 ?_
  refine cE 7 ?_ ?_<;>intro bd<;>try simp at bd
  ·have e0:G (bg fs ag) j=(G fs (G ag j).toNat):=ti oz
   have e1:=oP j oz
   refine ak (nx (af (ax (aL (ao 1 tb Y (sy (.ptr (aP (G gf.aa j))) (λh=>cb (i:=(j:Int)) cL Y (h.get 5 Y) (h.get 7 Y) bK (cl (xs:=gf.aa) (k:=j) ay) Y h.x) ?_))))))
   refine ao 1 tb Y (cx kR V Y Y Y (lb Y) λb3=>ao 1 tb Y (ce (b:=b3) (off:=0) (es:=U3) (news:=U3) V hJ0 jx Y Y Y (lb Y) Y (λa w h=>⟨(h.get 1 Y),(h.get 2 Y)⟩) (kw (λh=>fB hS h (m:=1) (s:=13) Y) (aA [0,1,5,6,7,8,9,10,11] U9 Y (nx (au tb V [2,3,4,5,6,7,8,1019] (V8 [.at bc 0,.at bc 4,.lit fv,_,_,.ptr [lI (G ag j)],_,.lit (cG fv (((G ag j).toNat)*1)),.rd (ai (G fs ((G ag j).toNat))),.bool (lW ((G gf.aa j).ac) (bP gf.aa (bg fs ag) 0 gf.aa.length) (G fs ((G ag j).toNat))),_,_]) [8,9,10,13,15,16,17] U8 Y ⟨λ_ _ _ Z hl hc=>jv Y (hl.D 7 78 Y hc) Z,λ_ _ _ Z hl hc=>cy oN Y (hl.D 8 79 Y hc) Z,λ_ _ hk Z hl hc=>cg qB Y (dC hH hk Z (mo 0 Y)) (hl.D 9 80 Y hc) Y Z,cT c8 (hk:=λ(aF:((!((G gf.aa j).bn))==true)=true)=>by(try simp at aF);first | omega | (simp;omega) | grind[aE]),λ_ _ hk Z hl hc=>eZ (i:=(G ag j)) eG Y (dC hH hk Z (mo 1 Y)) (hl.D 10 81 Y hc) (hl.D 14 85 Y hc) (by have aF:((!((G gf.aa j).bn))==true)=true:=hc;(try simp at aF);(first | omega | (simp;omega) | grind[aE])) (by rw[length_map];exact(by have aF:((!((G gf.aa j).bn))==true)=true:=hc;(try simp at aF);(first | omega | (simp;omega) | grind[aE]))) Z,λ_ _ hk Z hl hc=>nn (i:=(G ag j).toNat) ip Y (dC hH hk Z (mo 1 Y)) (hl.D 15 86 Y hc) (iG (xs:=fs) (k:=(G ag j).toNat) (by have aF:((!((G gf.aa j).bn))==true)=true:=hc;(try simp at aF);(first | omega | (simp;omega) | grind[aE]))) Z,bJ hS V (SI V ((G gf.aa j).ac) (bP gf.aa (bg fs ag) 0 gf.aa.length) (G fs ((G ag j).toNat))) (cO func114),U⟩ ?_))))))
   refine cj 7 ?_ ?_<;>intro bW
   ·have e7:jK gf.aa (bg fs ag) 0 (bP gf.aa (bg fs ag) 0 gf.aa.length) j=false:=by simp only[jK,Nat.zero_add,e0];simpa using bW
    have eU:(de d.vars (G d.ab i).wide gf (bg fs ag))=([],25):=Js e6 oz e7
    refine aj tb V [1000,1001] U2 U2 ?_
    exact tw (λh=>gu h (m:=0) (s:=6) Y) (aX (λa w h=>di (m:=0) (k:=1) Y (dw h) Y Y (congrArg (λz=>AV.rd (ai z)) (show([]:List BA)=((de d.vars (G d.ab i).wide gf (bg fs ag)).1)from by first | (rw[eU];done) | (rw[eU,if_neg (by simp[e9])]))) (eI (by first | (rw[eU];done) | (rw[eU,if_neg (by simp[e9])])))))
   ·refine ak (nx (aT tb V (r6 [1001]) [.int (j+1:Nat),_] [0] U7 Y ⟨aM,U⟩ ?_))
    exact br (j+1) (r7 []) ⟨oz,cB bu (by cases h9:(G gf.aa j).bn<;>simp_all[jK])⟩
  ·have e8:∀ j,j<gf.aa.length->jK gf.aa (bg fs ag) 0 (bP gf.aa (bg fs ag) 0 gf.aa.length) j=true:=λj hj=>bu j oz
   refine aW (nx (au tb V [0,1,3,1001,1005,1007,1008] (V3 [.bF [.rd (ai (if ca (az (bP gf.aa (bg fs ag) 0 gf.aa.length)) gf.ac 2000 then bA (az (bP gf.aa (bg fs ag) 0 gf.aa.length)) gf.ac else [])),.int (if ca (az (bP gf.aa (bg fs ag) 0 gf.aa.length)) gf.ac 2000 then 0 else 15)],_,_,_,_,_]) [3] U7 Y ⟨bJ hS V (G8 V gf.ac (bP gf.aa (bg fs ag) 0 gf.aa.length) 2000 ay (vq (λt ht=>(het t ht).2) oz)) (cO func103),U⟩ ?_))
   refine ln 3 λ_=>?_
   refine ln 4 λ_=>?_
   refine af (aj tb V [0,1,2,5,1001] U2 U5 ?_)
   refine cj 4 ?_ ?_<;>intro eW<;>try simp at eW
   ·have e9:ca (az (bP gf.aa (bg fs ag) 0 gf.aa.length)) gf.ac 2000=false:=by cases h9:ca (az (bP gf.aa (bg fs ag) 0 gf.aa.length)) gf.ac 2000<;>simp_all
    have eU:(de d.vars (G d.ab i).wide gf (bg fs ag))=([],15):=Jq e6 e8 e9
    refine aj tb V [1000,1001] U2 U2 ?_
    exact tw (λh=>gu h (m:=0) (s:=6) Y) (aX (λa w h=>di (m:=0) (k:=1) Y (dw h) Y Y (congrArg (λz=>AV.rd (ai z)) (show([]:List BA)=((de d.vars (G d.ab i).wide gf (bg fs ag)).1)from by first | (rw[eU];done) | (rw[eU,if_neg (by simp[e9])]))) (eI (by first | (rw[eU];done) | (rw[eU,if_neg (by simp[e9])])))))
   ·have e9:ca (az (bP gf.aa (bg fs ag) 0 gf.aa.length)) gf.ac 2000=true:=by cases h9:ca (az (bP gf.aa (bg fs ag) 0 gf.aa.length)) gf.ac 2000<;>simp_all
    refine tw (sa 3 Y (show(.rd (ai (if ca (az (bP gf.aa (bg fs ag) 0 gf.aa.length)) gf.ac 2000 then bA (az (bP gf.aa (bg fs ag) 0 gf.aa.length)) gf.ac else [])):AV)= .rd (ai (bA (az (bP gf.aa (bg fs ag) 0 gf.aa.length)) gf.ac))from by rw[if_pos e9])) (ak (nx (ln 3 λPi=>?_)))
    refine af (af (λa w h=>iF (γ:=Nat) (λix'=>([.rd (fq (bP gf.aa (bg fs ag) 0 gf.aa.length)),.ptr [bM gf.apart,ai gf.ac,bX gf.bB,bM gf.wide,ai gf.proof],.rd (bM gf.apart),.at bc 0,.at bc 0,.at bc 0,.at bc 1,.rd (ai d.vars),.at bc 0,.at bc 0,.at bc 0,.at bc 2,.rd (dX d.ab),.at bc 0,.at bc 0,.at bc 3,.int (i:Nat),.ptr (a8 (G d.ab i)),.ptr [bM ((G d.ab i).wide),ai ((G d.ab i).proof)],.rd (bM ((G d.ab i).wide)),.bF [.agg (aS (fJ (bP gf.aa (bg fs ag) 0 gf.aa.length) gf.apart d.vars ((G d.ab i).wide))),.bool (eQ (bP gf.aa (bg fs ag) 0 gf.aa.length) gf.apart d.vars ((G d.ab i).wide))],.bF [.agg (aS (fJ (bP gf.aa (bg fs ag) 0 gf.aa.length) gf.apart d.vars ((G d.ab i).wide))),.bool (eQ (bP gf.aa (bg fs ag) 0 gf.aa.length) gf.apart d.vars ((G d.ab i).wide))],.agg (aS (fJ (bP gf.aa (bg fs ag) 0 gf.aa.length) gf.apart d.vars ((G d.ab i).wide))),.bool (eQ (bP gf.aa (bg fs ag) 0 gf.aa.length) gf.apart d.vars ((G d.ab i).wide)),.any,.any,.bool (eQ (bP gf.aa (bg fs ag) 0 gf.aa.length) gf.apart d.vars ((G d.ab i).wide))]:List AV).getD ix' .any) (λ_=>true) [(14,λ_=>.rd (ai (bA (az (bP gf.aa (bg fs ag) 0 gf.aa.length)) gf.ac))),(17,λ_=>.bool (eQ (bP gf.aa (bg fs ag) 0 gf.aa.length) gf.apart d.vars ((G d.ab i).wide)))] (λj' g=>match j' with | 0=>[] | 1=>[OB.var g [lS (⟨#[]⟩:BA),lS (⟨#[]⟩:BA)]] | _=>[OB.var g (aS (fJ (bP gf.aa (bg fs ag) 0 gf.aa.length) gf.apart d.vars ((G d.ab i).wide)))]) (λk' g=>match k' with | 0=>(.pointer (some ⟨g,0,none⟩)) | _=>undef) [24,25] 2 0 (λ_=>Y) h V cU Y Y Y Y Y Y hsb ⟨oX Y λZ hl=>b9 Y (hl.env 0 8 _ Y Y) Z,oX Y λZ hl=>cd zI Y (hl.env 2 4 _ Y Y) Z,oX Y λZ hl=>bU sj Y (hl.D 1 103 Y Y) Z,oX Y λZ hl=>b9 Y (hl.env 1 0 _ Y Y) Z,oX Y λZ hl=>jv Y (hl.D 3 105 Y Y) Z,oX Y λZ hl=>cy rz Y (hl.D 4 106 Y Y) Z,oX Y λZ hl=>cy zF Y (hl.D 5 107 Y Y) Z,oY Y λhk Z hl=>cg ip Y (dC hH hk Z (mo 0 Y)) (hl.D 6 108 Y Y) Y Z,oX Y λZ hl=>b9 Y (hl.env 1 0 _ Y Y) Z,oX Y λZ hl=>jv Y (hl.D 8 110 Y Y) Z,oX Y λZ hl=>cy rz Y (hl.D 9 111 Y Y) Z,oX Y λZ hl=>cy qa Y (hl.D 10 112 Y Y) Z,oY Y λhk Z hl=>cg qA Y (dC hH hk Z (mo 0 Y)) (hl.D 11 113 Y Y) Y Z,oX Y λZ hl=>b9 Y (hl.env 1 0 _ Y Y) Z,oX Y λZ hl=>jv Y (hl.D 13 115 Y Y) Z,oX Y λZ hl=>cy zE Y (hl.D 14 116 Y Y) Z,oY Y λhk Z hl=>cg gd Y (dC hH hk Z (mo 0 Y)) (hl.D 15 117 Y Y) Y Z,?_,oX Y λZ hl=>cd zJ Y (hl.D 17 119 Y Y) Z,oX Y λZ hl=>bU sj Y (hl.D 18 120 Y Y) Z,?_,oX Y λZ hl=>b9 Y (hl.D 20 122 Y Y) Z,oX Y λZ hl=>gt Y (hl.D 21 101 Y Y) Y Z,oX Y λZ hl=>gt Y (hl.D 21 101 Y Y) Y Z,bC Y,bC Y,oX Y λZ hl=>gY Y (hl.D 23 124 Y Y) Z,U⟩ ⟨?Mr,?Mt,U⟩ ⟨.old 3 14 _,.new 26 17 _,U⟩ ?X7))
    exact oX Y λZ hl=>cb (i:=(i:Int)) fT Y (hl.D 12 114 Y Y) (hl.D 16 118 Y Y) bK (cl (xs:=d.ab) (k:=i) ay) Y Z
    exact oY Y λhk Z hl=>cV (GY V (bP gf.aa (bg fs ag) 0 gf.aa.length) gf.apart d.vars ((G d.ab i).wide) (vq (λt ht=>(het t ht).2) oz) (by exact qn)) (cO func95) Y (aK hS _ hk Z) (Z.1) (aq (hl.D 0 102 Y Y) (aq (hl.D 2 104 Y Y) (aq (hl.D 7 109 Y Y) (aq (hl.D 19 121 Y Y) aN)))) (jo V Z)
    case Mr=>exact⟨_,Y,Y,Y,Y,λg _ w hk Z _ _=>bD (gD nw V Y hk Z) λv w' ⟨g',hv,hp⟩=>⟨g',Y,λk' hk'=>absurd hk' (Nat.not_lt_zero _),λ_=>hv,hp⟩⟩
    case Mt=>exact⟨_,Y,Y,Y,Y,λg a w hk Z hl hs=>(by obtain⟨eP,hv2,eh⟩:=jw (hl.D 22 123 Y Y);exact bD (iw (S':=S) (off:=0) (news:=U2) (es:=U2) (us:=eP) V hJ0 j6 Y hk Z (kt (hs 0 24 _ 16 oz Y Y Y)) (by rw[hv2];rfl) eh (lb Y) Y) λv w' hp=>⟨g,Y,λ_ _=>rfl,λe=>(by cases e),hp⟩)⟩
    clear a w h
    intro b4
    dsimp only[List.map]
    refine kw cK (nx (ln 0 λFq=>?_))
    refine aj tb V [0,1000] [_] U2 ?_
    refine cj 1 ?_ ?_<;>intro fV<;>try simp at fV
    ·have eU:(de d.vars (G d.ab i).wide gf (bg fs ag))=([],26):=Jt e6 e8 e9 fV
     refine aj tb V [1000,1001] U2 U2 ?_
     exact tw (λh=>gu h (m:=0) (s:=6) Y) (aX (λa w h=>di (m:=0) (k:=1) Y (dw h) Y Y (congrArg (λz=>AV.rd (ai z)) (show([]:List BA)=((de d.vars (G d.ab i).wide gf (bg fs ag)).1)from by first | (rw[eU];done) | (rw[eU,if_neg (by simp[e9])]))) (eI (by first | (rw[eU];done) | (rw[eU,if_neg (by simp[e9])])))))
    ·have eU:(de d.vars (G d.ab i).wide gf (bg fs ag))=(bA (az (bP gf.aa (bg fs ag) 0 gf.aa.length)) gf.ac,0):=Ju e6 e8 e9 fV
     refine ak (nx (aj tb V [1001,1002] U3 U2 ?_))
     exact aX (λa w h=>di (m:=0) (k:=1) Y (dw h) Y Y (congrArg (λz=>AV.rd (ai z)) (show(bA (az (bP gf.aa (bg fs ag) 0 gf.aa.length)) gf.ac)=((de d.vars (G d.ab i).wide gf (bg fs ag)).1)from by first | (rw[eU];done) | (rw[eU,if_neg (by simp[e9])]))) (eI (by first | (rw[eU];done) | (rw[eU,if_neg (by simp[e9])]))))
section
variable {J:WP} (V:aR J)
include V
theorem SH (f:Fr) (s:BA)  :Fn prog J 93 [.agg (a8 f),.ptr [lS s]] (.bool (decide (f.ae=s))):=by
 refine fE func93 λS w0 hS hJ0=>?_
 clear hJ0
 refine aJ tb V [1,1000] [.ptr (a8 f),_] [0] U2 Y ⟨d9 hS V,U⟩ ?_
 refine qs tb V [1004] U5 [_] ?_
 exact aU 0 (hE:=Y)
theorem G5 (d:Db) (s:BA)  :Fn prog J 67 [.agg (bV d),.str s] (.int (bR d s)):=by
 refine fE func67 λS w0 hS hJ0=>?_
 clear hJ0
 refine aJ tb V [1000,1001] [.ptr (bV d),.ptr [lS s],_] [0,1] U2 Y ⟨d9 hS V,λ_ _ hk Z hl _=>ld Y (hl.env 1 1 _ Y Y) (hS _ hk.size) (js V Z),U⟩ ?_
 refine aJ tb V [1001,1004] [_,_,.fn 93 [.ptr [lS s]],.int (cH (λ(f':Fr)=>decide (f'.ae=s)) d.ab),_] [2,3] U2 Y ⟨λ_ _ _ Z hl _=>lf (caps:=[(.tmp 3)]) Y (aq (hl.env 1 3 _ Y Y) aN) Z,λ_ _ hk Z hl _=>dv (G6 V d.ab 93 [.ptr [lS s]] [] (λ(f':Fr)=>decide (f'.ae=s)) (λq'=>(SH V q' s).r) ((cO func93))) (cO func59) Y (nm hS hk) (Z) b8 (aq (hl.D 1 6 Y Y) (aq (hl.D 2 7 Y Y) aN)) (js V Z),U⟩ ?_
 refine ln 0 λ_=>?_
 exact aU 1 (hE:=eI (Y))
theorem Ti (bc:Nat) (d:Db) (i:Nat) (fv:Value) (fs:List (List BA)) (s:Stp) (hi:i<d.ab.length) (dY:dG d=0) (mZ:∀ t∈fs,1<=t.length/\t.length<=2000) (oP:∀ j,j<s.args.length->0<=G s.args j/\G s.args j< (fs.length:Int)) (qn:(G d.ab i).wide.length*32<=140737488351232):cD prog J 57 [OB.var bc [ai d.bL,ai d.vars,dX d.ab,lI (i:Int),.lit fv],OB.row fv 22 1 (fs.map kN)] [.at bc 0,.agg (bx s)] (.bF [.rd (ai ((cv d i s fs).1)),.int ((cv d i s fs).2)]):=by
 refine eV func57 λS w0 hS hJ0 hH=>?_
 refine tw cc ?_
 have wH:zZ (G d.ab i):=(pS dY _ (aE hi)).2.2
 refine au tb V [0,1000] [.ptr (bx s),_,_] [0] U2 Y ⟨cY hS V,U⟩ ?_
 refine af (aj tb V [0,1,1002] U3 U3 ?_)
 refine cj 2 ?_ ?_<;>intro hb1
 ·have eU:=IC (d:=d) (i:=i) (s:=s) (a:=fs) (by simpa using hb1)
  refine aj tb V [1000,1001] U2 U2 ?_
  exact tw (λh=>gu h (m:=0) (s:=4) Y) (aX (λa w h=>di (m:=0) (k:=1) Y (dw h) Y Y (congrArg (λz=>AV.rd (ai z)) (show([]:List BA)=((cv d i s fs).1)from by rw[eU])) (eI (by rw[eU]))))
 ·have h0:¬ s.ae=⟨#[63]⟩:=by simpa using hb1
  refine ak (nx (af (af (λa w h=>iF (γ:=Nat) (λix'=>([.at bc 0,.at bc 0,.at bc 0,.at bc 2,.rd (dX d.ab),.at bc 0,.at bc 0,.at bc 3,.int (i:Nat),.ptr (a8 (G d.ab i)),.agg (a8 (G d.ab i)),.ptr (bx s),.str s.ae,.bF [.agg (aP ((cA (G d.ab i) s.ae).getD default)),.bool ((cA (G d.ab i) s.ae).isSome)],.bF [.agg (aP ((cA (G d.ab i) s.ae).getD default)),.bool ((cA (G d.ab i) s.ae).isSome)],.agg (aP ((cA (G d.ab i) s.ae).getD default)),.bool ((cA (G d.ab i) s.ae).isSome),.any,.any,.bool ((cA (G d.ab i) s.ae).isSome)]:List AV).getD ix' .any) (λ_=>true) [(0,λ_=>.at bc 0),(3,λ_=>.ptr (bx s)),(6,λg=>.at g 0),(7,λ_=>.bool ((cA (G d.ab i) s.ae).isSome))] (λj' g=>match j' with | 0=>[] | 1=>[OB.var g [lS (⟨#[]⟩:BA),lB false,ai ([]:List BA)]] | _=>[OB.var g (aP ((cA (G d.ab i) s.ae).getD default))]) (λk' g=>match k' with | 0=>(.pointer (some ⟨g,0,none⟩)) | _=>undef) [17,18] 2 0 (λ_=>Y) h V cU Y Y Y Y Y Y hsb ⟨oX Y λZ hl=>b9 Y (hl.env 0 0 _ Y Y) Z,oX Y λZ hl=>jv Y (hl.D 0 13 Y Y) Z,oX Y λZ hl=>cy rz Y (hl.D 1 14 Y Y) Z,oX Y λZ hl=>cy qa Y (hl.D 2 15 Y Y) Z,oY Y λhk Z hl=>cg qA Y (dC hH hk Z (mo 0 Y)) (hl.D 3 16 Y Y) Y Z,oX Y λZ hl=>b9 Y (hl.env 0 0 _ Y Y) Z,oX Y λZ hl=>jv Y (hl.D 5 18 Y Y) Z,oX Y λZ hl=>cy zE Y (hl.D 6 19 Y Y) Z,oY Y λhk Z hl=>cg gd Y (dC hH hk Z (mo 0 Y)) (hl.D 7 20 Y Y) Y Z,?_,oX Y λZ hl=>j4 pI Y (hl.D 9 22 Y Y) aV Z,oX Y λZ hl=>cd ED Y (hl.env 1 3 _ Y Y) Z,oX Y λZ hl=>bU fh Y (hl.D 11 24 Y Y) Z,?_,oX Y λZ hl=>b9 Y (hl.D 13 26 Y Y) Z,oX Y λZ hl=>gt Y (hl.D 14 12 Y Y) Y Z,oX Y λZ hl=>gt Y (hl.D 14 12 Y Y) Y Z,bC Y,bC Y,oX Y λZ hl=>gY Y (hl.D 16 28 Y Y) Z,U⟩ ⟨?pZ,?tf,U⟩ ⟨.old 0 0 _,.old 1 3 _,.d6 0 17 6 (λg=>(.pointer (some ⟨g,0,none⟩))) Y Y (λ_=>Y) (λ_=>True.intro),.new 19 7 _,U⟩ ?pj))))
  exact oX Y λZ hl=>cb (i:=(i:Int)) fT Y (hl.D 4 17 Y Y) (hl.D 8 21 Y Y) bK (cl (xs:=d.ab) (k:=i) ay) Y Z
  exact oY Y λhk Z hl=>cV (SK V (G d.ab i) s.ae (by exact λh hh=>(wH h hh).2)) (cO func86) Y (aK hS _ hk Z) (Z.1) (aq (hl.D 10 23 Y Y) (aq (hl.D 12 25 Y Y) aN)) (jo V Z)
  case pZ=>exact⟨_,Y,Y,Y,Y,λg _ w hk Z _ _=>bD (gD kR V Y hk Z) λv w' ⟨g',hv,hp⟩=>⟨g',Y,λk' hk'=>absurd hk' (Nat.not_lt_zero _),λ_=>hv,hp⟩⟩
  case tf=>exact⟨_,Y,Y,Y,Y,λg _ w hk Z hl hs=>(by obtain⟨eP,hv2,eh⟩:=jw (hl.D 15 27 Y Y);exact bD (iw (S':=S) (off:=0) (news:=U3) (es:=U3) (us:=eP) V hJ0 jx Y hk Z (kt (hs 0 17 _ 6 oz Y Y Y)) (by rw[hv2];rfl) eh (lb Y) Y) λv w' hp=>⟨g,Y,λ_ _=>rfl,λe=>(by cases e),hp⟩)⟩
  clear a w h
  intro b1
  dsimp only[List.map]
  refine kw (λh=>fB hS h (m:=2) (s:=6) Y) (nx (aj tb V [0,1,2,1000] [_] U4 ?_))
  refine cj 3 ?_ ?_<;>intro hb2
  ·refine af (au tb V [0,1001,1003] [_,_,.int (s.args.length:Nat),_] [2] U3 Y ⟨aC fb,U⟩ ?_)
   refine ln 1 λ_=>?_
   refine cj 2 ?_ ?_<;>intro aD<;>try simp at aD
   ·have eU:=ID (a:=fs) h0 hb2 oz
    refine aj tb V [1000,1001] U2 U2 ?_
    exact tw (λh=>gu h (m:=0) (s:=4) Y) (aX (λa w h=>di (m:=0) (k:=1) Y (dw h) Y Y (congrArg (λz=>AV.rd (ai z)) (show([]:List BA)=((cv d i s fs).1)from by rw[eU])) (eI (by rw[eU]))))
   ·have eU:=IE (a:=fs) h0 hb2 (by simpa using aD)
    have e3:(((cA (G d.ab i) s.ae).getD default).ac).length<=2000:=by obtain⟨y,hy⟩:=Option.isSome_iff_exists.1 hb2;rw[hy];exact(wH y (mem_of_find?_eq_some hy)).2
    refine ak (nx (aL (ao 2 tb Y (iI (O:=[]) (R:=[]) (G0 V (((cA (G d.ab i) s.ae).getD default).ac) oz) (cO func87) Y Y Y (lb Y) hS hJ0 b8 (λa w h=>(aq (h.get 0 Y) aN)) λz2=>ao 2 tb Y (aA [0,1,3] U3 Y (nx (ln 2 λhl2=>?_)))))))
    exact tw (λh=>dU hS h (m:=1) (s:=4) Y) (aX (λa w h=>di (m:=0) (k:=1) Y (dw h) Y Y (congrArg (λz=>AV.rd (ai z)) (show(((cA (G d.ab i) s.ae).getD default).ac)=((cv d i s fs).1)from by rw[eU])) (eI (by rw[eU]))))
  ·have e2:(cA (G d.ab i) s.ae)=none:=by cases h9:(cA (G d.ab i) s.ae)with | none=>rfl | some y=>rw[h9]at hb2;cases hb2
   refine ak (nx (au tb V [1,2,1007] [_,.at bc 0,.at bc 0,.agg (bV d),_,_,.int (bR d s.ae),_] [1,2,3,6] U3 Y ⟨λ_ _ _ Z hl _=>jv Y (hl.D 0 37 Y Y) Z,λ_ _ _ Z hl _=>cy rz Y (hl.D 1 38 Y Y) Z,λ_ _ hk Z hl _=>fA (ds:=[ai d.bL,ai d.vars,dX d.ab]) vf Y (dC hH hk Z (mo 0 Y)) (hl.D 2 39 Y Y) Y Y Z,bJ hS V (G5 V d s.ae) (cO func67),U⟩ ?_))
   refine af (ax (au tb V [0,1,2,1010] (V5 [.at bc 0,.at bc 3,.int (i:Nat),_,_,_]) [5,6,7] U4 Y ⟨λ_ _ _ Z hl hc=>jv Y (hl.D 4 49 Y hc) Z,λ_ _ _ Z hl hc=>cy zE Y (hl.D 5 50 Y hc) Z,λ_ _ hk Z hl hc=>cg gd Y (dC hH hk Z (mo 0 Y)) (hl.D 6 51 Y hc) Y Z,U⟩ ?_))
   refine cj 3 ?_ ?_<;>intro bd
   ·have eU:=IA (a:=fs) h0 e2 (show(dR d i s.ae)<0 by rw[Nk oz (by simpa [-Int.not_lt]using bd)];decide)
    refine aj tb V [1000,1001] U2 U2 ?_
    exact tw (λh=>gu h (m:=0) (s:=4) Y) (aX (λa w h=>di (m:=0) (k:=1) Y (dw h) Y Y (congrArg (λz=>AV.rd (ai z)) (show([]:List BA)=((cv d i s fs).1)from by rw[eU])) (eI (by rw[eU]))))
   ·have e4:¬ bR d s.ae<0/\bR d s.ae< (i:Int):=by simp only[Bool.or_eq_false_iff,decide_eq_false_iff_not]at bd;omega
    have e7:=Ei (d:=d) (i:=i) oz e4.1 e4.2
    have e5:=vh (d:=d) (i:=i) (s:=s.ae) oz
    have e6:=pS dY _ (aE e5.2.2)
    refine tw (sa 2 Y (show(.int (bR d s.ae):AV)= .int ((dR d i s.ae).toNat:Nat)from congrArg AV.int oz)) (au tb V [0,1,2,1001,1007,1011,1014] [_,_,.int (s.args.length:Nat),_,.at bc 0,.at bc 0,.at bc 2,.rd (dX d.ab),_,.ptr (a8 (G d.ab ((dR d i s.ae).toNat))),_,_,.int (((G d.ab ((dR d i s.ae).toNat)).aa).length:Nat),_,_] [2,4,5,6,7,9,12] U7 Y ⟨aC fb,λ_ _ _ Z hl _=>jv Y (hl.D 3 59 Y Y) Z,λ_ _ _ Z hl _=>cy rz Y (hl.D 4 60 Y Y) Z,λ_ _ _ Z hl _=>cy qa Y (hl.D 5 61 Y Y) Z,λ_ _ hk Z hl _=>cg qA Y (dC hH hk Z (mo 0 Y)) (hl.D 6 62 Y Y) Y Z,bq fT,aC cW,U⟩ ?_)
    refine ln 3 λ_=>?_
    refine ln 4 λ_=>?_
    refine ln 5 λ_=>?_
    refine cj 6 ?_ ?_<;>intro bW<;>try simp at bW
    ·have eU:=IB (a:=fs) h0 e2 oz oz
     refine aj tb V [1000,1001] U2 U2 ?_
     exact tw (λh=>gu h (m:=0) (s:=4) Y) (aX (λa w h=>di (m:=0) (k:=1) Y (dw h) Y Y (congrArg (λz=>AV.rd (ai z)) (show([]:List BA)=((cv d i s fs).1)from by rw[eU])) (eI (by rw[eU]))))
    ·have eU:=BU (a:=fs) h0 e2 oz (show s.args.length=(G d.ab (dR d i s.ae).toNat).aa.length by omega)
     refine ak (nx (au tb V [1012,1014,1015] [_,_,.at bc 0,.at bc 0,.at bc 2,.rd (dX d.ab),_,.ptr (a8 (G d.ab ((dR d i s.ae).toNat))),_,_,_,.bF [.rd (ai ((de d.vars (G d.ab i).wide (G d.ab ((dR d i s.ae).toNat)) (bg fs s.args)).1)),.int ((de d.vars (G d.ab i).wide (G d.ab ((dR d i s.ae).toNat)) (bg fs s.args)).2)],_,_,_,_] [2,3,4,5,7,11] U3 Y ⟨λ_ _ _ Z hl _=>jv Y (hl.D 1 71 Y Y) Z,λ_ _ _ Z hl _=>cy rz Y (hl.D 2 72 Y Y) Z,λ_ _ _ Z hl _=>cy qa Y (hl.D 3 73 Y Y) Z,λ_ _ hk Z hl _=>cg qA Y (dC hH hk Z (mo 0 Y)) (hl.D 4 74 Y Y) Y Z,bq fT,λ_ _ hk Z hl _=>dv (TF V bc d i fv fs (G d.ab ((dR d i s.ae).toNat)) s.args (by exact hi) (by exact mZ) (by exact oP) oz (by exact e6.1.2) (by exact e6.1.1) (by exact qn)) (cO func88) Y (aK hS _ hk Z) (Z.1) (dJ (dC hH hk Z (mo 0 Y)) (dJ (dC hH hk Z (mo 1 Y)) b8)) (aq (hl.D 0 70 Y Y) (aq (hl.D 8 78 Y Y) (aq (hl.D 10 80 Y Y) aN))) (jo V Z),U⟩ ?_))
     refine ln 0 λ_=>?_
     exact aX (λa w h=>di (m:=1) (k:=2) Y (dw h) Y Y (congrArg (λz=>AV.rd (ai z)) (show((de d.vars (G d.ab i).wide (G d.ab ((dR d i s.ae).toNat)) (bg fs s.args)).1)=((cv d i s fs).1)from by rw[eU])) (eI (by rw[eU])))
end
theorem vz:oy prog 64 [.int .i64 0,.int .i64 0]:=⟨λi=>(#[(0,1),(1,1)]:Array (Nat×Nat))[i]?,λj hj=>by rcases j with _ | _ | j<;>first | rfl | (simp at hj;omega) | simp at hj,λparts=>by kernel_rfl⟩
theorem KD:Cy prog 113:=λx y z i=>by kernel_rfl
theorem vB:lN prog 64 2:=⟨#[.int .i64 0,.int .i64 0],Y,λi=>(#[(0,1),(1,1)]:Array (Nat×Nat))[i]?,λj hj=>by rcases j with _ | _ | j<;>first | rfl | omega,λparts=>by kernel_rfl⟩
theorem G9 {J:WP} (V:aR J) (d:Db) (z:Int) (ss:List Stp) (hw:∀ f∈d.ab,f.wide.length*32<=140737488351232) (hG:gJ J):Fn prog J 27 [.agg (bV d),.int z,.agg (be ss)] (.bF [.rd (cu ((aZ d z ss).1)),.agg (kS ((aZ d z ss).2)),.int (dH d z ss)]):=by
 refine fE func27 λS w0 hS hJ0=>?_
 refine tw cc (aL (sy (.ptr (bV d)) (λh=>fk Y (h.get 0 Y) (aK hS _ h.keep h.x _ aV) (jo V h.x)) ?_))
 refine sy (.ptr (be ss)) (λh=>fk Y (h.get 3 Y) (aK hS _ h.keep h.x _ aV) (jo V h.x)) ?_
 refine ao 1 tb (env':=[(6,_),(5,_),(3,_),(0,_),(1,_),(2,_)]) Y (cx sI V Y Y Y (lb Y) λb1=>ao 1 tb (env':=[(8,_),(7,_),(6,_),(5,_),(3,_),(0,_),(1,_),(2,_)]) Y (aA [1,3,4,6] U4 Y (nx (af (au tb V [0,1,2,3,1004] (V3 [.int (dH d z ss),_]) [3] U5 Y ⟨bJ hS V (Bm V d z ss (by exact hw) (by exact hG)) (cO func56),U⟩ ?_)))))
 refine aj tb V (r5 [1001]) U2 U6 ?_
 refine cj 5 ?_ ?_<;>intro hb1<;>try simp at hb1
 ·have eU:aZ d z ss=([],(0,0)):=if_neg (by simpa using hb1)
  refine aL (sy (.agg (kS (⟨0,0⟩:Int×Int))) (λh=>gr (ps:=[]) (us:=[.int .i64 0,.int .i64 0]) vz Y yz gn Y (dT (.lit _ True.intro) (dT (.lit _ True.intro) cM)) h.x) ?_)
  refine ao 2 tb (env':=[(6,_),(23,_),(22,_),(7,_),(5,_),(3,_),(1,_),(9,_),(21,_)]) Y (ce (b:=b1) (off:=0) (es:=U2) (news:=U2) V hJ0 lL Y Y Y (lb Y) Y (λa w h=>⟨(h.get 3 Y),(h.get 2 Y)⟩) (ao 1 tb (env':=[(8,_),(6,_),(23,_),(22,_),(7,_),(5,_),(3,_),(1,_),(9,_),(21,_)]) Y (aA [0,1,4] U3 Y (nx (tw (λh=>gu h (m:=1) (s:=6) Y) (aX (λa w h=>pg (cs:=[lI ((⟨0,0⟩:Int×Int).1),lI ((⟨0,0⟩:Int×Int).2)]) (m:=2) (q:=1) (z:=0) Y oC h Y Y (show([lI ((⟨0,0⟩:Int×Int).1),lI ((⟨0,0⟩:Int×Int).2)]:List CD)=[lI (((aZ d z ss).2).1),lI (((aZ d z ss).2).2)]from by rw[eU]) Y (congrArg (λz=>AV.rd (cu z)) (show([]:List (List BA))=((aZ d z ss).1)from by rw[eU])) Y Y)))))))
 ·have e0:dH d z ss=0:=by simpa using hb1
  obtain⟨ha,hf⟩:=nK e0
  have bw:=(tD ss).1 hf
  obtain⟨dY,lC,f9⟩:=oE ha
  have hi:z.toNat<d.ab.length:=by omega
  have jX:=bw.1
  have cr:=bw.2.1
  refine tw (sa 3 Y (show(.int z:AV)= .int (z.toNat:Nat)from congrArg AV.int oz)) (ak (nx (aL (ao 2 tb (env':=[(25,_),(24,_),(7,_),(5,_),(3,_),(1,_),(9,_),(21,_)]) Y (sy (.agg [ai d.bL,ai d.vars,dX d.ab,lI (z.toNat:Int),.lit (.slice none 0 0)]) (λh=>T4 (d:=d) (i:=(z.toNat:Int)) KD Y (h.get 1 Y) (h.get 0 Y) h.x) ?_)))))
  refine qQ (cs:=[ai d.bL,ai d.vars,dX d.ab,lI (z.toNat:Int),.lit (.slice none 0 0)]) V Y Y Y (lb Y) (λa w h=>(h.get 0 Y)) λb2=>ao 1 tb (env':=[(10,_),(27,_),(26,_),(25,_),(24,_),(7,_),(5,_),(3,_),(1,_),(9,_),(21,_)]) Y (aA [0,5,6,7,8] U5 Y (nx (af (tw (iJ 22 1 V) (au tb V (r5 [1001,1002,1003]) [_,_,.int (ss.length:Nat),_] [2] U8 Y ⟨aC eo,U⟩ ?_)))))
  refine ln 5 λcr=>?_
  refine ax (lpo (ι:=Nat×(List (List BA))×Value) (λ(k,fs,_)=>(k<=ss.length)/\(fs=dL d z.toNat ss k)/\(∀ j,j<k->iy d z.toNat ss j=0)) (λ(_,fs,fv)=>[OB.row fv 22 1 (fs.map kN),OB.var b2 [ai d.bL,ai d.vars,dX d.ab,lI (z.toNat:Int),.lit fv],OB.var b1 [lI 0,lI 0]]) (λ(k,_,_)=>[(31,.int (k:Nat))]) (λ(k,_,_)=>ss.length-k) (r8 []) U7 (0,[],(.slice none 0 0)) ⟨aI,Y,λj hj=>by omega⟩ ?_)
  rintro⟨k,fs,fv⟩ ⟨aQ,ah,bh⟩
  refine aj tb V (r8 [1000]) [_] U9 ?_
  refine cE 8 ?_ ?_<;>intro hb2<;>try simp at hb2
  ·have e2:=rA dY hi k bh
   rw[<-ah]at e2
   have e3:fs.length=k:=by rw[ah,lx]
   have e4:=GM bw (k:=k) oz
   refine ak (nx (af (ax (aL (ao 1 tb (env':=[(33,_),(10,_),(7,_),(5,_),(3,_),(1,_),(29,_),(30,_),(31,_),(32,_)]) Y (sy (.ptr (bx (G ss k))) (λh=>cb (i:=(k:Int)) eq Y (h.get 6 Y) (h.get 8 Y) bK (cl (xs:=ss) (k:=k) ay) Y h.x) ?_))))))
   refine ao 1 tb (env':=[(35,_),(34,_),(33,_),(10,_),(7,_),(5,_),(3,_),(1,_),(29,_),(30,_),(31,_),(32,_)]) Y (cx mw V Y Y Y (lb Y) λb3=>ao 1 tb (env':=[(11,_),(12,_),(35,_),(34,_),(33,_),(10,_),(7,_),(5,_),(3,_),(1,_),(29,_),(30,_),(31,_),(32,_)]) Y (ce (b:=b3) (off:=0) (es:=U2) (news:=U2) V hJ0 mt Y Y Y (lb Y) Y (λa w h=>⟨(h.get 1 Y),(h.get 2 Y)⟩) (kw (λh=>fB hS h (m:=1) (s:=12) Y) (aA [0,1,5,6,7,8,9,10,11,12] fp Y (nx (au tb V [1,2,3,4,5,6,7,8,9,1004,1006,1007] [_,_,.bF [.rd (ai ((cv d z.toNat (G ss k) fs).1)),.int ((cv d z.toNat (G ss k) fs).2)],_,_,_,_,_] [2] nE Y ⟨λ_ _ hk Z hl _=>dv (Ti V b2 d z.toNat fv fs (G ss k) (by exact hi) (by exact dY) (by exact e2) (by exact λj hj=>by have:=e4 j hj;omega) (by exact hw _ (aE hi))) (cO func57) Y (aK hS _ hk Z) (Z.1) (dJ (aG Z (mo 1 Y)) (dJ (aG Z (mo 0 Y)) b8)) (aq (hl.D 0 37 Y Y) (aq (hl.D 1 38 Y Y) aN)) (jo V Z),U⟩ ?_))))))
   refine ln 9 λ_=>?_
   refine af (aj tb V (r9 [10,11,1001]) U2 nE ?_)
   refine cj 11 ?_ ?_<;>intro aD<;>try simp at aD
   ·have eU:aZ d z ss=(fs,((cv d z.toNat (G ss k) fs).2,(k:Int))):=by rw[aZ,if_pos e0,Ch (k:=k) oz bh (by rw[rv,<-ah];simpa using aD),rv,<-ah]
    refine aL (ao 1 tb (env':=[(44,_),(11,_),(10,_),(7,_),(5,_),(3,_),(1,_),(29,_),(30,_),(31,_),(13,_),(14,_),(43,_)]) Y (sy (.at b2 0) (λh=>jv Y (h.get 0 Y) h.x) ?_))
    refine sy (.at b2 4) (λh=>cy oN Y (h.get 0 Y) h.x) ?_
    refine sy (.lit fv) (λh=>cg qB Y (aG h.x (mo 1 Y)) (h.get 0 Y) Y h.x) ?_
    refine ao 2 tb (env':=[(49,_),(48,_),(47,_),(46,_),(45,_),(44,_),(11,_),(10,_),(7,_),(5,_),(3,_),(1,_),(29,_),(30,_),(31,_),(13,_),(14,_),(43,_)]) Y (sq (.agg (kS (⟨(cv d z.toNat (G ss k) fs).2,(k:Int)⟩:Int×Int))) Y Y (lb Y) (λa _ h=>gq (us:=[a.eval (.tmp 48),a.eval (.tmp 49)]) vB Y yz (b6 (h.get 1 Y) (b6 (h.get 0 Y) cM)) Y h.x) (ao 1 tb (env':=[(6,_),(50,_),(49,_),(48,_),(47,_),(46,_),(45,_),(44,_),(11,_),(10,_),(7,_),(5,_),(3,_),(1,_),(29,_),(30,_),(31,_),(13,_),(14,_),(43,_)]) Y (kw du (ce (b:=b1) (off:=0) (es:=U2) (news:=U2) V hJ0 lL Y Y Y (lb Y) Y (λa w h=>⟨(h.get 10 Y),(h.get 1 Y)⟩) (ao 1 tb (env':=[(8,_),(6,_),(50,_),(49,_),(48,_),(47,_),(46,_),(45,_),(44,_),(11,_),(10,_),(7,_),(5,_),(3,_),(1,_),(29,_),(30,_),(31,_),(13,_),(14,_),(43,_)]) Y (aA [0,1,11] U3 Y (nx (tw bO (tw (λh=>dU hS h (m:=1) (s:=6) Y) (aX (λa w h=>pg (cs:=[lI ((⟨(cv d z.toNat (G ss k) fs).2,(k:Int)⟩:Int×Int).1),lI ((⟨(cv d z.toNat (G ss k) fs).2,(k:Int)⟩:Int×Int).2)]) (m:=2) (q:=1) (z:=0) Y oC h Y Y (show([lI ((⟨(cv d z.toNat (G ss k) fs).2,(k:Int)⟩:Int×Int).1),lI ((⟨(cv d z.toNat (G ss k) fs).2,(k:Int)⟩:Int×Int).2)]:List CD)=[lI (((aZ d z ss).2).1),lI (((aZ d z ss).2).2)]from by rw[eU]) Y (congrArg (λz=>AV.rd (cu z)) (show fs=((aZ d z ss).1)from by rw[eU])) Y (congrArg AV.int (show(0:Int)=dH d z ss from by rw[e0])))))))))))))
   ·have e5:iy d z.toNat ss k=0:=by rw[rv,<-ah];simpa using aD
    refine ak (nx (cC (ao 2 tb (env':=[(52,_),(51,_),(11,_),(10,_),(7,_),(5,_),(3,_),(1,_),(29,_),(30,_),(31,_),(13,_),(14,_),(43,_)]) Y (sy (.at b2 0) (λh=>jv Y (h.get 0 Y) h.x) ?_))))
    refine sy (.at b2 4) (λh=>cy oN Y (h.get 0 Y) h.x) ?_
    refine sy (.lit fv) (λh=>cg qB Y (aG h.x (mo 1 Y)) (h.get 0 Y) Y h.x) ?_
    refine ao 1 tb (env':=[(56,_),(55,_),(54,_),(53,_),(52,_),(51,_),(11,_),(10,_),(7,_),(5,_),(3,_),(1,_),(29,_),(30,_),(31,_),(13,_),(14,_),(43,_)]) Y (sy (.rd (cu ([((cv d z.toNat (G ss k) fs).1)]))) (λh=>fz eG ra Y (h.get 0 Y) (aK hS _ h.keep h.x _ aV) (jo V h.x)) ?_)
    refine fN (f:=kN) (m:=2) (s:=55) fs ([((cv d z.toNat (G ss k) fs).1)]) (λ_=>Y) sP V hJ0 Y Y Y (lb Y) Y Y (λa w h=>(h.get 0 Y)) (by simp;omega) (by simp;omega) λv4=>?_
    refine sy (.at b2 0) (λh=>jv Y (h.get 7 Y) h.x) ?_
    refine sy (.at b2 4) (λh=>cy oN Y (h.get 0 Y) h.x) ?_
    refine kw bO (gI (b:=b2) (off:=4) (es:=U5) V hJ0 Vx Y Y Y (lb Y) Y (λa w h=>⟨(h.get 0 Y),(h.get 2 Y)⟩) (aA [3,11,12,13,14,15,16,17,18] U9 Y (nx (ln 0 λhl3=>?_))))
    refine aT tb V [1,2,3,4,5,6,7,1001] [.int (k+1:Nat),_] [0] U8 Y ⟨aM,U⟩ ?_
    refine kw du (kw bO (kw du (br (k+1,fs++([((cv d z.toNat (G ss k) fs).1)]),v4) (r8 []) ⟨oz,by rw[EG,<-ah],cB bh e5⟩)))
  ·obtain rfl:k=ss.length:=by omega
   have e3:fs.length=ss.length:=by rw[ah,lx]
   refine aW (nx (af (au tb V [0,1,3,4,1003] [_,_,.int (ss.length:Nat),_] [2] U5 Y ⟨aC eo,U⟩ ?_)))
   refine au tb V [0,1,4,1007,1009,1013,1015] [_,.at b2 0,.at b2 4,.lit fv,_,.int (ss.length-1:Nat),.lit (cG fv ((ss.length-1)*1)),.rd (ai (G fs (ss.length-1))),_,_,_,.ptr (a8 (G d.ab z.toNat)),_,_,.bool (decide ((G fs (ss.length-1))=((G d.ab z.toNat).ac))),_] [1,2,3,5,6,7,11,14] U7 Y ⟨λ_ _ _ Z hl _=>jv Y (hl.D 0 65 Y Y) Z,λ_ _ _ Z hl _=>cy oN Y (hl.D 1 66 Y Y) Z,λ_ _ _ Z hl _=>cg qB Y (aG Z (mo 1 Y)) (hl.D 2 67 Y Y) Y Z,λ_ _ _ Z hl _=>qI (i:=ss.length) (j:=1) Y (hl.D 4 69 Y Y) (Rel.aH (.int .i64 1)) ay ay Z,λ_ _ _ Z hl _=>eZ (i:=((ss.length-1:Nat):Int)) eG Y (aG Z (mo 0 Y)) (hl.D 3 68 Y Y) (hl.D 5 70 Y Y) bK (by rw[length_map];exact Int.ofNat_lt.2 ay) Z,λ_ _ _ Z hl _=>nn (i:=ss.length-1) ip Y (aG Z (mo 0 Y)) (hl.D 6 71 Y Y) (iG (xs:=fs) (k:=ss.length-1) ay) Z,bq fT,bJ hS V (xo V (G fs (ss.length-1)) ((G d.ab z.toNat).ac)) (cO func58),U⟩ ?_
   refine ln 3 λ_=>?_
   refine ln 4 λ_=>?_
   refine ln 5 λ_=>?_
   refine cj 6 ?_ ?_<;>intro bd<;>try simp at bd
   ·have eU:aZ d z ss=(fs,(28,(ss.length:Int))):=by rw[aZ,if_pos e0,pw bh,<-ah,if_neg (by first | (simpa using bd) | (simpa [e3]using bd))]
    refine aL (ao 1 tb (env':=[(81,_),(10,_),(7,_),(15,_),(72,_),(74,_),(78,_),(80,_)]) Y (sy (.at b2 0) (λh=>jv Y (h.get 0 Y) h.x) ?_))
    refine sy (.at b2 4) (λh=>cy oN Y (h.get 0 Y) h.x) ?_
    refine sy (.lit fv) (λh=>cg qB Y (aG h.x (mo 1 Y)) (h.get 0 Y) Y h.x) ?_
    refine ao 1 tb (env':=[(85,_),(84,_),(83,_),(82,_),(81,_),(10,_),(7,_),(15,_),(72,_),(74,_),(78,_),(80,_)]) Y (sq (.agg (kS (⟨(28:Int),(ss.length:Int)⟩:Int×Int))) Y Y (lb Y) (λa _ h=>gq (us:=[a.eval (.const (.int .i64 28)),a.eval (.tmp 85)]) vB Y yz (b6 (Rel.aH (.int .i64 28)) (b6 (h.get 0 Y) cM)) Y h.x) (ao 1 tb (env':=[(6,_),(86,_),(85,_),(84,_),(83,_),(82,_),(81,_),(10,_),(7,_),(15,_),(72,_),(74,_),(78,_),(80,_)]) Y (kw du (ce (b:=b1) (off:=0) (es:=U2) (news:=U2) V hJ0 lL Y Y Y (lb Y) Y (λa w h=>⟨(h.get 8 Y),(h.get 1 Y)⟩) (ao 1 tb (env':=[(8,_),(6,_),(86,_),(85,_),(84,_),(83,_),(82,_),(81,_),(10,_),(7,_),(15,_),(72,_),(74,_),(78,_),(80,_)]) Y (aA [0,1,9] U3 Y (nx (tw bO (tw (λh=>dU hS h (m:=1) (s:=6) Y) (aX (λa w h=>pg (cs:=[lI ((⟨(28:Int),(ss.length:Int)⟩:Int×Int).1),lI ((⟨(28:Int),(ss.length:Int)⟩:Int×Int).2)]) (m:=2) (q:=1) (z:=0) Y oC h Y Y (show([lI ((⟨(28:Int),(ss.length:Int)⟩:Int×Int).1),lI ((⟨(28:Int),(ss.length:Int)⟩:Int×Int).2)]:List CD)=[lI (((aZ d z ss).2).1),lI (((aZ d z ss).2).2)]from by rw[eU]) Y (congrArg (λz=>AV.rd (cu z)) (show fs=((aZ d z ss).1)from by rw[eU])) Y (congrArg AV.int (show(0:Int)=dH d z ss from by rw[e0])))))))))))))
   ·have eU:aZ d z ss=(fs,(0,0)):=by rw[aZ,if_pos e0,pw bh,<-ah,if_pos (by first | (simpa using bd) | (simpa [e3]using bd))]
    refine ak (nx (aL (ao 1 tb (env':=[(87,_),(10,_),(7,_),(15,_),(72,_),(74,_),(78,_),(80,_)]) Y (sy (.at b2 0) (λh=>jv Y (h.get 0 Y) h.x) ?_))))
    refine sy (.at b2 4) (λh=>cy oN Y (h.get 0 Y) h.x) ?_
    refine sy (.lit fv) (λh=>cg qB Y (aG h.x (mo 1 Y)) (h.get 0 Y) Y h.x) ?_
    refine sy (.agg (kS (⟨0,0⟩:Int×Int))) (λh=>gr (ps:=[]) (us:=[.int .i64 0,.int .i64 0]) vz Y yz gn Y (dT (.lit _ True.intro) (dT (.lit _ True.intro) cM)) h.x) ?_
    refine ao 1 tb (env':=[(6,_),(91,_),(90,_),(89,_),(88,_),(87,_),(10,_),(7,_),(15,_),(72,_),(74,_),(78,_),(80,_)]) Y (kw du (ce (b:=b1) (off:=0) (es:=U2) (news:=U2) V hJ0 lL Y Y Y (lb Y) Y (λa w h=>⟨(h.get 7 Y),(h.get 1 Y)⟩) (ao 1 tb (env':=[(8,_),(6,_),(91,_),(90,_),(89,_),(88,_),(87,_),(10,_),(7,_),(15,_),(72,_),(74,_),(78,_),(80,_)]) Y (aA [0,1,8] U3 Y (nx (tw bO (tw (λh=>dU hS h (m:=1) (s:=6) Y) (aX (λa w h=>pg (cs:=[lI ((⟨0,0⟩:Int×Int).1),lI ((⟨0,0⟩:Int×Int).2)]) (m:=2) (q:=1) (z:=0) Y oC h Y Y (show([lI ((⟨0,0⟩:Int×Int).1),lI ((⟨0,0⟩:Int×Int).2)]:List CD)=[lI (((aZ d z ss).2).1),lI (((aZ d z ss).2).2)]from by rw[eU]) Y (congrArg (λz=>AV.rd (cu z)) (show fs=((aZ d z ss).1)from by rw[eU])) Y (congrArg AV.int (show(0:Int)=dH d z ss from by rw[e0])))))))))))
section
variable {n:Rn} {N:Nat} {P:Program} {J:WP} {S:Nat->Prop} {O A R:List OB} {w0:World} {env:List (Nat×AV)} {Q:Exit->Act->WP} {ι ι1 ι2 κ μ σ:Type}
def pD (A:ι1->List OB) (B:ι2->List OB):ι1 ⊕ ι2->List OB
 | .inl z=>A z
 | .inr s=>B s
def rc (P:Program) (J:WP) (S:Nat->Prop) (w0:World) (f:FuncId) (args:List AV) (O:List OB) (res:ι->AV) (O':ι->List OB) (pv:κ->Value) (jB:κ->List OB):Prop:=
 ∀(R:List OB) (w:World) (vs:List Value),Keeps All w0 w->XO J S w0.heap.size (O++R) w->bi (SO S (O++R)) w args vs->Calls P f vs.toArray w (rh J S w0 R res O' pv jB)
theorem N3 {f:FuncId} {fn:Func} {c:Code} {args:List AV} {res:ι->AV} {O':ι->List OB} {pv:κ->Value} {jB:κ->List OB} (hf:P.funcs[f]?=some fn) (hb:fn.body=some c) (hN:fn.ntmps=N) (hl:args.length<=N)
 (h:∀ R,Tr 5 P (So J S w0 N (O++R) (jq 0 args)) c (bodyPost P fn (rh J S w0 R res O' pv jB))):rc P J S w0 f args O res O' pv jB:=by
 intro R w vs hk Z ha
 obtain⟨g1,g2⟩:=sc hl hN ha
 exact(callsIn_wide (n:=5)).1 (callsIn_of_wp hf hb trivial (h R _ _ ⟨rfl,g1,hk,Z,g2⟩) rfl)
theorem LY {o:Oper} {a:Act} {w:World} {f:FuncId} {args:List Operand} {callee:Operand} {ts:Array TypeId} {am:List AV} {res:ι->AV} {O':ι->List OB} {pv:κ->Value} {jB:κ->List OB} {cap:List Value} {eD:List AV} (hF:rc P J S w0 f (am++eD) O res O' pv jB) (h1:dy P f) (hop:o.op= .call { callee:=.value callee,args:=args.toArray,argTypes:=ts })
 (hk:Keeps All w0 w) (Z:XO J S w0.heap.size (O++R) w) (hc:a.eval callee= .func (.func f) #[] cap.toArray) (ha:bi (SO S (O++R)) w am (args.map a.eval)) (hcap:bi (SO S (O++R)) w eD cap):
 nA n P o a w (λv w'=>∃ i,dc J S w0 (O++R) w (O' i++R) w'/\Rel (SO S (O' i++R)) w' (res i) v) (λch w'=>∃ k,ch=eY (pv k)/\dc J S w0 (O++R) w (jB k++R) w'):=by
 let B:AV->Value->Prop:=λav v=>Rel (SO S (O++R)) w av v
 have hx2:=uZ (B:=B) Z λ_ _ h=>h
 have hsub:∀ k,k<w.heap.size->SO S (O++R) k->All k/\SO S (O++OB.was B::R) k:=λk _ h=>⟨trivial,qP.2 h⟩
 have hcall:=hF (OB.was B::R) w _ hk hx2 (bi.move (Keeps.refl All w) hsub (Il ha hcap))
 refine L7 (f:=f) (args:=(args.map a.eval++cap).toArray) (w1:=w) ?_ (Calls.mono hcall λe w' h=>?_)
 ·have h2:=h1 ((args.map a.eval++cap).toArray) w
  simp only[execOp,hop,resolve,hc,Deferred.ofValue,Sem.run_bind,Sem.run_pure,Result.andThen_ok,invoke]
  rw[<-h2]
  congr 2
  simp
 ·rcases h with⟨i,v,he,hv,hk',hx'⟩ | ⟨k,he,hk',hx'⟩
  ·obtain⟨g1,g2⟩:=q9 hx'
   exact .inl ⟨v,he,i,⟨hk',g1,g2⟩,hv.sub λk _=>qP.1⟩
  ·obtain⟨g1,g2⟩:=q9 hx'
   exact .inr ⟨_,he,k,rfl,⟨hk',g1,g2⟩⟩
theorem IM {ops:Array Oper} {o:Oper} {rest:List Oper} {d:Nat} {f:FuncId} {args:List Operand} {callee:Operand} {ts:Array TypeId} (am:List AV) (cap:List Value) (eD:List AV) {res:ι1 ⊕ ι2->AV} {O':ι1 ⊕ ι2->List OB} {pv:κ->Value} {jB:κ->List OB} (hF:rc P J S w0 f (am++eD) O res O' pv jB) (h1:dy P f) (hg:o.guard=none) (hop:o.op= .call { callee:=.value callee,args:=args.toArray,argTypes:=ts }) (hd:o.dst=some d) (hN:d<N)
 (hc:∀ a w,So J S w0 N (O++R) env a w->a.eval callee= .func (.func f) #[] cap.toArray) (ha:∀ a w,So J S w0 N (O++R) env a w->bi (SO S (O++R)) w am (args.map a.eval)) (hcap:∀ w,bi (SO S (O++R)) w eD cap)
 (od:∀ q a w,So J S w0 N (jB q++R) env a w->Q (.panic (eY (pv q))) a w)
 (stop:∀ s a w,So J S w0 N (O' (.inr s)++R) ((d,res (.inr s))::dP d env) a w->wpListIn n.F n.d P ops Q rest a w)
 (next:∀ z a w,So J S w0 N (O' (.inl z)++R) ((d,res (.inl z))::dP d env) a w->wpListIn n.F n.d P ops Q rest a w):
 ∀ a w,So J S w0 N (O++R) env a w->wpListIn n.F n.d P ops Q (o::rest) a w:=
 VI hg hd hN (λa w h=>LY hF h1 hop h.keep h.x (hc a w h) (ha a w h) (hcap w)) od λi=>by
  cases i with
  | inl z=>exact next z
  | inr s=>exact stop s
theorem Jv {res:ι->AV} {O':ι->List OB} {pv:μ->Value} {O3:μ->List OB} (A:List OB) (q:μ):∀ a w,So J S w0 N (O3 q++(A++R)) env a w->a.defers=[]/\rh J S w0 R res O' pv O3 (.panicked (eY (pv q))) w:=
 λa w h=>Hv q rfl a w (B7 A (yb A h))
theorem WN {res:ι->AV} {O':ι->List OB} {pv:μ->Value} {O3:μ->List OB} (q:μ):∀ a w,So J S w0 N (O3 q++R) env a w->a.defers=[]/\rh J S w0 R res O' pv O3 (.panicked (eY (pv q))) w:=λa w h=>Hv q rfl a w h
def OB.pt (b off:Nat) (cs:List CD):OB where
 blk:=λ_=>False
 inv:=λ_ S w=>Rel S w (.ptr cs) (.pointer (some ⟨b,off,none⟩))
 mv:=λh hk _ hs=>h.move hk hs
 lt:=λ_ _ h=>h.elim
variable {a:Act} {w:World} {b off:Nat} {cs:List CD} {c:Code}
theorem B0 {k:Nat} (hk:SO S O k):SO S (OB.pt b off cs::O) k:=⟨hk.1,λq hq=>by
 rcases mem_cons.1 hq with rfl | hq
 ·exact λh=>h
 ·exact hk.2 q hq⟩
theorem VR (hp:Rel (SO S O) w (.ptr cs) (.pointer (some ⟨b,off,none⟩))) (h:So J S w0 N O env a w):So J S w0 N (OB.pt b off cs::O) env a w:=by
 refine⟨h.defs,h.size,h.keep,⟨h.x.1,λq hq=>?_,.cons (λ_ _ _ hk=>hk.elim) h.x.2.2⟩,λp hm=>⟨(h.env p hm).1,(h.env p hm).2.sub λ_ _ hk=>B0 hk⟩⟩
 rcases mem_cons.1 hq with rfl | hq
 ·exact hp.sub λ_ _ hk=>B0 hk
 ·exact OB.sub (h.x.2.1 q hq) λ_ _ hk=>B0 hk
theorem yf {m s:Nat} (he:env[m]?=some (s,.ptr cs)) (h:∀ b off,Tr n P (So J S w0 N (OB.pt b off cs::O) ((s,.at b off)::dP s env)) c Q):Tr n P (So J S w0 N O env) c Q:=λa w ha=>by
 have hr:=ha.get m he
 have hr':=hr
 simp only[Rel]at hr'
 obtain⟨b,off,us,hv,_⟩:=hr'
 rw[hv]at hr
 have h2:=VR hr ha
 refine h b off a w ⟨h2.defs,h2.size,h2.keep,h2.x,λp hp=>?_⟩
 rcases mem_cons.1 hp with rfl | hp
 ·have h3:a.tmps.getD s undef= .pointer (some ⟨b,off,none⟩):=hv
  refine⟨(ha.env _ (mem_of_getElem? he)).1,?_⟩
  show Rel _ w (.at b off) (a.tmps.getD s undef)
  rw[h3]
  exact Rel.aH _
 ·exact h2.env p (List.mem_filter.1 hp).1
theorem uN {i m s:Nat} (hi:O[i]?=some (OB.pt b off cs)) (he:env[m]?=some (s,.at b off)) (h:So J S w0 N O env a w):So J S w0 N O ((s,.ptr cs)::dP s env) a w:=by
 refine⟨h.defs,h.size,h.keep,h.x,λp hp=>?_⟩
 rcases mem_cons.1 hp with rfl | hp
 ·refine⟨(h.env _ (mem_of_getElem? he)).1,?_⟩
  have h1:Rel (SO S O) w (.ptr cs) (.pointer (some ⟨b,off,none⟩)):=h.x.2.1 _ (mem_of_getElem? hi)
  have h2:a.tmps.getD s undef= .pointer (some ⟨b,off,none⟩):=(h.get m he).lit
  show Rel _ w (.ptr cs) (a.tmps.getD s undef)
  rw[h2]
  exact h1
 ·exact h.env p (List.mem_filter.1 hp).1
end
theorem Gk:u7 prog 122 4 1 (.bool false):=Gj yq yq Y True.intro
end
section
def jl (hs:List Hy) (w:BA):Bool:=hs.any λh=>h.bn&&decide (G h.ac 1=w)
def ci (hs:List Hy) (M:BM):List BA->List BA->Bool×Bool
 | [],t=>(decide (t.length=0),true)
 | w::p,t=>match aw M w with
  | some y=>if y.length<=t.length/\y=t.take y.length then ci hs M p (t.drop y.length)else(false,false)
  | none=>if jl hs w then(true,false)else if t.length=0∨ ¬ G t 0=w then(false,false)else ci hs M p (t.drop 1)
section
variable {hs:List Hy} {M:BM} {p t y p0 t0:List BA} {w:BA} {k:Nat}
theorem sT (hk:k<p.length):p.drop k=G p k::p.drop (k+1):=by rw[cF hk];exact List.drop_eq_getElem_cons hk
theorem Kj (h:ci hs M p0 t0=ci hs M (p.drop k) t) (hk:¬ k<p.length):ci hs M p0 t0=(decide (t.length=0),true):=by
 rw[h,List.drop_eq_nil_of_le oz];rfl
theorem Km (h:ci hs M p0 t0=ci hs M (p.drop k) t) (hk:k<p.length) (hm:aw M (G p k)=some y) (h1:y.length<=t.length) (h2:y=t.take y.length):ci hs M p0 t0=ci hs M (p.drop (k+1)) (t.drop y.length):=by
 rw[h,sT hk,ci,hm];exact if_pos ⟨h1,h2⟩
theorem Ko (h:ci hs M p0 t0=ci hs M (p.drop k) t) (hk:k<p.length) (hm:aw M (G p k)=some y) (h1:¬ (y.length<=t.length/\y=t.take y.length)):ci hs M p0 t0=(false,false):=by
 rw[h,sT hk,ci,hm];exact if_neg h1
theorem Kl (h:ci hs M p0 t0=ci hs M (p.drop k) t) (hk:k<p.length) (hm:aw M (G p k)=none) (hf:jl hs (G p k)=true):ci hs M p0 t0=(true,false):=by
 rw[h,sT hk,ci,hm];exact if_pos hf
theorem Kn (h:ci hs M p0 t0=ci hs M (p.drop k) t) (hk:k<p.length) (hm:aw M (G p k)=none) (hf:jl hs (G p k)=false) (hn:t.length=0∨ ¬ G t 0=G p k):ci hs M p0 t0=(false,false):=by
 rw[h,sT hk,ci,hm];exact(if_neg (by simp[hf])).trans (if_pos hn)
theorem Kk (h:ci hs M p0 t0=ci hs M (p.drop k) t) (hk:k<p.length) (hm:aw M (G p k)=none) (hf:jl hs (G p k)=false) (hn:¬ (t.length=0∨ ¬ G t 0=G p k)):ci hs M p0 t0=ci hs M (p.drop (k+1)) (t.drop 1):=by
 rw[h,sT hk,ci,hm];exact(if_neg (by simp[hf])).trans (if_neg hn)
end
def pN (hs:List Hy) (M:BM) (ac:List BA):Bool:=!(ac.any λw=>!(aw M w).isSome&&jl hs w)
def mG (a b:Bd):Bool:=!Op.bytesLess b.var.toList a.var.toList
def bN (M:BM):List Bd:=(M.map λq=>(⟨q.1,q.2⟩:Bd)).mergeSort mG
def d7 (hs:List Hy) (es:List (List BA)):Nat->BM
 | 0=>[]
 | k+1=>if(G hs k).bn then cn (d7 hs es k) (G (G hs k).ac 1) ((G es k).drop 1)else d7 hs es k
structure Jb where
 d:Db
 i:Nat
 ss:List Stp
 ts:List (List BA)
 M:List (BA×Int)
def mc (hs:List Hy) (M:BM) (es:List (List BA)) (j:Nat):Bool:=(G hs j).bn|| (ci hs M (G hs j).ac (G es j)).1
def fF (j:Jb) (g:Fr) (al:List Int) (step:Nat):Bool:=
 (List.range g.aa.length).all (fg g.aa (bg j.ts al) 0)&& (List.range g.aa.length).all (mc g.aa (d7 g.aa (bg j.ts al) g.aa.length) (bg j.ts al))&& (ci g.aa (d7 g.aa (bg j.ts al) g.aa.length) g.ac (G j.ts step)).1&& !eQ (bN (d7 g.aa (bg j.ts al) g.aa.length)) g.apart j.d.vars (G j.d.ab j.i).wide
def cq (t:List BA):BA:=qr t ⟨#[10]⟩
def je (j:Jb) (hs:List Hy) (step:Nat) (h:Hy) (M:BM):Nat×Nat:=
 if h.bn=false/\pN hs M h.ac=true then
  if ca (az (bN M)) h.ac 2000=true then match aw j.M (cq (bA (az (bN M)) h.ac))with
   | some z=>if z< (step:Int)then(z.toNat,z.toNat+1)else(0,0)
   | none=>(0,0)
  else(0,0)
 else(0,step)
def lJ (j:Jb) (h:Hy) (t:Nat):Bool:=decide (aw j.M (cq (G j.ts t))=some (t:Int))&&decide (G (G j.ts t) 0=G h.ac 0)
def j5 (F:BM->List Int->List (List Int)×BM) (j:Jb) (h:Hy) (al:List Int) (q:List (List Int)×BM) (t:Nat):List (List Int)×BM:=
 if lJ j h t then
  (q.1++(F (if h.bn then cn q.2 (G h.ac 1) ((G j.ts t).drop 1)else q.2) (al++[(t:Int)])).1,
   if h.bn then gX (F (if h.bn then cn q.2 (G h.ac 1) ((G j.ts t).drop 1)else q.2) (al++[(t:Int)])).2 (G h.ac 1)else(F (if h.bn then cn q.2 (G h.ac 1) ((G j.ts t).drop 1)else q.2) (al++[(t:Int)])).2)
 else q
def jy (j:Jb) (g:Fr) (step:Nat):List Hy->BM->List Int->List (List Int)×BM
 | [],M,al=>if(ci g.aa M g.ac (G j.ts step)).1 then(if fF j g al step then [al]else [],M)else([],M)
 | h::hs,M,al=>if(ci g.aa M g.ac (G j.ts step)).1 then(List.range' (je j g.aa step h M).1 ((je j g.aa step h M).2-(je j g.aa step h M).1)).foldl (j5 (jy j g step hs) j h al) ([],M)else([],M)
def ep (j:Jb) (g:Fr) (step k:Nat) (M:BM) (al:List Int):List (List Int)×BM:=jy j g step (g.aa.drop k) M al
def fm (j:Jb) (g:Fr) (step k:Nat) (M:BM) (al:List Int) (a n:Nat):List (List Int)×BM:=(List.range' a n).foldl (j5 (ep j g step (k+1)) j (G g.aa k) al) ([],M)
section
variable {j:Jb} {g:Fr} {step k a n m t:Nat} {M:BM} {al:List Int} {pre xs ys:List (List Int)}
theorem Wx (h:(ci g.aa M g.ac (G j.ts step)).1=false):ep j g step k M al=([],M):=by
 unfold ep
 cases g.aa.drop k<;>simp[jy,h]
theorem Jj (h:(ci g.aa M g.ac (G j.ts step)).1=true) (hk:k=g.aa.length):ep j g step k M al=(if fF j g al step then [al]else [],M):=by
 subst hk
 rw[ep,List.drop_eq_nil_of_le aV,jy,if_pos h]
theorem Ci (h:(ci g.aa M g.ac (G j.ts step)).1=true) (hk:k<g.aa.length):ep j g step k M al=fm j g step k M al (je j g.aa step (G g.aa k) M).1 ((je j g.aa step (G g.aa k) M).2-(je j g.aa step (G g.aa k) M).1):=by
 rw[ep,List.drop_eq_getElem_cons hk,<-cF hk,jy,if_pos h]
 rfl
theorem Cf:fm j g step k M al a 0=([],M):=rfl
theorem uP:fm j g step k M al a (n+1)=j5 (ep j g step (k+1)) j (G g.aa k) al (fm j g step k M al a n) (a+n):=by
 rw[fm,List.range'_concat,List.foldl_append,Nat.one_mul];rfl
theorem UN {F:BM->List Int->List (List Int)×BM} {h:Hy} {q:List (List Int)×BM}:q.1<+:(j5 F j h al q t).1:=by
 unfold j5;split
 ·exact List.prefix_append _ _
 ·exact prefix_refl _
theorem Ws (h:n<=m):(fm j g step k M al a n).1<+:(fm j g step k M al a m).1:=by
 induction m with
 | zero=>obtain rfl:n=0:=oz;exact prefix_refl _
 | succ m ih=>
  rcases Nat.lt_or_ge m n with hm | hm
  ·obtain rfl:n=m+1:=oz;exact prefix_refl _
  ·exact(ih hm).trans (by rw[uP];exact UN)
theorem Wq (h:a+n<m) (ho:lJ j (G g.aa k) (a+n)=true) (hp:pre++(fm j g step k M al a (m-a)).1<+:xs):
 pre++(fm j g step k M al a n).1++(ep j g step (k+1) (if(G g.aa k).bn then cn (fm j g step k M al a n).2 (G (G g.aa k).ac 1) ((G j.ts (a+n)).drop 1)else(fm j g step k M al a n).2) (al++[((a+n:Nat):Int)])).1<+:xs:=by
 have h1:=Ws (j:=j) (g:=g) (step:=step) (k:=k) (M:=M) (al:=al) (a:=a) (n:=n+1) (m:=m-a) oz
 rw[uP,j5,if_pos ho]at h1
 refine List.IsPrefix.trans ?_ hp
 rw[append_assoc]
 obtain⟨r,hr⟩:=h1
 exact⟨r,by rw[append_assoc,hr]⟩
theorem sE (ho:lJ j (G g.aa k) (a+n)=false):fm j g step k M al a (n+1)=fm j g step k M al a n:=by
 rw[uP,j5,if_neg (by simp[ho])]
end
def oJ (j:Jb) (g:Fr) (step:Nat):List (List Int):=(ep j g step 0 [] []).1
def oo (j:Jb) (step:Nat):List bZ:=if(aw j.M (cq (G j.ts step))).getD 0< (step:Int)then [⟨1,step,⟨#[]⟩,[(aw j.M (cq (G j.ts step))).getD 0],0,0⟩]else []
def nQ (j:Jb) (step:Nat) (g:Fr):List bZ:=if 4<g.aa.length then []else(oJ j g step).map λal=>⟨2,step,g.ae,al,0,0⟩
def lv (j:Jb) (step:Nat):List bZ:=(oo j step++(j.d.ab.take j.i).flatMap (nQ j step)).filterMap (f4 j.ss)
def go (ts:List (List BA)):Nat->List (BA×Int)
 | 0=>[]
 | k+1=>cn (go ts k) (cq (G ts (ts.length-1-k))) ((ts.length-1-k:Nat):Int)
def fx (d:Db) (z:Int) (ss:List Stp):Jb:=⟨d,z.toNat,ss,(aZ d z ss).1,go (aZ d z ss).1 (aZ d z ss).1.length⟩
def ns (d:Db) (s:BA):Prop:=s∈d.bL∨s∈d.vars
section
variable {d:Db}
theorem IZ {s:BA} (h:gZ s=true):s.size<=60:=by
 simp only[gZ,Bool.and_eq_true,decide_eq_true_eq]at h
 omega
theorem I2 (h:ed d=0):∀ s,ns d s->s.size<=60:=by
 unfold ed at h
 split at h
 ·rename_i h2
  rw[h]at h2
  simp at h2
 ·rename_i h2
  have h2:fZ d.bL.length (gP d)=0:=by simpa using h2
  rintro s (hs | hs)
  ·obtain⟨j,hj,rfl⟩:=ej hs
   have h3:=lV h2 j hj
   unfold gP at h3
   cases h4:gZ (G d.bL j)with
   | true=>exact IZ h4
   | false=>rw[h4]at h3;cases h3
  ·obtain⟨j,hj,rfl⟩:=ej hs
   have h3:=lV h j hj
   unfold iZ at h3
   cases h4:gZ (G d.vars j)with
   | true=>exact IZ h4
   | false=>rw[h4]at h3;cases h3
theorem ER {l:List BA} (h:iN d l=0):∀ s∈l,ns d s:=by
 unfold iN rB at h
 split at h
 ·rename_i h1
  simp only[Bool.and_eq_true,decide_eq_true_eq,all_eq_true,mem_range,Bool.or_eq_true,fP]at h1
  intro s hs
  obtain⟨j,hj,rfl⟩:=ej hs
  rcases h1.2 j hj with rfl | h2
  ·exact .inl h1.1
  ·exact h2
 ·cases h
theorem PY {k:Nat} {y:Hy} {bs:List Hy} {dm:Bool} (h:eX d k y bs dm=0):∀ s∈y.ac,ns d s:=by
 have h1:=rV h
 unfold eX at h
 split at h
 ·cases h
 split at h
 ·cases h
 split at h
 ·cases h
 split at h
 ·cases h
 rename_i h4
 cases hf:y.bn with
 | true=>
  have h5:=iz h1 hf
  simp[oO,hf]at h4
  match y.ac,h5,h4 with
  | [a,b],_,h4=>
   intro s hs
   simp only[mem_cons,List.not_mem_nil,or_false]at hs
   rcases hs with rfl | rfl
   ·exact .inl h4.1
   ·exact .inr h4.2
 | false=>
  split at h
  ·rename_i h5
   rw[h]at h5
   simp at h5
  ·rename_i h5
   simp only[hf,Bool.not_false,Bool.true_and,Bool.not_eq_true',decide_eq_false_iff_not,Decidable.not_not]at h5
   exact ER h5
theorem yY (h:dG d=0):∀ g∈d.ab,(∀ y∈g.aa++g.bB,∀ s∈y.ac,ns d s)/\∀ s∈g.ac,ns d s:=λg hg=>by
 obtain⟨k,hk,rfl⟩:=ej hg
 have h:=pR h k hk
 unfold dI fd at h
 split at h
 ·cases h
 split at h
 ·cases h
 split at h
 ·cases h
 split at h
 ·rename_i h2
  rw[h]at h2
  simp at h2
 rename_i h3
 have h3:lE d k=0:=by simpa using h3
 split at h
 ·cases h
 split at h
 ·rename_i h2
  rw[h]at h2
  simp at h2
 rename_i h5
 refine⟨λy hy=>?_,ER (by simpa using h5)⟩
 obtain⟨j,hj,rfl⟩:=ej hy
 exact PY (lV h3 j hj)
theorem CT {p:BA->Prop} {l:List Bd} {ac:List BA} (hl:∀ b∈l,∀ s∈b.ac,p s) (ht:∀ s∈ac,p s):∀ s∈bA (az l) ac,p s:=λs hs=>by
 obtain⟨w,hw,h1⟩:=List.mem_flatMap.1 hs
 unfold bp at h1
 rw[qx]at h1
 cases hf:l.find? λb=>decide (b.var=w)with
 | none=>
  rw[hf]at h1
  obtain rfl:s=w:=by simpa using h1
  exact ht _ hw
 | some b=>
  rw[hf]at h1
  exact hl b (mem_of_find?_eq_some hf) s h1
theorem Ke {p:BA->Prop} {hs:List Hy} {es:List (List BA)} {n:Nat} (hn:n<=es.length) (h:∀ t∈es,∀ s∈t,p s):∀ b∈bP hs es 0 n,∀ s∈b.ac,p s:=λb hb s hs'=>by
 obtain⟨j,hj,h1⟩:=List.mem_filterMap.1 hb
 have hj:=mem_range.1 hj
 unfold kU at h1
 split at h1
 ·obtain rfl:=Option.some.inj h1
  rw[Nat.zero_add]at hs'
  exact h _ (aE oz) s (List.mem_of_mem_drop hs')
 ·cases h1
theorem VZ (dY:dG d=0) {i:Nat} (hi:i<d.ab.length) {s:Stp} {a:List (List BA)} (ha:∀ t∈a,∀ w∈t,ns d w) (hg:∀ x∈s.args,x.toNat<a.length):∀ w∈(cv d i s a).1,ns d w:=by
 unfold cv
 split
 ·intro w hw;cases hw
 split
 ·rename_i h he
  split
  ·intro w hw;cases hw
  ·exact(yY dY _ (aE hi)).1 h (mem_of_find?_eq_some he)
 split
 ·intro w hw;cases hw
 split
 ·intro w hw;cases hw
 rename_i h1 h2
 have h3:=vh (d:=d) (i:=i) (s:=s.ae) oz
 have h4:=yY dY _ (aE h3.2.2)
 have h5:∀ t∈bg a s.args,∀ w∈t,ns d w:=λt ht=>by
  obtain⟨x,Z,rfl⟩:=mem_map.1 ht
  exact ha _ (aE (hg x Z))
 unfold de kQ
 split
 ·rename_i t he
  split at he
  ·cases he
  split at he
  ·cases he
  split at he
  ·cases he
  split at he
  ·cases he
  ·obtain rfl:=Except.ok.inj he
   exact CT (Ke (by simp[bg];omega) h5) h4.2
 ·intro w hw;cases hw
theorem zK (dY:dG d=0) {i:Nat} (hi:i<d.ab.length) {ss:List Stp} (bw:ey ss):∀ k,k<=ss.length->∀ t∈dL d i ss k,∀ w∈t,ns d w
 | 0,_=>λt ht=>by cases ht
 | k+1,hk=>λt ht=>by
  rw[dL]at ht
  rcases mem_append.1 ht with ht | ht
  ·exact zK dY hi bw k oz t ht
  ·obtain rfl:=mem_singleton.1 ht
   refine VZ dY hi (zK dY hi bw k oz) λx Z=>?_
   have h1:=(bw.2.2 k oz).2 x (by rw[<-cF (show k<ss.length by omega)];exact Z)
   rw[lx];omega
end
theorem FZ {n:Nat} {sep:List UInt8}:∀ {l:List (List UInt8)},(∀ x∈l,x.length<=n)->(Lib.join l sep).length<=l.length*(n+sep.length)
 | [],_=>by simp[Lib.join]
 | [x],h=>by have:=h x yz;simp[Lib.join,List.intercalate];omega
 | x::y::l,h=>by
  have h1:=h x yz
  have h2:=FZ (sep:=sep) (l:=y::l) λz hz=>h z (mem_cons_of_mem _ hz)
  have h3:Lib.join (x::y::l) sep=x++sep++Lib.join (y::l) sep:=by simp[Lib.join,List.intercalate,List.intersperse]
  rw[h3,length_append,length_append,length_cons (a:=x),Nat.add_mul]
  omega
theorem Qm {t:List BA} (h:∀ s∈t,s.size<=60):(Lib.join (t.map (·.data.toList)) (⟨#[10]⟩:BA).data.toList).length<=t.length*61:=by
 have h1:∀ x∈t.map (·.data.toList),x.length<=60:=λx Z=>by
  obtain⟨s,hs,rfl⟩:=mem_map.1 Z
  exact h s hs
 have:=FZ (sep:=(⟨#[10]⟩:BA).data.toList) h1
 simpa using this
def pF (l:List Bd):Prop:=l.Pairwise λa b=>dS b.var a.var<0->False
theorem Wm {x y:BA} (h:x.toList=y.toList):x=y:=by
 have:=s5 (x:=x) (y:=y)
 refine this.1 ?_
 unfold dS
 rw[h,if_neg (by rw[pO];simp)]
 by_cases e:x=y
 ·exact if_pos e
 ·have h2:=rn x y
  simp_all
theorem C6:∀ {l m:List Bd},l.Perm m->(l.map Bd.var).Nodup->pF l->pF m->l=m
 | [],m,hp,_,_,_=>by rw[List.nil_perm.1 hp]
 | a::l,[],hp,_,_,_=>by simp at hp
 | a::l,b::m,hp,hn,hl,hm=>by
  have h1:a=b:=by
   rcases mem_cons.1 (hp.mem_iff.1 (List.mem_cons_self (a:=a)))with h | h
   ·exact h
   ·rcases mem_cons.1 (hp.mem_iff.2 (List.mem_cons_self (a:=b)))with h2 | h2
    ·exact h2.symm
    ·have h3:=(pairwise_cons.1 hl).1 b h2
     have h4:=(pairwise_cons.1 hm).1 a h
     rw[pU]at h3 h4
     have h5:=Wm (rl _ _ (by simpa using h4) (by simpa using h3))
     rw[List.map_cons,nodup_cons]at hn
     exact absurd (List.mem_map_of_mem (f:=Bd.var) h2) (by rw[<-h5];exact hn.1)
  subst h1
  rw[List.map_cons,nodup_cons]at hn
  rw[C6 (hp.cons_inv) hn.2 (pairwise_cons.1 hl).2 (pairwise_cons.1 hm).2]
theorem Kc (a b c:Bd) (h1:mG a b=true) (h2:mG b c=true):mG a c=true:=by
 simp only[mG,Bool.not_eq_true']at h1 h2 ⊢
 cases h3:Op.bytesLess c.var.toList a.var.toList with
 | false=>rfl
 | true=>
  rcases hb:Op.bytesLess b.var.toList c.var.toList with _ | _
  ·have:=rl _ _ hb h2
   rw[this]at h1
   rw[h1]at h3;cases h3
  ·have:=pP _ _ _ hb h3
   rw[h1]at this;cases this
theorem Kb (a b:Bd):(mG a b||mG b a)=true:=by
 simp only[mG]
 cases h1:Op.bytesLess b.var.toList a.var.toList with
 | false=>simp
 | true=>
  cases h2:Op.bytesLess a.var.toList b.var.toList with
  | false=>simp
  | true=>have:=pP _ _ _ h1 h2;rw[pO]at this;cases this
theorem AY (M:BM):(bN M).Perm (M.map λq=>(⟨q.1,q.2⟩:Bd)):=List.mergeSort_perm _ _
theorem Q1 (M:BM):pF (bN M):=by
 have:=List.pairwise_mergeSort (le:=mG) Kc Kb (M.map λq=>(⟨q.1,q.2⟩:Bd))
 refine this.imp λ{a b} h h2=>?_
 rw[pU]at h2
 simp[mG,h2]at h
theorem Q0 {M:BM} {qs:List Bd} (hn:(M.map Prod.fst).Nodup) (hp:qs.Perm (M.map λq=>(⟨q.1,q.2⟩:Bd))) (hw:pF qs):qs=bN M:=by
 refine C6 (hp.trans (AY M).symm) ?_ hw (Q1 M)
 have h1:=(hp.map Bd.var).nodup_iff
 rw[h1,map_map]
 exact hn
theorem QZ {M:BM} (hn:(M.map Prod.fst).Nodup) (s:BA):aw (az (bN M)) s=aw M s:=by
 rw[qx]
 have hperm:=AY M
 have d8:((bN M).map Bd.var).Nodup:=by
  rw[(hperm.map Bd.var).nodup_iff,map_map];exact hn
 cases hf:aw M s with
 | none=>
  rw[List.find?_eq_none.2,Option.map_none]
  intro b hb hs
  have hs:b.var=s:=by simpa using hs
  obtain⟨q,hq,rfl⟩:=mem_map.1 (hperm.mem_iff.1 hb)
  have h1:=lH M s
  rw[hf]at h1
  have:s∈M.map (·.1):=by rw[<-hs];exact List.mem_map_of_mem (f:=Prod.fst) hq
  simp[this]at h1
 | some t=>
  have hm:(s,t)∈M:=by
   unfold aw at hf
   cases h1:M.find? λp=>decide (s=p.1)with
   | none=>rw[h1]at hf;cases hf
   | some p=>
    rw[h1]at hf
    have h2:=mem_of_find?_eq_some h1
    have h3:=List.find?_some h1
    have h3:s=p.1:=by simpa using h3
    obtain rfl:p.2=t:=by simpa using hf
    rw[h3];exact h2
  have hb:(⟨s,t⟩:Bd)∈bN M:=hperm.mem_iff.2 (mem_map.2 ⟨(s,t),hm,rfl⟩)
  cases hg:(bN M).find? λb=>decide (b.var=s)with
  | none=>
   have:=List.find?_eq_none.1 hg _ hb
   simp at this
  | some b=>
   have h2:=mem_of_find?_eq_some hg
   have h3:b.var=s:=by simpa using List.find?_some hg
   obtain⟨i,hi,rfl⟩:=List.getElem_of_mem h2
   obtain⟨j,hj,he⟩:=List.getElem_of_mem hb
   have h4:i=j:=by
    refine(List.getElem_inj (i:=i) (j:=j) (h₀:=by simpa using hi) (h₁:=by simpa using hj) d8).1 ?_
    rw[getElem_map,getElem_map,h3,he]
   subst h4
   rw[he];rfl
def iv {α:Type} [Inhabited α] (xs:List α):List (Nat×α):=(List.range xs.length).map λk=>(xs.length-1-k,G xs (xs.length-1-k))
section
variable {α:Type} [Inhabited α] {xs:List α} {k:Nat} {pre:List (Nat×α)} {x:Nat×α}
theorem sU:(iv xs).length=xs.length:=by simp[iv]
theorem yQ (h:k<xs.length):(iv xs).take k++[(xs.length-1-k,G xs (xs.length-1-k))]=(iv xs).take (k+1):=by
 rw[List.take_succ_eq_append_getElem (by rw[sU];exact h)]
 simp[iv]
theorem Di (h:k<xs.length):(iv xs).take k++[(xs.length-1-k,G xs (xs.length-1-k))]<+:iv xs:=by
 rw[yQ h];exact List.take_prefix _ _
theorem Dg:(iv xs).take xs.length=iv xs:=List.take_of_length_le (by rw[sU];exact Nat.le_refl _)
theorem Dh (h:(pre++[x])<+:iv xs):pre.length<xs.length/\x.1=xs.length-1-pre.length/\x.2=G xs x.1:=by
 obtain⟨r,hr⟩:=h
 have h1:pre.length< (iv xs).length:=by rw[<-hr];simp
 rw[sU]at h1
 have h2:(iv xs)[pre.length]?=some x:=by rw[<-hr,append_assoc,List.getElem?_append_right aV];simp
 have h3:(iv xs)[pre.length]?=some (xs.length-1-pre.length,G xs (xs.length-1-pre.length)):=by
  simp[iv,h1]
 rw[h3]at h2
 obtain rfl:=Option.some.inj h2
 exact⟨h1,rfl,rfl⟩
end
section
variable {ss:List Stp} {k q:Nat} {m:List Bool} {to:List Int} {al:List Int}
theorem Gi (h:q<al.length):(iU m (al.take q)).set (G al q).toNat true=iU m (al.take (q+1)):=by
 rw[iU,iU,EM h]
theorem A0 (h:G m k=true) (hq:q=(G ss k).args.length):iU m ((G ss k).args.take q)=lG ss m k:=by
 rw[lG,if_pos h,hq,take_length]
theorem A9 (h:G m k=false):lG ss m k=m:=by rw[lG,if_neg (by simp[h])]
theorem y5 (h:k<m.length):gO (m.take (k+1))=gO (m.take k)+(if G m k then 1 else 0):=by
 rw[gO,gO,dF h,List.filter_append,length_append]
 cases G m k<;>simp
theorem LK (h:k=m.length):gO (m.take k)=gO m:=by rw[h,take_length]
theorem Ht (h:q<al.length):mj to (al.take q)++[G to (G al q).toNat]=mj to (al.take (q+1)):=by
 rw[mj,mj,dF h,List.map_append];rfl
theorem uy (h:G m k=false):et ss m (k+1)=et ss m k:=by rw[et,if_neg (by simp[h])]
theorem uz (h:G m k=true):et ss m (k+1)=((et ss m k).1.set k ((et ss m k).2.length:Int),(et ss m k).2++[⟨(G ss k).ae,mj ((et ss m k).1.set k ((et ss m k).2.length:Int)) (G ss k).args⟩]):=by rw[et,if_pos h]
theorem xu (ss:List Stp) (m:List Bool):∀ k,(et ss m k).1.length=ss.length/\(et ss m k).2.length<=k
 | 0=>by simp[et]
 | k+1=>by
  have:=xu ss m k
  rw[et];split
  ·simp;omega
  ·omega
end
theorem un {ss:List Stp} (h:ey ss) {k:Nat} {s:Stp} (hs:s.args.length<=40/\∀ a∈s.args,0<=a/\a< (k:Int)):ey (ss.set k s):=by
 refine⟨by simpa using h.1,by simpa using h.2.1,λi hi=>?_⟩
 rw[List.getElem_set]
 split
 ·rename_i e;subst e;exact hs
 ·exact h.2.2 i (by simpa using hi)
theorem RN {ss:List Stp} (h:ey ss) {f:Stp->Stp} (hf:∀ i (hi:i<ss.length),(f ss[i]).args.length<=40/\∀ a∈(f ss[i]).args,0<=a/\a< (i:Int)):ey (ss.map f):=by
 refine⟨by simpa using h.1,by simpa using h.2.1,λi hi=>?_⟩
 rw[getElem_map]
 exact hf i (by simpa using hi)
theorem Bj {ss:List Stp} (h:ey ss) {k:Nat} (h0:1<=k):ey (ss.take k):=by
 have h1:=h.1
 have h2:=h.2.1
 refine⟨by rw[length_take];omega,by rw[length_take];omega,λi hi=>?_⟩
 rw[List.getElem_take]
 exact h.2.2 i (by rw[length_take]at hi;omega)
theorem GN {ss:List Stp} (h:ey ss) {c:bZ} (h0:0<=G c.args 0) (h1:G c.args 0<c.step):ey (ss.map (jM c)):=by
 refine RN h λi hi=>?_
 obtain⟨h2,h3⟩:=h.2.2 i hi
 refine⟨by simpa [jM]using h2,λa ha=>?_⟩
 obtain⟨b,hb,rfl⟩:=mem_map.1 ha
 have h4:=h3 b hb
 split
 ·rename_i e;omega
 ·exact h4
def qY:BA:=⟨#[124,45]⟩
def wA (c:UInt8):BA:=⟨#[c]⟩
def tk (ae to:UInt8) (fr:List UInt8) (thm:Bool):Fr:=⟨wA ae,thm,fr.map λs=>⟨⟨#[ae,s]⟩,false,[qY,wA s]⟩,[],[qY,wA to],[],[],[]⟩
def jH:Db:=⟨[qY,wA 112,wA 113,wA 114],[],[tk 97 112 [] false,tk 98 113 [112] false,tk 99 114 [113] false,tk 100 113 [114] false,tk 116 113 [] true]⟩
def jh:List Stp:=[⟨wA 97,[]⟩,⟨wA 98,[0]⟩,⟨wA 99,[1]⟩,⟨wA 100,[2]⟩]
theorem M8:dH jH 4 jh=0:=by decide+kernel
theorem Ec:aZ jH 4 jh=([[qY,wA 112],[qY,wA 113],[qY,wA 114],[qY,wA 113]],(0,0)):=by decide+kernel
theorem Nc:cQ jH 4 jh=0:=by rw[cQ,if_pos M8,Ec];rfl
theorem Nd:oo (fx jH 4 jh) 3=[⟨1,3,⟨#[]⟩,[1],0,0⟩]:=by
 have h:(aw (fx jH 4 jh).M (cq (G (fx jH 4 jh).ts 3))).getD 0=1:=by
  simp only[fx,Ec];decide+kernel
 rw[oo,h];rfl
theorem Na:f4 jh ⟨1,3,⟨#[]⟩,[1],0,0⟩=some ⟨1,3,⟨#[]⟩,[1],4,2⟩:=by
 have h1:dd jh=4:=by decide+kernel
 have h2:(cw jh ⟨1,3,⟨#[]⟩,[1],0,0⟩).length=2:=by decide+kernel
 rw[f4,ii,h1,h2];rfl
theorem Nb:∃ l,lv (fx jH 4 jh) 3=⟨1,3,⟨#[]⟩,[1],4,2⟩::l:=by
 have h:f4 (fx jH 4 jh).ss ⟨1,3,⟨#[]⟩,[1],0,0⟩=some ⟨1,3,⟨#[]⟩,[1],4,2⟩:=Na
 rw[lv,Nd,List.singleton_append,List.filterMap_cons,h]
 exact⟨_,rfl⟩
section
variable {ts:List (List BA)} {s:BA} {z:Int} {i:Nat}
theorem El:∀ k,k<=ts.length->∀ z,aw (go ts k) s=some z->ts.length-k<=z.toNat/\0<=z/\z< (ts.length:Int)/\cq (G ts z.toNat)=s/\∀ j,ts.length-k<=j->j<z.toNat->cq (G ts j)≠s
 | 0,_,z,h=>by cases h
 | k+1,hk,z,h=>by
  rw[go,k8]at h
  split at h
  ·rename_i e
   obtain rfl:=Option.some.inj h
   refine⟨oz,oz,oz,?_,λj h1 h2=>by omega⟩
   rw[e];rfl
  ·rename_i e
   obtain⟨h1,h2,h3,h4,h5⟩:=El k oz z h
   refine⟨oz,h2,h3,h4,λj h6 h7=>?_⟩
   by_cases h8:j=ts.length-1-k
   ·rw[h8];exact λe2=>e e2.symm
   ·exact h5 j oz h7
theorem Em:∀ k,k<=ts.length->∀ i,ts.length-k<=i->i<ts.length->∃ z,aw (go ts k) (cq (G ts i))=some z/\z<=(i:Int)
 | 0,_,i,h1,h2=>by omega
 | k+1,hk,i,h1,h2=>by
  rw[go]
  by_cases e:cq (G ts i)=cq (G ts (ts.length-1-k))
  ·exact⟨_,by rw[k8,if_pos e],oz⟩
  ·have h3:¬ i=ts.length-1-k:=λh=>e (by rw[h])
   obtain⟨z,hz,hl⟩:=Em k oz i oz h2
   exact⟨z,by rw[k8,if_neg e];exact hz,hl⟩
theorem Ek (h:aw (go ts ts.length) s=some z):0<=z/\z< (ts.length:Int)/\cq (G ts z.toNat)=s/\∀ j,j<z.toNat->cq (G ts j)≠s:=by
 obtain⟨_,h2,h3,h4,h5⟩:=El ts.length aV z h
 exact⟨h2,h3,h4,λj hj=>h5 j oz hj⟩
theorem Nl (h:i<ts.length):∃ z,aw (go ts ts.length) (cq (G ts i))=some z/\0<=z/\z<=(i:Int):=by
 obtain⟨z,hz,hl⟩:=Em ts.length aV i oz h
 exact⟨z,hz,(Ek hz).1,hl⟩
end
section
variable {j:Jb} {hs:List Hy} {step t:Nat} {h:Hy} {M:BM}
theorem IL (hm:∀ s z,aw j.M s=some z->0<=z):(je j hs step h M).2<=step:=by
 unfold je
 split
 ·split
  ·split
   ·split
    ·rename_i z he h1
     have:=hm _ _ he
     dsimp only;omega
    ·exact Nat.zero_le _
   ·exact Nat.zero_le _
  ·exact Nat.zero_le _
 ·exact Nat.le_refl _
end
section
variable {ss:List Stp} {m:List Bool} {i k:Nat}
theorem Ol {l:List Bool} {a i:Nat}:G (l.set a true) i=(G l i||decide (a=i/\i<l.length)):=by
 simp only[G,getD_eq_getElem?_getD,List.getElem?_set]
 by_cases h:a=i
 ·subst h
  by_cases h2:a<l.length
  ·simp[h2]
  ·simp[h2]
 ·simp[h]
theorem Gm:∀(al:List Int) (m:List Bool),G (iU m al) i=(G m i||decide (i∈al.map Int.toNat/\i<m.length))
 | [],m=>by simp[iU]
 | a::al,m=>by
  rw[iU,List.foldl_cons]
  have h:=Gm al (m.set a.toNat true)
  rw[iU]at h
  rw[h,Ol,length_set,List.map_cons]
  by_cases h1:a.toNat=i
  ·subst h1
   by_cases h2:a.toNat<m.length<;>simp[h2]
  ·have h3:¬ i=a.toNat:=λe=>h1 e.symm
   simp[h1,h3]
theorem LO (m:List Bool):gO m=((List.range m.length).filter λi=>G m i).length:=by
 have key:∀ n,n<=m.length->gO (m.take n)=((List.range n).filter λi=>G m i).length:=by
  intro n
  induction n with
  | zero=>intro _;rfl
  | succ n ih=>
   intro hn
   rw[y5 oz,ih oz,List.range_succ,List.filter_append,length_append]
   cases h:G m n<;>simp[h]
 have:=key m.length aV
 rwa [take_length]at this
end
def sw (m:List Bool) (k:Nat):Nat:=((List.range k).filter λi=>G m i).length
section
variable {ss:List Stp} {m:List Bool} {i j k:Nat}
theorem Is:sw m (k+1)=sw m k+(if G m k then 1 else 0):=by
 rw[sw,sw,List.range_succ,List.filter_append,length_append]
 cases h:G m k<;>simp[h]
theorem wr {α:Type} [Inhabited α] {l r:List α} (h:i<l.length):G (l++r) i=G l i:=by
 simp only[G,getD_eq_getElem?_getD,List.getElem?_append_left h]
theorem EW {α:Type} [Inhabited α] {l:List α} {x:α}:G (l++[x]) l.length=x:=by
 simp[G,getD_eq_getElem?_getD]
theorem Oj {l:List Int} {x:Int} (h:¬ i=j):G (l.set i x) j=G l j:=by
 simp only[G,getD_eq_getElem?_getD]
 rw[List.getElem?_set_ne h]
theorem Hu (hl:m.length=ss.length):∀ k,k<=ss.length->(et ss m k).2.length=sw m k/\∀ i,i<k->G m i=true->G (et ss m k).1 i=(sw m i:Int)
 | 0,_=>⟨rfl,λi hi=>by omega⟩
 | k+1,hk=>by
  obtain⟨h1,h2⟩:=Hu hl k oz
  cases h:G m k with
  | false=>
   rw[uy h,Is,h]
   refine⟨by simpa using h1,λi hi nZ=>h2 i ?_ nZ⟩
   rcases Nat.lt_or_ge i k with h3 | h3
   ·exact h3
   ·rw[show i=k by omega,h]at nZ;cases nZ
  | true=>
   rw[uz h,Is,h]
   refine⟨by simp[h1],λi hi nZ=>?_⟩
   dsimp only
   by_cases e:k=i
   ·subst e
    rw[cF (by rw[length_set,(xu ss m k).1];omega),List.getElem_set_self,h1]
   ·rw[Oj e]
    exact h2 i oz nZ
end
section
variable {ss:List Stp} {i j:Nat}
theorem TR (ss:List Stp):(jt ss).length=dd ss:=by
 rw[jt,(Hu (xg ss) ss.length aV).1,dd,LO,xg];rfl
end
theorem yK {hs:List Hy} {M:BM} (h:∀ w,jl hs w=true->(aw M w).isSome=true):∀ p t:List BA,(ci hs M p t).1=decide (bA M p=t)
 | [],t=>by
  cases t<;>simp[ci,bA]
 | w::p,t=>by
  have hc:bA M (w::p)=bp M w++bA M p:=by simp[bA]
  rw[ci,hc]
  cases hm:aw M w with
  | some y=>
   have hi:bp M w=y:=by rw[bp,hm]
   rw[hi]
   dsimp only
   split
   ·rename_i h1
    rw[yK h p]
    refine decide_eq_decide.2 ⟨λe=>?_,λe=>?_⟩
    ·rw[e]
     conv=>lhs;lhs;rw[h1.2]
     exact List.take_append_drop _ _
    ·rw[<-e,List.drop_left]
   ·rename_i h1
    symm
    rw[decide_eq_false_iff_not]
    intro e
    exact h1 ⟨by rw[<-e,length_append];omega,by rw[<-e,List.take_left]⟩
  | none=>
   have hf:jl hs w=false:=by
    cases h2:jl hs w with
    | false=>rfl
    | true=>have:=h w h2;rw[hm]at this;cases this
   have hi:bp M w=[w]:=by rw[bp,hm]
   rw[hi]
   dsimp only
   rw[if_neg (by simp[hf])]
   split
   ·rename_i h1
    symm
    rw[decide_eq_false_iff_not]
    intro e
    rcases h1 with h1 | h1
    ·rw[<-e]at h1;simp at h1
    ·exact h1 (by rw[<-e];rfl)
   ·rename_i h1
    rw[yK h p]
    match t,h1 with
    | [],h1=>exact absurd (.inl rfl) h1
    | x::t,h1=>
     have h2:x=w:=Decidable.byContradiction λh3=>h1 (.inr h3)
     subst h2
     simp
section
variable {hs:List Hy} {es:List (List BA)} {k:Nat}
def zh (hs:List Hy):Prop:=∀ i j,i<j->j<hs.length->(G hs i).bn=true->(G hs j).bn=true->G (G hs i).ac 1≠G (G hs j).ac 1
theorem Kf {b:Bd}:∀ k,b∈bP hs es 0 k->∃ i,i<k/\(G hs i).bn=true/\b.var=G (G hs i).ac 1/\b.ac=(G es i).drop 1:=λk hb=>by
 obtain⟨i,hi,h1⟩:=List.mem_filterMap.1 hb
 unfold kU at h1
 split at h1
 ·rename_i h2
  obtain rfl:=Option.some.inj h1
  exact⟨i,mem_range.1 hi,h2,rfl,by rw[Nat.zero_add]⟩
 ·cases h1
theorem EZ (hd:zh hs) (s:BA):∀ k,k<=hs.length->aw (d7 hs es k) s=aw (az (bP hs es 0 k)) s
 | 0,_=>rfl
 | k+1,hk=>by
  have ih:=EZ hd s k oz
  rw[d7,sS]
  unfold kU
  split
  ·rename_i hf
   simp only[Option.toList]
   rw[C9,nI,Nat.zero_add]
   have hn:aw (az (bP hs es 0 k)) (G (G hs k).ac 1)=none:=by
    rw[qx,List.find?_eq_none.2,Option.map_none]
    intro b hb hv
    obtain⟨i,hi,h1,h2,_⟩:=Kf k hb
    have h3:b.var=G (G hs k).ac 1:=by simpa using hv
    exact hd i k hi oz h1 hf (h2.symm.trans h3)
   rw[if_neg (by simp[hn]),k8,k8,ih]
  ·simpa using ih
theorem FR {M M':BM} (h:∀ s,aw M s=aw M' s):bp M=bp M':=by
 funext s;rw[bp,bp,h]
theorem J1 {M M':BM} (h:∀ s,aw M s=aw M' s):bA M=bA M':=by
 funext t;rw[bA,bA,FR h]
theorem Ks {l l':List Bd} (h:∀ s,aw (az l) s=aw (az l') s) (ap us:_) (wd:List Pr):eQ l ap us wd=eQ l' ap us wd:=by
 unfold eQ jS fi
 rw[FR h]
end
section
variable {hs:List Hy} {es:List (List BA)} {w:BA} {i k:Nat}
theorem wB:∀ k,((d7 hs es k).map Prod.fst).Nodup
 | 0=>List.nodup_nil
 | k+1=>by
  have ih:=wB k
  rw[d7]
  split
  ·have h:=Gz (d7 hs es k) (G (G hs k).ac 1) ((G es k).drop 1)
   rw[show(λx:BA×List BA=>x.1)=Prod.fst from rfl]at h
   rw[h]
   split
   ·exact ih
   ·rename_i h1
    rw[List.nodup_append]
    exact⟨ih,by simp,λa ha b hb e=>h1 (by rw[<-mem_singleton.1 hb,<-e];exact ha)⟩
  ·exact ih
theorem E0:∀ k,i<k->(G hs i).bn=true->(aw (d7 hs es k) (G (G hs i).ac 1)).isSome=true
 | 0,h,_=>by omega
 | k+1,h,hf=>by
  rw[d7]
  by_cases e:i=k
  ·subst e
   rw[if_pos hf,k8,if_pos rfl];rfl
  ·have ih:=E0 k oz hf
   split
   ·rw[k8]
    split
    ·rfl
    ·exact ih
   ·exact ih
theorem Oq (h:jl hs w=true):(aw (d7 hs es hs.length) w).isSome=true:=by
 obtain⟨y,hy,h1⟩:=List.any_eq_true.1 h
 obtain⟨i,hi,rfl⟩:=ej hy
 simp only[Bool.and_eq_true,decide_eq_true_eq]at h1
 rw[<-h1.2]
 exact E0 _ hi h1.1
end
theorem On {j:Jb} {g:Fr} {al:List Int} {step:Nat} (hd:zh g.aa) (ht:(G j.ts step).length<=2000):
 fF j g al step=decide (de j.d.vars (G j.d.ab j.i).wide g (bg j.ts al)=(G j.ts step,0)):=by
 have hm:∀ s,aw (d7 g.aa (bg j.ts al) g.aa.length) s=aw (az (bP g.aa (bg j.ts al) 0 g.aa.length)) s:=λs=>EZ hd s _ aV
 have hl:∀ s,aw (az (bN (d7 g.aa (bg j.ts al) g.aa.length))) s=aw (az (bP g.aa (bg j.ts al) 0 g.aa.length)) s:=λs=>(QZ (wB _) s).trans (hm s)
 have hb:∀ p t,(ci g.aa (d7 g.aa (bg j.ts al) g.aa.length) p t).1=decide (bA (az (bP g.aa (bg j.ts al) 0 g.aa.length)) p=t):=λp t=>by
  rw[yK (λw hw=>Oq hw),J1 hm]
 have hh:mc g.aa (d7 g.aa (bg j.ts al) g.aa.length) (bg j.ts al)=jK g.aa (bg j.ts al) 0 (bP g.aa (bg j.ts al) 0 g.aa.length):=by
  funext k
  rw[mc,jK,hb,lW,Nat.zero_add]
 rw[fF,hh,hb,Ks hl]
 unfold de kQ
 cases(List.range g.aa.length).all (fg g.aa (bg j.ts al) 0)with
 | false=>simp
 | true=>
  cases(List.range g.aa.length).all (jK g.aa (bg j.ts al) 0 (bP g.aa (bg j.ts al) 0 g.aa.length))with
  | false=>simp
  | true=>
   cases Fs:ca (az (bP g.aa (bg j.ts al) 0 g.aa.length)) g.ac 2000 with
   | false=>
    have h1:¬ bA (az (bP g.aa (bg j.ts al) 0 g.aa.length)) g.ac=G j.ts step:=λe=>by
     rw[ca,e,decide_eq_false_iff_not]at Fs
     exact Fs ht
    simp[h1]
   | true=>
    cases eQ (bP g.aa (bg j.ts al) 0 g.aa.length) g.apart j.d.vars (G j.d.ab j.i).wide with
    | false=>simp
    | true=>simp
theorem PX {d:Db} {k:Nat} {y:Hy} {bs:List Hy} {dm:Bool} (h:eX d k y bs dm=0) (hf:y.bn=true):bs.any (ik y)=false:=by
 unfold eX at h
 split at h
 ·cases h
 split at h
 ·cases h
 split at h
 ·cases h
 split at h
 ·cases h
 split at h
 ·rename_i h5
  simp[hf]at h5
 split at h
 ·cases h
 split at h
 ·cases h
 ·rename_i h6
  simpa [hf]using h6
theorem DH {d:Db} (h:dG d=0) {k:Nat} (hk:k<d.ab.length):lE d k=0:=by
 have h:=pR h k hk
 unfold dI fd at h
 split at h
 ·cases h
 split at h
 ·cases h
 split at h
 ·cases h
 split at h
 ·rename_i h2
  rw[h]at h2
  simp at h2
 ·rename_i h3
  simpa using h3
theorem Lz {d:Db} (h:dG d=0):∀ g∈d.ab,zh g.aa:=λg hg=>by
 obtain⟨k,hk,rfl⟩:=ej hg
 intro i j gR hj jk Fi e
 have h1:=lV (DH h hk) j (by rw[length_append];omega)
 unfold eJ at h1
 have hge:∀ q,q< (G d.ab k).aa.length->G ((G d.ab k).aa++(G d.ab k).bB) q=G (G d.ab k).aa q:=λq hq=>wr hq
 rw[hge j hj]at h1
 have h2:=PX h1 Fi
 have h3:(G (G d.ab k).aa i)∈((G d.ab k).aa++(G d.ab k).bB).take j:=by
  rw[List.take_append_of_le_length oz]
  refine mem_of_getElem? (i:=i) ?_
  rw[List.getElem?_take,if_pos gR,mU oz]
 have h4:=any_eq_false.1 h2 _ h3
 have h5:=(pS h _ (aE hk)).1.2
 have h6:=h5 _ (aE (show i< (G d.ab k).aa.length by omega)) jk
 have h7:=h5 _ (aE hj) Fi
 refine h4 ?_
 have h8:G (G (G d.ab k).aa j).ac 1∈(G (G d.ab k).aa j).ac.drop 1:=by
  refine mem_of_getElem? (i:=0) ?_
  rw[List.getElem?_drop,mU oz]
 simp only[ik,gE]
 rw[e]
 simp only[jk,h6,h8,Bool.true_and,decide_true]
 rfl
theorem LA {d:Db} (h:dG d=0) {k:Nat} (hk:k<d.ab.length):fu d k (G d.ab k).ae=false/\iQ d k (G d.ab k).ae=false:=by
 have h:=pR h k hk
 unfold dI fd at h
 split at h
 ·cases h
 split at h
 ·cases h
 ·rename_i h2
  simp only[Bool.or_eq_true,not_or,Bool.not_eq_true]at h2
  exact h2.1
theorem zA {d:Db} (h:dG d=0) {k:Nat} (hk:k<d.ab.length):bR d (G d.ab k).ae=(k:Int):=by
 refine Ni hk rfl λj hj e=>?_
 have h1:=(LA h hk).1
 unfold fu at h1
 have h2:=any_eq_false.1 h1 (G d.ab j) (mem_of_getElem? (i:=j) (by rw[List.getElem?_take,if_pos hj,mU oz]))
 exact h2 (by simpa using e)
theorem PW {d:Db} (h:dG d=0) {i k:Nat} (hi:i<d.ab.length) (hk:k<i):cA (G d.ab i) (G d.ab k).ae=none:=by
 refine List.find?_eq_none.2 λy hy e=>?_
 have e:y.ae=(G d.ab k).ae:=by simpa using e
 obtain⟨q,hq,rfl⟩:=ej hy
 have h1:=lV (DH h hi) q hq
 unfold eJ eX at h1
 split at h1
 ·cases h1
 split at h1
 ·cases h1
 rename_i h2
 simp only[Bool.or_eq_true,not_or,Bool.not_eq_true]at h2
 have h3:=h2.1
 unfold fu at h3
 have h4:=any_eq_false.1 h3 (G d.ab k) (mem_of_getElem? (i:=k) (by rw[List.getElem?_take,if_pos oz,mU oz]))
 exact h4 (by simpa using e.symm)
theorem Qw {d:Db} (h:dG d=0) {k:Nat} (hk:k<d.ab.length):¬ (G d.ab k).ae=⟨#[63]⟩:=λe=>by
 have h:=pR h k hk
 unfold dI fd at h
 rw[e]at h
 have h2:ga ⟨#[63]⟩=false:=by decide+kernel
 rw[h2]at h
 cases h
theorem VX {d:Db} (h:dG d=0) {i k:Nat} (hi:i<d.ab.length) (hk:k<i) {al:List Int} (hl:al.length=(G d.ab k).aa.length) (fs:List (List BA)):
 cv d i ⟨(G d.ab k).ae,al⟩ fs=de d.vars (G d.ab i).wide (G d.ab k) (bg fs al):=by
 have h1:=Ei (d:=d) (i:=i) (z:=(G d.ab k).ae) oz (by rw[zA h (show k<d.ab.length by omega)];omega) (by rw[zA h (show k<d.ab.length by omega)];omega)
 have h2:dR d i (G d.ab k).ae=(k:Int):=h1.trans (zA h oz)
 have h3:=BU (d:=d) (i:=i) (s:=⟨(G d.ab k).ae,al⟩) (a:=fs) (Qw h oz) (PW h hi hk) (by rw[h2];omega) (by rw[h2];exact hl)
 rw[h3,h2];rfl
section
variable {j:Jb} {g:Fr} {step:Nat}
theorem Je (hm:∀ s z,aw j.M s=some z->0<=z):∀(hs:List Hy) (M:BM) (al:List Int),(∀ a∈al,0<=a/\a< (step:Int))->∀ x∈(jy j g step hs M al).1,fF j g x step=true/\x.length=al.length+hs.length/\∀ a∈x,0<=a/\a< (step:Int)
 | [],M,al,ha,x,Z=>by
  rw[jy]at Z
  split at Z
  ·split at Z
   ·rename_i h
    obtain rfl:=mem_singleton.1 Z
    exact⟨h,rfl,ha⟩
   ·cases Z
  ·cases Z
 | h::hs,M,al,ha,x,Z=>by
  rw[jy]at Z
  split at Z
  ·have key:∀(l:List Nat) (q:List (List Int)×BM),(∀ t∈l,t<step)->(∀ x∈q.1,fF j g x step=true/\x.length=al.length+(h::hs).length/\∀ a∈x,0<=a/\a< (step:Int))->
    ∀ x∈(l.foldl (j5 (jy j g step hs) j h al) q).1,fF j g x step=true/\x.length=al.length+(h::hs).length/\∀ a∈x,0<=a/\a< (step:Int):=by
    intro l
    induction l with
    | nil=>exact λq _ hq=>hq
    | cons t l ih=>
     intro q hl hq
     refine ih _ (λb hb=>hl b (mem_cons_of_mem _ hb)) ?_
     unfold j5
     split
     ·intro x Z
      rcases mem_append.1 Z with Z | Z
      ·exact hq x Z
      ·have ht:=hl t yz
       obtain⟨h1,h2,h3⟩:=Je hm hs _ (al++[(t:Int)]) (λa ha'=>by
        rcases mem_append.1 ha' with ha' | ha'
        ·exact ha a ha'
        ·rw[mem_singleton.1 ha'];omega) x Z
       refine⟨h1,?_,h3⟩
       simp only[length_append,length_cons,List.length_nil]at h2 ⊢;omega
     ·exact hq
   refine key _ _ (λt ht=>?_) (λx Z=>by cases Z) x Z
   have h1:=IL (j:=j) (hs:=g.aa) (step:=step) (h:=h) (M:=M) hm
   have h2:=List.mem_range'_1.1 ht
   omega
  ·cases Z
theorem Lo (hm:∀ s z,aw j.M s=some z->0<=z) {x:List Int} (h:x∈oJ j g step):fF j g x step=true/\x.length=g.aa.length/\∀ a∈x,0<=a/\a< (step:Int):=by
 have:=Je hm _ _ [] (λa ha=>by cases ha) x h
 simpa using this
def iB (j:Jb) (c:bZ):Bool:=
 c.args.all (λa=>decide (0<=a/\a<c.step))&& (if c.dN=1 then decide (c.ae=⟨#[]⟩/\c.args.length=1/\G j.ts (G c.args 0).toNat=G j.ts c.step.toNat)
  else decide (0<=bR j.d c.ae/\bR j.d c.ae< (j.i:Int)/\c.args.length=(G j.d.ab (bR j.d c.ae).toNat).aa.length)&&fF j (G j.d.ab (bR j.d c.ae).toNat) c.args c.step.toNat)
 &&decide ((cw j.ss c).length<dd j.ss/\(dd j.ss:Int)=c.before/\((cw j.ss c).length:Int)=c.after)
end
structure JR (j:Jb):Prop where
 pQ:dG j.d=0
 at':j.i<j.d.ab.length
 len:j.ts.length=j.ss.length
 ne:∀ t∈j.ts,t≠[]
 sy:∀ t∈j.ts,∀ w∈t,ns j.d w
 XE:j.M=go j.ts j.ts.length
section
variable {d:Db} {z:Int} {ss:List Stp}
theorem oi (h:cQ d z ss=0):dH d z ss=0/\(aZ d z ss).2.1=0:=by
 unfold cQ at h
 split at h
 ·rename_i h1
  split at h
  ·rename_i h2;exact⟨h1,h2⟩
  ·cases h
 ·rename_i h1;exact absurd h h1
theorem nb (h:cQ d z ss=0):JR (fx d z ss)/\ey ss:=by
 obtain⟨h1,h2⟩:=oi h
 obtain⟨ha,hf⟩:=nK h1
 have bw:=(tD ss).1 hf
 obtain⟨dY,lC,f9⟩:=oE ha
 have hi:z.toNat<d.ab.length:=by omega
 have h3:aZ d z ss=kO d z.toNat ss:=if_pos h1
 have h4:∀ q,q<ss.length->iy d z.toNat ss q=0:=by
  rw[h3]at h2
  unfold kO at h2
  split at h2
  ·rename_i k hk
   have h5:=List.find?_some hk
   exact absurd h2 (of_decide_eq_true h5)
  ·rename_i hk
   intro q hq
   have h5:=List.find?_eq_none.1 hk q (mem_range.2 hq)
   simpa using h5
 have h5:(aZ d z ss).1=dL d z.toNat ss ss.length:=by rw[h3,pw h4]
 have h6:=rA dY hi ss.length (λq hq=>h4 q hq)
 refine⟨⟨dY,hi,?_,λt ht e=>?_,?_,rfl⟩,bw⟩
 ·show(aZ d z ss).1.length=ss.length
  rw[h5,lx]
 ·have ht:t∈dL d z.toNat ss ss.length:=by rw[<-h5];exact ht
  have:=(h6 t ht).1
  rw[e]at this;cases this
 ·intro t ht
  have ht:t∈dL d z.toNat ss ss.length:=by rw[<-h5];exact ht
  exact zK dY hi bw ss.length aV t ht
end
def cz (d:Db) (z:Int) (ss:List Stp) (c:bZ):List Stp×Int:=
 if ¬ cQ d z ss=0 then([],cQ d z ss)else if ¬ c.dN=1/\¬ c.dN=2 then([],1)
 else if c.step<0∨(ss.length:Int)<=c.step then([],3)else if iB (fx d z ss) c=false then([],260)else(cw ss c,0)
instance instDecStpM:DecidableEq Stp:=λs t=>if h:s.ae=t.ae/\s.args=t.args then .isTrue (by cases s;cases t;simp_all)else .isFalse λe=>h (by rw[e];exact⟨rfl,rfl⟩)
def lR (d:Db) (z:Int) (q:List Stp):Nat->List Stp->List bZ->Int×Int
 | n,ss,[]=>if ss=q then((n:Int),0)else((n:Int),261)
 | n,ss,c::l=>if(cz d z ss c).2=0 then lR d z q (n+1) (cz d z ss c).1 l else((n:Int),(cz d z ss c).2)
section
variable {d:Db} {i n:Nat} {ss:List Stp} {s:Stp}
theorem wp (hn:n<=ss.length):∀ k,k<=n->dL d i (ss.take n++[s]) k=dL d i ss k
 | 0,_=>rfl
 | k+1,hk=>by
  have h1:G (ss.take n++[s]) k=G ss k:=by
   rw[wr (by rw[length_take];omega),tG oz]
  rw[dL,dL,wp hn k oz,h1]
theorem Oh {α:Type} [Inhabited α] {a b:List α} {k:Nat} (h:a<+:b) (hk:k<a.length):G b k=G a k:=by
 obtain⟨r,rfl⟩:=h
 exact wr hk
theorem EX (hn:n<=ss.length):G (ss.take n++[s]) n=s:=by
 have h:=EW (l:=ss.take n) (x:=s)
 rwa [length_take,Nat.min_eq_left hn]at h
theorem Ww (hn:n<=ss.length) (h:∀ q,q<n->iy d i ss q=0) (t:List BA):
 ((kO d i (ss.take n++[s])).1.length=n+1/\G (kO d i (ss.take n++[s])).1 n=t)↔cv d i s (dL d i ss n)=(t,0):=by
 have hl:(ss.take n++[s]).length=n+1:=by simp;omega
 have h1:∀ q,q<n->iy d i (ss.take n++[s]) q=0:=λq hq=>by
  rw[iy,wp hn q oz,wr (by rw[length_take];omega),tG hq]
  exact h q hq
 have h2:iy d i (ss.take n++[s]) n=(cv d i s (dL d i ss n)).2:=by rw[iy,wp hn n aV,EX hn]
 by_cases h3:(cv d i s (dL d i ss n)).2=0
 ·have h4:∀ q,q< (ss.take n++[s]).length->iy d i (ss.take n++[s]) q=0:=λq hq=>by
   rw[hl]at hq
   rcases Nat.lt_or_ge q n with h5 | h5
   ·exact h1 q h5
   ·rw[show q=n by omega,h2];exact h3
  rw[pw h4,hl,lx]
  have h5:dL d i (ss.take n++[s]) (n+1)=dL d i ss n++[(cv d i s (dL d i ss n)).1]:=by rw[dL,wp hn n aV,EX hn]
  have h6:=EW (l:=dL d i ss n) (x:=(cv d i s (dL d i ss n)).1)
  rw[lx]at h6
  dsimp only
  rw[h5,h6]
  exact⟨λe=>Prod.ext e.2 h3,λe=>⟨rfl,by rw[e]⟩⟩
 ·rw[Ch (k:=n) oz h1 (by rw[h2];exact h3),lx]
  exact⟨λe=>by have:=e.1;omega,λe=>absurd (by rw[e]) h3⟩
end
theorem RM {ss:List Stp} (h:ey ss) {n:Nat} (hn:n<ss.length) {s:Stp} (hs:s.args.length<=40/\∀ a∈s.args,0<=a/\a< (n:Int)):ey (ss.take n++[s]):=by
 have h2:=h.2.1
 refine⟨by simp,by simp;omega,λi hi=>?_⟩
 have hi:i<=n:=by simp at hi;omega
 by_cases e:i=n
 ·have h3:(ss.take n++[s])[i]=s:=by
   rw[List.getElem_append_right (by simp;omega)];simp
  rw[h3,e];exact hs
 ·have h3:(ss.take n++[s])[i]=ss[i]'(by omega):=by
   rw[List.getElem_append_left (by simp;omega),List.getElem_take]
  rw[h3];exact h.2.2 i oz
theorem EF {d:Db} {i:Nat} {ss:List Stp}:∀ k m,k<=m->dL d i ss k<+:dL d i ss m
 | k,0,h=>by rw[show k=0 by omega];exact prefix_refl _
 | k,m+1,h=>by
  rcases Nat.lt_or_ge m k with h1 | h1
  ·rw[show k=m+1 by omega];exact prefix_refl _
  ·exact(EF k m h1).trans (by rw[dL];exact List.prefix_append _ _)
theorem UB {d:Db} {z:Int} {ss:List Stp} (hr:cQ d z ss=0) {k:Nat} (hk:k<z.toNat) {al:List Int} {step:Nat} (hl:al.length=(G d.ab k).aa.length) (hs:step<ss.length) (k3:∀ a∈al,0<=a/\a< (step:Int)):
 (dH d z (ss.take step++[⟨(G d.ab k).ae,al⟩])=0/\(aZ d z (ss.take step++[⟨(G d.ab k).ae,al⟩])).1.length=step+1/\G (aZ d z (ss.take step++[⟨(G d.ab k).ae,al⟩])).1 step=G (fx d z ss).ts step)↔fF (fx d z ss) (G d.ab k) al step=true:=by
 obtain⟨hj,bw⟩:=nb hr
 have dY:dG d=0:=hj.pQ
 have hi:z.toNat<d.ab.length:=hj.at'
 obtain⟨h1,h2⟩:=oi hr
 obtain⟨ha,_⟩:=nK h1
 have E3:=(tE (pR dY k oz)).1
 have hq:dH d z (ss.take step++[⟨(G d.ab k).ae,al⟩])=0:=by
  rw[dH,if_pos ha]
  exact(tD _).2 (RM bw hs ⟨by show al.length<=40;omega,k3⟩)
 have h3:aZ d z ss=kO d z.toNat ss:=if_pos h1
 have h4:∀ q,q<ss.length->iy d z.toNat ss q=0:=by
  rw[h3]at h2
  unfold kO at h2
  split at h2
  ·rename_i k hk
   have h5:=List.find?_some hk
   exact absurd h2 (of_decide_eq_true h5)
  ·rename_i hk
   intro q hq
   have h5:=List.find?_eq_none.1 hk q (mem_range.2 hq)
   simpa using h5
 have h5:(fx d z ss).ts=dL d z.toNat ss ss.length:=by show(aZ d z ss).1=_;rw[h3,pw h4]
 have h6:=rA dY hi ss.length (λq hq=>h4 q hq)
 have h7:bg (dL d z.toNat ss step) al=bg (fx d z ss).ts al:=by
  refine List.map_congr_left λa ha=>?_
  rw[h5,Oh (EF step ss.length oz) (by rw[lx];have:=k3 a ha;omega)]
 have h8:aZ d z (ss.take step++[⟨(G d.ab k).ae,al⟩])=kO d z.toNat (ss.take step++[⟨(G d.ab k).ae,al⟩]):=if_pos hq
 rw[h8,On (Lz dY _ (aE oz)) (by rw[h5];exact(h6 _ (aE (by rw[lx];exact hs))).2),decide_eq_true_eq]
 have h9:=Ww (s:=⟨(G d.ab k).ae,al⟩) (Nat.le_of_lt hs) (λq hq=>h4 q oz) (G (fx d z ss).ts step)
 rw[VX dY hi hk hl,h7]at h9
 exact⟨λe=>h9.1 e.2,λe=>⟨hq,h9.2 e⟩⟩
section
variable {ss:List Stp} {pre:List (Nat×Stp)} {x:Nat×Stp} {ys:List Bool}
theorem xf (hm:ys=jb ss pre.length) (_:pre.length<ss.length) (h2:x.1=ss.length-1-pre.length):lG ss ys x.1=jb ss (pre++[x]).length:=by
 rw[length_append,List.length_singleton,h2,hm];rfl
end
def jn {α:Type} (f:α->α) (l:List α) (q:Nat):List α:=(l.take q).map f++l.drop q
section
variable {α:Type} [Inhabited α] {f:α->α} {l:List α} {q:Nat}
omit [Inhabited α]in
theorem xe:jn f l 0=l:=by simp[jn]
omit [Inhabited α]in
theorem xc (h:q=l.length):jn f l q=l.map f:=by simp[jn,h]
omit [Inhabited α]in
theorem qv:(jn f l q).length=l.length:=by simp[jn];omega
theorem rZ (h:q<l.length):G (jn f l q) q=G l q:=by
 have h1:((l.take q).map f).length=q:=by simp;omega
 simp only[G,jn,getD_eq_getElem?_getD]
 rw[List.getElem?_append_right oz,h1,Nat.sub_self,List.getElem?_drop,Nat.add_zero]
theorem qw (h:q<l.length):(jn f l q).set q (f (G l q))=jn f l (q+1):=by
 have h1:((l.take q).map f).length=q:=by simp;omega
 rw[jn,jn,List.set_append_right _ _ oz,h1,Nat.sub_self,List.drop_eq_getElem_cons h,List.set_cons_zero,dF h,List.map_append,append_assoc]
 rfl
theorem xd (h:q<l.length) (e:f (G l q)=G l q):jn f l q=jn f l (q+1):=by
 have h1:=qw (f:=f) h
 rw[<-h1,e,<-rZ (f:=f) h,cF (by rw[qv];exact h),List.set_getElem_self]
end
def mr (c:bZ) (a:Int):Int:=if a=c.step then G c.args 0 else a
theorem IF (c:bZ) (s:Stp):(⟨s.ae,s.args.map (mr c)⟩:Stp)=jM c s:=rfl

section
variable {hs:List Hy} {M:BM} {p t p0 t0:List BA} {k:Nat}
theorem C7 (f:ci hs M p0 t0=ci hs M (p.drop k) t) (hk:k<p.length) (h:(((aw M (G p k)).isSome&&decide (((((aw M (G p k)).getD default).length:Nat):Int)<=((t.length:Nat):Int)))&&decide (((aw M (G p k)).getD default)=t.take ((aw M (G p k)).getD default).length))=true):
 ci hs M p0 t0=ci hs M (p.drop (k+1)) (t.drop ((aw M (G p k)).getD default).length):=by
 simp only[Bool.and_eq_true,decide_eq_true_eq]at h
 obtain⟨⟨h1,h2⟩,h3⟩:=h
 obtain⟨y,hy⟩:=Option.isSome_iff_exists.1 h1
 rw[hy]at h2 h3 ⊢
 simp only[Option.getD_some]at h2 h3 ⊢
 exact Km f hk hy oz h3
theorem Ki (f:ci hs M p0 t0=ci hs M (p.drop k) t) (hk:k<p.length) (h:(((aw M (G p k)).isSome&&decide (((((aw M (G p k)).getD default).length:Nat):Int)<=((t.length:Nat):Int)))&&decide (((aw M (G p k)).getD default)=t.take ((aw M (G p k)).getD default).length))=false) (f8:(aw M (G p k)).isSome=true):
 ci hs M p0 t0=(false,false):=by
 obtain⟨y,hy⟩:=Option.isSome_iff_exists.1 f8
 rw[hy]at h
 simp only[Option.isSome_some,Option.getD_some,Bool.true_and,Bool.and_eq_false_iff,decide_eq_false_iff_not]at h
 exact Ko f hk hy λh9=>by rcases h with h | h;exact h oz;exact h h9.2
theorem Kh (f:ci hs M p0 t0=ci hs M (p.drop k) t) (hk:k<p.length) (f8:(aw M (G p k)).isSome=false) (hf:jl hs (G p k)=true):ci hs M p0 t0=(true,false):=
 Kl f hk (by simpa using f8) hf
theorem Kg (f:ci hs M p0 t0=ci hs M (p.drop k) t) (hk:k<p.length) (f8:(aw M (G p k)).isSome=false) (hf:jl hs (G p k)=false) (h:(decide (((t.length:Nat):Int)=(0:Int))|| !decide (G t 0=G p k))=true):ci hs M p0 t0=(false,false):=
 Kn f hk (by simpa using f8) hf (by simp only[Bool.or_eq_true,decide_eq_true_eq,Bool.not_eq_true',decide_eq_false_iff_not]at h;rcases h with h | h;exact .inl oz;exact .inr h)
theorem C8 (f:ci hs M p0 t0=ci hs M (p.drop k) t) (hk:k<p.length) (f8:(aw M (G p k)).isSome=false) (hf:jl hs (G p k)=false) (h:(decide (((t.length:Nat):Int)=(0:Int))|| !decide (G t 0=G p k))=false):ci hs M p0 t0=ci hs M (p.drop (k+1)) (t.drop 1):=
 Kk f hk (by simpa using f8) hf (by simp only[Bool.or_eq_false_iff,decide_eq_false_iff_not,Bool.not_eq_false',decide_eq_true_eq]at h;rintro(h9 | h9);exact h.1 oz;exact h9 h.2)
end

section
variable {M:BM} {vis:List BA}
theorem QU {k:BA} (h1:vis.Nodup) (h2:∀ q∈vis,q∈M.map (·.1)) (h3:k∉vis/\(aw M k).isSome=true):M.length-(vis++[k]).length<M.length-vis.length:=by
 have hk:k∈M.map (·.1):=by have:=h3.2;rw[lH]at this;simpa using this
 have hn:(vis++[k]).Nodup:=by
  rw[List.nodup_append]
  exact⟨h1,by simp,λx Z y hy e=>by rw[mem_singleton.1 hy]at e;subst e;exact h3.1 Z⟩
 have:=oc (ys:=M.map (·.1)) hn λx Z=>by
  rcases mem_append.1 Z with h | h
  ·exact h2 x h
  ·rw[mem_singleton.1 h];exact hk
 simp at this ⊢
 omega
theorem Gd (h1:vis.Nodup) (h2:∀ q∈vis,q∈M.map (·.1)):vis.length<=M.length:=by
 have:=oc (ys:=M.map (·.1)) h1 h2
 simpa using this
theorem QT {s:BA} {t:List BA} (hn:(M.map Prod.fst).Nodup) (h:(s,t)∈M):aw M s=some t:=by
 induction M with
 | nil=>cases h
 | cons p M ih=>
  rw[List.map_cons,nodup_cons]at hn
  rw[mg]
  rcases mem_cons.1 h with e | h
  ·rw[<-e];simp
  ·rw[if_neg (λe=>hn.1 (by rw[<-e];exact List.mem_map_of_mem (f:=Prod.fst) h))]
   exact ih hn.2 h
theorem QS (hn:(M.map Prod.fst).Nodup):M.map (λq=>(⟨q.1,q.2⟩:Bd))=(M.map Prod.fst).map λs=>(⟨s,(aw M s).getD default⟩:Bd):=by
 rw[map_map]
 refine List.map_congr_left λq hq=>?_
 show(⟨q.1,q.2⟩:Bd)=⟨q.1,(aw M q.1).getD default⟩
 rw[QT hn (t:=q.2) hq];rfl
theorem QV (hn:(M.map Prod.fst).Nodup) (h1:vis.Nodup) (h2:∀ q∈vis,q∈M.map (·.1)) (h3:∀ k,(aw M k).isSome=true->k∈vis):(vis.map λs=>(⟨s,(aw M s).getD default⟩:Bd)).Perm (M.map λq=>(⟨q.1,q.2⟩:Bd)):=by
 rw[QS hn]
 refine List.Perm.map _ (List.perm_iff_count.2 λs=>?_)
 have e1:=List.Nodup.count h1 (a:=s)
 have e2:=List.Nodup.count hn (a:=s)
 rw[e1,e2]
 have:s∈vis↔s∈M.map Prod.fst:=⟨h2 s,λh=>h3 s (by rw[lH];simpa using h)⟩
 simp only[this]
end

section
variable {j:Jb} {g:Fr} {al:List Int} {step k:Nat}
theorem Ow (hk:k<g.aa.length) (h:fg g.aa (bg j.ts al) 0 k=false):fF j g al step=false:=by
 have:(List.range g.aa.length).all (fg g.aa (bg j.ts al) 0)=false:=by
  rw[List.all_eq_false]
  exact⟨k,mem_range.2 hk,by simp[h]⟩
 simp[fF,this]
theorem Ov (hk:k<g.aa.length) (h:mc g.aa (d7 g.aa (bg j.ts al) g.aa.length) (bg j.ts al) k=false):fF j g al step=false:=by
 have:(List.range g.aa.length).all (mc g.aa (d7 g.aa (bg j.ts al) g.aa.length) (bg j.ts al))=false:=by
  rw[List.all_eq_false]
  exact⟨k,mem_range.2 hk,by simp[h]⟩
 simp[fF,this]
theorem Ou (h:(ci g.aa (d7 g.aa (bg j.ts al) g.aa.length) g.ac (G j.ts step)).1=false):fF j g al step=false:=by simp[fF,h]
theorem Ox (h1:∀ k,k<g.aa.length->fg g.aa (bg j.ts al) 0 k=true) (h2:∀ k,k<g.aa.length->mc g.aa (d7 g.aa (bg j.ts al) g.aa.length) (bg j.ts al) k=true) (h3:(ci g.aa (d7 g.aa (bg j.ts al) g.aa.length) g.ac (G j.ts step)).1=true):
 fF j g al step= !eQ (bN (d7 g.aa (bg j.ts al) g.aa.length)) g.apart j.d.vars (G j.d.ab j.i).wide:=by
 have e1:(List.range g.aa.length).all (fg g.aa (bg j.ts al) 0)=true:=all_eq_true.2 λk hk=>h1 k (mem_range.1 hk)
 have e2:(List.range g.aa.length).all (mc g.aa (d7 g.aa (bg j.ts al) g.aa.length) (bg j.ts al))=true:=all_eq_true.2 λk hk=>h2 k (mem_range.1 hk)
 simp[fF,e1,e2,h3]
theorem A8 {L:BM} {k:BA} {v:List BA} {q:BA×List BA} (h:q∈cn L k v):q∈L∨q.1=k/\q.2=v:=by
 induction L with
 | nil=>
  obtain rfl:=mem_singleton.1 h
  exact .inr ⟨rfl,rfl⟩
 | cons p L ih=>
  rw[cn]at h
  split at h
  ·rename_i e
   rcases mem_cons.1 h with rfl | h
   ·exact .inr ⟨e.symm,rfl⟩
   ·exact .inl (mem_cons_of_mem _ h)
  ·rcases mem_cons.1 h with rfl | h
   ·exact .inl List.mem_cons_self
   ·rcases ih h with h | h
    ·exact .inl (mem_cons_of_mem _ h)
    ·exact .inr h
theorem Rk {L:BM} {k:BA} {v:List BA}:(cn L k v).length<=L.length+1:=by
 induction L with
 | nil=>simp[cn]
 | cons p L ih=>rw[cn];split<;>simp;omega
theorem z8 {hs:List Hy} {es:List (List BA)}:∀ k,(d7 hs es k).length<=k
 | 0=>Nat.le_refl _
 | k+1=>by
  have h1:=z8 (hs:=hs) (es:=es) k
  rw[d7];split
  ·exact Nat.le_trans Rk oz
  ·omega
theorem Aa {hs:List Hy} {es:List (List BA)} {p:List BA->Prop} (hp:∀ t∈es,p (t.drop 1)) (hl:es.length=hs.length):∀ k,k<=hs.length->∀ q∈d7 hs es k,p q.2/\∃ h∈hs,h.bn=true/\q.1=G h.ac 1
 | 0,_,q,h=>by cases h
 | k+1,hk,q,h=>by
  rw[d7]at h
  split at h
  ·rename_i hf
   rcases A8 h with h | ⟨h1,h2⟩
   ·exact Aa hp hl k oz q h
   ·exact⟨by rw[h2];exact hp _ (aE oz),G hs k,aE oz,hf,h1⟩
  ·exact Aa hp hl k oz q h
theorem Gf {M:BM} {p:List BA->Prop} (h:∀ q∈M,p q.2):∀ b∈bN M,p b.ac:=λb hb=>by
 obtain⟨q,hq,rfl⟩:=mem_map.1 ((AY M).mem_iff.1 hb)
 exact h q hq
end
end
end Go.Proofs.YtdfadihhfppjaaaGreatDoor
