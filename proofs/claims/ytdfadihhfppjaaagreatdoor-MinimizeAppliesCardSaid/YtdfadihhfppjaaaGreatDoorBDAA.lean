/-
  Part of the proof that MinimizeApplies returns true. Conditions: none.
-/
import Derived.Test.YtdfadihhfppjaaaGreatDoorBDZ
import Derived.Laws.Concat
namespace Go.Proofs.YtdfadihhfppjaaaGreatDoor
set_option maxRecDepth 100000
set_option maxHeartbeats 8000000
open Go.Proofs.Tryz
open List (all_eq_true any_eq_false append_assoc flatten_cons getD_eq_getElem?_getD getElem_map length_append length_cons length_map length_set length_take map_map mem_append mem_cons mem_cons_of_mem mem_map mem_of_find?_eq_some mem_of_getElem? mem_range mem_singleton nodup_cons pairwise_cons prefix_refl take_length)
section
open Go.RowKit
section
variable {n:Rn} {N:Nat} {P:Program} {J X:WP} {S S' gB:Nat->Prop} {O:List OB} {w0:World} {env:List (Nat×AV)} {Q:Exit->Act->WP}
variable {o:Oper} {a:Act} {w:World} {x y:Operand} {t e:TypeId} {v:Value} {k:Nat} {rows:List (List CD)}
theorem DE {c:CD} {r:List CD} {i j:Nat} (V:aS J) (hJ0:J w0) (hs:dS P t 1) (hop:o.op= .store t x y) (hk0:Keeps All w0 w) (Z:XO J S w0.heap.size (OB.row v e k rows::O) w) (h1:Rel S' w (.lit (cA v (i*k+j))) (a.eval x))
 (h2:Rel (SO S (OB.row v e k rows::O)) w (.rd c) (a.eval y)) (hrow:rows[i]?=some r) (hj:j<r.length):
 Does n P o a w λ_ w'=>db J S w0 (OB.row v e k rows::O) w (OB.row v e k (rows.set i (r.set j c))::O) w':=by
 have hl:i<rows.length:=(List.getElem?_eq_some_iff.1 hrow).1
 obtain⟨g,cap,old,cur,rfl,mM,hg,en,df,iB,htake,ku,hrd,hlen⟩:=qw (Z.2.1 (OB.row v e k rows) yz) oz
 simp only[Rel]at h2
 have hv:(a.eval y).cells.toList=[a.eval y]:=by rw[rb h2.one]
 have hge:rows[i]=r:=(List.getElem?_eq_some_iff.1 hrow).2
 have Ai:r.length=k:=hlen r (hge▸List.getElem_mem hl)
 have pZ:i*k+j+1<=rows.length*k:=by
  have:=Nat.mul_le_mul_right k hl
  rw[Nat.succ_mul]at this
  omega
 have hset:(rows.set i (r.set j c)).flatten=rows.flatten.take (i*k+j)++[c]++rows.flatten.drop (i*k+j+1):=by
  have hd:rows.flatten.drop (i*k)=r++rows.flatten.drop (i*k+k):=by
   rw[oD rows i hlen,List.drop_eq_getElem_cons hl,hge,flatten_cons,show i*k+k=(i+1)*k by rw[Nat.add_mul];omega,oD rows (i+1) hlen]
  have tv:rows.flatten.drop (i*k+j+1)=r.drop (j+1)++rows.flatten.drop (i*k+k):=by
   rw[show i*k+j+1=i*k+(j+1) by omega,<-List.drop_drop,hd,List.drop_append_of_le_length oz]
  have zS:rows.flatten.take (i*k+j)=rows.flatten.take (i*k)++r.take j:=by
   rw[List.take_add,hd,List.take_append_of_le_length oz]
  rw[zl rows i (r.set j c) hlen hl,zS,tv,List.set_eq_take_append_cons_drop,if_pos hj]
  simp
 have hlen':∀ q∈rows.set i (r.set j c),q.length=k:=λq hq=>by
  rcases List.mem_or_eq_of_mem_set hq with h | rfl
  · exact hlen q h
  · rw[length_set];exact Ai
 generalize hp:i*k+j=p at*
 have Fc:rows.length*k<=cap*k:=Nat.mul_le_mul_right k en
 have hr:bD (SO S (OB.row (.slice (some ⟨g,0,none⟩) rows.length cap) e k rows::O)) w [c] [a.eval y]:=⟨h2,trivial⟩
 have hrun:=BC (P:=P) (ty:=t) (o:=p) (cur:=cur.toList) (t:=e) hv (by simpa using hs) (by simpa using hg) (by simp;omega) hr.one
 have hlt:g<w.heap.size:=(Array.getElem?_eq_some_iff.1 hg).1
 have hk:Keeps (λb=>¬ (OB.row (.slice (some ⟨g,0,none⟩) rows.length cap) e k rows).blk b) w (w.setRow g (cur.toList.take p++[a.eval y]++cur.toList.drop (p+ [a.eval y].length)).toArray):=
  (wI (g:=g)).sub λb _ hb e=>hb (by simp[OB.row,Value.ownBlock,e])
 have hsub:∀ b,b<w.heap.size->SO S (OB.row (.slice (some ⟨g,0,none⟩) rows.length cap) e k rows::O) b->(¬ (OB.row (.slice (some ⟨g,0,none⟩) rows.length cap) e k rows).blk b)/\SO S (OB.row (.slice (some ⟨g,0,none⟩) rows.length cap) e k (rows.set i (r.set j c))::O) b:=λb _ hs=>⟨hs.2 (OB.row (.slice (some ⟨g,0,none⟩) rows.length cap) e k rows) yz,hs.1,λp hp=>by
  rcases mem_cons.1 hp with rfl | hp
  · exact hs.2 (OB.row (.slice (some ⟨g,0,none⟩) rows.length cap) e k rows) yz
  · exact hs.2 p (mem_cons_of_mem _ hp)⟩
 refine sU (w':=w.setRow g (cur.toList.take p++[a.eval y]++cur.toList.drop (p+ [a.eval y].length)).toArray) ?_ (pg V hJ0 hk0 Z hk (λb hb=>.inl hb) ⟨old.take p++[a.eval y]++old.drop (p+1),⟨?_,.inr ⟨g,cap,_,?_,mM,setRow_heap w g _ _ e _ hg,?_,df,?_,?_⟩⟩,?_,hlen'⟩)
 · have hv':=h1.lit
   simp only[cA]at hv'
   rw[execOp,hop]
   simp only[hv',Sem.run_bind,hrun]
   rfl
 · simp;omega
 · simp
 · simpa using en
 · simp;omega
 · simp only[length_set]
   rw[<-htake]
   exact IA cur.toList p (rows.length*k) [a.eval y] (by simpa using pZ) (by simp;omega)
 · rw[hset]
   exact(((hrd.take p).move hk hsub).append (hr.move hk hsub)).append ((hrd.drop (p+1)).move hk hsub)
theorem UW {ops:Array Oper} {rest:List Oper} {c:CD} {r:List CD} {i j:Nat} (V:aS J) (hJ0:J w0) (hs:dS P t 1) (hg:o.guard=none) (hd:o.dst=none) (hop:o.op= .store t x y) (hrow:rows[i]?=some r) (hj:j<r.length)
 (h1:∀ a w,So J S w0 N (OB.row v e k rows::O) env a w->Rel (SO S (OB.row v e k rows::O)) w (.lit (cA v (i*k+j))) (a.eval x)/\Rel (SO S (OB.row v e k rows::O)) w (.rd c) (a.eval y))
 (next:∀ a w,So J S w0 N (OB.row v e k (rows.set i (r.set j c))::O) env a w->wpListIn n.F n.d P ops Q rest a w):
 ∀ a w,So J S w0 N (OB.row v e k rows::O) env a w->wpListIn n.F n.d P ops Q (o::rest) a w:=
 qG (O2:=λ_:Unit=>_) hg hd (λa w h=>by
  obtain⟨g1,g2⟩:=h1 a w h
  exact bC (DE V hJ0 hs hop h.keep h.x g1 g2 hrow hj) λ_ _ hp=>⟨(),hp⟩) λ_=>next
end
theorem Tm {n:Rn} {P:Program} {X:WP} {S:Nat->Prop} {o:Oper} {a:Act} {w:World} {x y:Operand} {t u:TypeId} {i j:BA} (hop:o.op= .binOp .add t x y u) (h1:Rel S w (.str i) (a.eval x)) (h2:Rel S w (.str j) (a.eval y)) (hl:i.size+j.size<=9223372036854775807) (Z:X w):Does n P o a w (bE S X (.str (i++j)) w):=
 jX (v:=.string (i++j)) (show(i++j).size<=maxLen by rw[ByteArray.size_append];exact hl) (rx ..) (by simp only[binOp];exact run_string_add_sum w i j hl) hop h1 h2 Z
end
section
open Go.RowKit
section
variable {J:WP} (V:aS J)
include V
theorem sK (l:List Bd) (s:BA)  :Fn prog J 207 [.rd (fj l),.str s] (.rd (ai (bg (ay l) s))):=by
 refine fE func207 λS w0 hS hJ0=>?_
 refine tw cc (ln 0 λcx=>?_)
 refine ak tb V [0,1] [_] U2 ?_
 refine af (ak tb V [0,1,1000] [_] U3 ?_)
 refine ax (lpo (ι:=Nat) (λk=>(k<=l.length)/\(∀ j,j<k->¬ (G l j).var=s)) (λ_=>[]) (λk=>[(5,.int (k:Nat))]) (λk=>l.length-k) [0,1,2] U2 0 ⟨aI,λj hj=>by omega⟩ ?_)
 rintro k ⟨aQ,ah⟩
 refine af (au tb V [0,1,2,1003] [_,_,.int (l.length:Nat),_] [2] U4 Y ⟨aD IX,U⟩ ?_)
 refine cj 3 ?_ ?_<;>intro hb1<;>try simp at hb1
 ·
  refine aj (nx (af (ax (au tb V [0,1,2,1006] [_,_,.ptr (ff (G l k)),_,_,_,_] [2] U4 Y ⟨bn pO,U⟩ ?_))))
  refine cj 3 ?_ ?_<;>intro hb2<;>try simp at hb2
  ·
   refine au tb V [1004,1005] [_,_,.ptr (ff (G l k)),_,_,_] [2] U2 Y ⟨bn pO,U⟩ ?_
   refine ln 0 λ_=>?_
   exact bL 1 (hE:=congrArg (λz=>AV.rd (ai z)) (show((G l k).ac)=(bg (ay l) s)from by first | exact(Fx hb1 ah hb2).symm | exact(Fy λj hj=>ah j oz).symm))
  ·
   refine aj (nx (aT tb V [0,1,1002] [_,.int (k+1:Nat),_] [1] U3 Y ⟨aM,U⟩ ?_))
   exact bq (k+1) [0,1,2] ⟨oz,cF ah hb2⟩
 ·
  refine aW (nx (au tb V [1001,1002] [_,.rd (ai ([s])),_] [1] U2 Y ⟨λ_ _ hk Z hl _=>ft bx j0 Y (hl.D 0 24 Y Y) (aK hS _ hk Z _ aV) (jo V Z),U⟩ ?_))
  refine ln 0 λ_=>?_
  exact bL 1 (hE:=congrArg (λz=>AV.rd (ai z)) (show([s])=(bg (ay l) s)from by first | exact(Fx hb1 ah hb2).symm | exact(Fy λj hj=>ah j oz).symm))
theorem Kk (t:List BA) (l:List Bd) (hb:(bz (ay l) t).length<=2000):Fn prog J 208 [.rd (ai t),.rd (fj l)] (.rd (ai (bz (ay l) t))):=by
 refine fE func208 λS w0 hS hJ0=>?_
 refine tw cc (ln 0 λcx=>?_)
 refine ln 1 λ_=>?_
 refine ak tb V [0,1] [_] U2 ?_
 refine aL (ko bx V Y Y Y (lb Y) λv1=>?_)
 refine ao 1 tb Y (aA [0,2,3] U3 Y ?_)
 refine nx (af (ak tb V [0,1,2,1000] [_] U4 ?_))
 refine ax (lpo (ι:=Nat×Value×(List BA)) (λ(k,_,out)=>(k<=t.length)/\(out=bz (ay l) (t.take k))) (λ(_,v,out)=>[OB.row v 9 1 (out.map dJ)]) (λ(k,v,_)=>[(6,.int (k:Nat)),(5,.lit v)]) (λ(k,_,_)=>t.length-k) [1,2,3,0] U2 (0,v1,([]:List BA)) ⟨aI,Y⟩ ?_)
 rintro⟨k,v,out⟩ ⟨aQ,ah⟩
 refine af (au tb V [0,1,2,3,1003] [_,_,.int (t.length:Nat),_] [2] U5 Y ⟨aD b6,U⟩ ?_)
 refine cj 4 ?_ ?_<;>intro hb1<;>try simp at hb1
 ·
  refine aj (nx (af (ax (cG (ao 4 tb Y (sy (.ptr [lS (G t k)]) (λh=>cb (i:=(k:Int)) bx Y (h.get 1 Y) (h.get 0 Y) bM (cq (xs:=t) (k:=k) az) Y h.x) ?_))))))
  refine ao 1 tb Y (sy (.rd (ai (bg (ay l) (G t k)))) (λh=>cQ (sK V l (G t k)) (cO func207) Y (aK hS _ h.keep h.x) (h.x.1) (aq (h.get 4 Y) (aq (h.get 0 Y) aP)) (jo V h.x)) ?_)
  refine fP (f:=dJ) (m:=6) (s:=14) out (bg (ay l) (G t k)) (λ_=>Y) j6 V hJ0 Y Y Y (lb Y) Y Y (λa w h=>(h.get 0 Y)) (by have h9:=px (ay l) t (k+1);rw[j5 oz,length_append,<-ah]at h9;omega) (by have h9:=px (ay l) t (k+1);rw[j5 oz,length_append,<-ah]at h9;omega) λv2=>?_
  refine ao 1 tb Y (aA [0,2,9,10,11] U5 Y ?_)
  refine nx (ln 1 λhl3=>?_)
  refine aT tb V [0,2,3,1002] [_,.int (k+1:Nat),_] [1] U4 Y ⟨aM,U⟩ ?_
  exact bq (k+1,v2,out++(bg (ay l) (G t k))) [1,2,3,0] ⟨oz,by rw[j5 oz,<-ah]⟩
 ·
  refine aW (nx (ak tb V [1001] U2 [_] ?_))
  exact tw (λh=>dV hS h (m:=0) (s:=4) Y) (bL 0 (hE:=congrArg (λz=>AV.rd (ai z)) (show out=(bz (ay l) t)from by rw[ah,cS oz])))
theorem Ku (t:List BA) (l:List Bd) (n:Nat) (hn:n<=2000) (hl:∀ b∈l,b.ac.length<=2000):Fn prog J 167 [.rd (ai t),.rd (fj l),.int (n:Nat)] (.bJ [.rd (ai (if b7 (ay l) t n then bz (ay l) t else [])),.int (if b7 (ay l) t n then 0 else 15)]):=by
 refine fE func167 λS w0 hS hJ0=>?_
 refine tw cc (ln 0 λcx=>?_)
 refine ln 1 λ_=>?_
 refine ak tb V [0,1,2] U2 U3 ?_
 refine af (ak tb V [0,1,2,1001] U2 U4 ?_)
 refine cj 3 ?_ ?_<;>intro hb1<;>try simp at hb1
 ·
  exact False.elim oz
 ·
  refine aj (nx (ak tb V [0,1,2,1000] [_] U4 ?_))
  refine af (ak tb V [0,1,2,3,1000] [_] U5 ?_)
  refine ax (lpo (ι:=Nat×Nat) (λ(k,z)=>(k<=t.length)/\(z=(bz (ay l) (t.take k)).length)/\(z<=n)) (λ(_,_)=>[]) (λ(k,z)=>[(9,.int (k:Nat)),(8,.int (z:Nat))]) (λ(k,_)=>t.length-k) [0,1,2,4,3] U3 (0,0) ⟨aI,by simp[bz],aI⟩ ?_)
  rintro⟨k,z⟩ ⟨aQ,ah,bp⟩
  refine af (au tb V (r5 [1003]) [_,_,.int (t.length:Nat),_] [2] U6 Y ⟨aD b6,U⟩ ?_)
  refine cj 5 ?_ ?_<;>intro hb2<;>try simp at hb2
  ·
   refine aj (nx (af (ax (au tb V [0,1,2,3,1006,1009] (V4 [.ptr [lS (G t k)],_,.rd (ai (bg (ay l) (G t k))),.int ((bg (ay l) (G t k)).length:Nat),.int (z+(bg (ay l) (G t k)).length:Nat),_]) [4,6,7,8] U6 Y ⟨bn bx,bN hS V (sK V l (G t k)) (cO func207),aD b6,aM (h0:=by have:=qa (m:=2000) oz hl (G t k);omega),U⟩ ?_))))
   refine ln 4 λ_=>?_
   refine ak tb V [0,1,2,3,5,1002] U3 U6 ?_
   refine cj 5 ?_ ?_<;>intro aE<;>try simp at aE
   ·
    have e3:b7 (ay l) t n=false:=by have h9:=px (ay l) t (k+1);rw[j5 oz,length_append]at h9;simp only[b7,decide_eq_false_iff_not];omega
    refine ak tb V [1000,1001] U2 U2 ?_
    exact tw (λh=>gj h (m:=0) (s:=6) Y) (aZ (λa w h=>dX (m:=0) (k:=1) Y (d9 h) Y Y (congrArg (λz=>AV.rd (ai z)) (show([]:List BA)=(if b7 (ay l) t n then bz (ay l) t else [])from by simp[e3])) (eI (by simp[e3]))))
   ·
    refine aj (nx (aT tb V [0,1,2,4,1002] [_,.int (k+1:Nat),_] [1] U5 Y ⟨aM,U⟩ ?_))
    exact bq (k+1,z+(bg (ay l) (G t k)).length) [0,1,2,4,3] ⟨oz,by rw[j5 oz,length_append,ah],oz⟩
  ·
   have e4:b7 (ay l) t n=true:=by rw[cS (xs:=t) oz]at ah;simp only[b7,decide_eq_true_eq];omega
   refine aW (nx (au tb V [1002,1003,1004] [_,_,.rd (ai (bz (ay l) t)),_,_] [2] U3 Y ⟨bN hS V (Kk V t l (by simp only[b7,decide_eq_true_eq]at e4;omega)) (cO func208),U⟩ ?_))
   refine ln 0 λ_=>?_
   exact aZ (λa w h=>dX (m:=1) (k:=2) Y (d9 h) Y Y (congrArg (λz=>AV.rd (ai z)) (show(bz (ay l) t)=(if b7 (ay l) t n then bz (ay l) t else [])from by simp[e4])) (eI (by simp[e4])))
theorem C6 (xs ys:List BA)  :Fn prog J 100 [.rd (ai xs),.rd (ai ys)] (.bool (decide (xs=ys))):=by
 refine fE func100 λS w0 hS hJ0=>?_
 clear hJ0
 refine ln 0 λ_=>?_
 refine ln 1 λ_=>?_
 refine qs tb V [0,1] [_] U2 ?_
 refine af (aJ tb V [0,1,1004] [_,.int (xs.length:Nat),_,.int (ys.length:Nat),_] [1,3] U3 Y ⟨aD b6,aD b6,U⟩ ?_)
 refine cj 2 ?_ ?_<;>intro hb1<;>try simp at hb1
 ·
  refine qs tb V [1000] [_] [_] ?_
  exact aU 0 (hE:=eB (by first | rfl | grind[aC]))
 ·
  refine aj (nx (af (qs tb V [0,1,1000] [_] U3 ?_)))
  refine ax (lp (ι:=Nat) (λk=>(k<=xs.length)/\(∀ j,j<k->G xs j=G ys j)) (λk=>[(5,.int (k:Nat))]) (λk=>xs.length-k) [0,1,2] U2 0 (show(0<=xs.length)/\(∀ j,j<0->G xs j=G ys j)from by first | trivial | grind) ?_)
  rintro k ⟨aQ,ah⟩
  refine af (aJ tb V [0,1,2,1003] [_,_,.int (xs.length:Nat),_] [2] U4 Y ⟨aD b6,U⟩ ?_)
  refine cj 3 ?_ ?_<;>intro hb2<;>try simp at hb2
  ·
   refine aj (nx (af (ax (aJ tb V [0,1,2,1008] [_,_,.ptr [lS (G xs k)],_,_,_,.ptr [lS (G ys k)],_,_] [2,6] U4 Y ⟨bn bx,bn bx,U⟩ ?_))))
   refine cj 3 ?_ ?_<;>intro aE<;>try simp at aE
   ·
    refine qs tb V [1000] [_] [_] ?_
    exact aU 0 (hE:=eB (by first | rfl | grind[aC]))
   ·
    refine aj (nx (dI tb V [0,1,1002] [_,.int (k+1:Nat),_] [1] U3 Y ⟨aM,U⟩ ?_))
    exact dO (k+1) [0,1,2] ⟨by first | omega | (simp;omega) | grind[aC],by first | omega | (simp;omega) | grind[aC]⟩
  ·
   refine aW (nx (qs tb V [1000] [_] [_] ?_))
   exact aU 0 (hE:=eB (by have:=jN (xs:=xs) (ys:=ys) oz (λj hj=>ah j oz);simp[this]))
theorem Ko (t:List BA) (l:List Bd) (x:List BA)  :Fn prog J 166 [.rd (ai t),.rd (fj l),.rd (ai x)] (.bool (lN t l x)):=by
 refine fE func166 λS w0 hS hJ0=>?_
 refine tw cc (ln 0 λcx=>?_)
 refine ln 1 λ_=>?_
 refine ln 2 λ_=>?_
 refine ak tb V [0,1,2] [_] U3 ?_
 refine ak tb V [0,1,2,1000] [_] U4 ?_
 refine af (ak tb V [0,1,2,3,1000] [_] U5 ?_)
 refine ax (lpo (ι:=Nat×Nat) (λ(k,p)=>(k<=t.length)/\(p<=x.length)/\(x.take p=bz (ay l) (t.take k))) (λ(_,_)=>[]) (λ(k,p)=>[(8,.int (k:Nat)),(7,.int (p:Nat))]) (λ(k,_)=>t.length-k) [0,1,2,4,3] U3 (0,0) ⟨aI,aI,Y⟩ ?_)
 rintro⟨k,p⟩ ⟨aQ,ah,bp⟩
 refine af (au tb V (r5 [1003]) [_,_,.int (t.length:Nat),_] [2] U6 Y ⟨aD b6,U⟩ ?_)
 refine cj 5 ?_ ?_<;>intro hb1<;>try simp at hb1
 ·
  refine aj (nx (af (ax (au tb V (r5 [1005,1006]) (V3 [.ptr [lS (G t k)],_,.rd (ai (bg (ay l) (G t k))),_]) [3,5] U7 Y ⟨bn bx,bN hS V (sK V l (G t k)) (cO func207),U⟩ ?_))))
  refine ln 5 λ_=>?_
  refine af (au tb V (r5 [6,1018]) [_,.int ((bg (ay l) (G t k)).length:Nat),_,.int (x.length:Nat),_,.int ((x.length:Int)-(p:Int)),_,_,_,_,_,_,_,.int ((bg (ay l) (G t k)).length:Nat),.int (p+(bg (ay l) (G t k)).length:Nat),.rd (ai ((x.take (p+(bg (ay l) (G t k)).length)).drop p)),.bool (decide ((bg (ay l) (G t k))=((x.take (p+(bg (ay l) (G t k)).length)).drop p))),_,_] [1,3,5,13,14,15,16] U7 Y ⟨aD b6,aD b6,l2,aD b6,λ_ _ _ Z hl hc=>qq (i:=(p:Int)) (j:=(((bg (ay l) (G t k)).length:Nat):Int)) Y (hl.D 11 33 Y hc) (hl.D 13 35 Y hc) (by have aF:((decide ((x.length:Int)-(p:Int)< (((bg (ay l) (G t k)).length:Nat):Int)))==false)=true:=hc;(try simp at aF);(first | omega | (simp;omega) | grind[aC])) (by have aF:((decide ((x.length:Int)-(p:Int)< (((bg (ay l) (G t k)).length:Nat):Int)))==false)=true:=hc;(try simp at aF);(first | omega | (simp;omega) | grind[aC])) Z,λ_ _ _ Z hl hc=>iH (ys:=(x.take (p+(bg (ay l) (G t k)).length)).drop p) (lo:=p) (hi:=p+(bg (ay l) (G t k)).length) Y bx (λ_=>Y) Y (hl.D 9 31 Y hc) (hl.D 10 32 Y hc) (hl.D 14 36 Y hc) (by have aF:((decide ((x.length:Int)-(p:Int)< (((bg (ay l) (G t k)).length:Nat):Int)))==false)=true:=hc;(try simp at aF);(first | omega | (simp;omega) | grind[aC])) (by have aF:((decide ((x.length:Int)-(p:Int)< (((bg (ay l) (G t k)).length:Nat):Int)))==false)=true:=hc;(try simp at aF);(first | omega | (simp;omega) | grind[aC])) Z,bN hS V (C6 V (bg (ay l) (G t k)) ((x.take (p+(bg (ay l) (G t k)).length)).drop p)) (cO func100),U⟩ ?_)
  refine cj 6 ?_ ?_<;>intro hb2
  ·
   have e3:lN t l x=false:=by rw[lN,decide_eq_false (Ua hb1 bp ah (λh9=>by have h8:(bg (ay l) (G t k))=(x.take (p+(bg (ay l) (G t k)).length)).drop p:=h9.2.symm;simp[<-h8]at hb2;omega))]
   refine ak tb V [1000] [_] [_] ?_
   exact bL 0 (hE:=eB (e3.symm))
  ·
   have e4:(bg (ay l) (G t k)).length<=x.length-p/\(bg (ay l) (G t k))=(x.take (p+(bg (ay l) (G t k)).length)).drop p:=by simp only[Bool.or_eq_false_iff,decide_eq_false_iff_not,Bool.not_eq_false',decide_eq_true_eq]at hb2;exact⟨oz,hb2.2⟩
   refine aj (nx (aT tb V [0,1,2,3,1004] [_,_,.int ((bg (ay l) (G t k)).length:Nat),.int (p+(bg (ay l) (G t k)).length:Nat),_] [2,3] U5 Y ⟨aD b6,aM,U⟩ ?_))
   refine nx (aT tb V [0,1,2,4,1002] [_,.int (k+1:Nat),_] [1] U5 Y ⟨aM,U⟩ ?_)
   exact bq (k+1,p+(bg (ay l) (G t k)).length) [0,1,2,4,3] ⟨oz,oz,T9 hb1 bp e4.2.symm⟩
 ·
  refine aW (nx (au tb V [1004] [_,_,.int (x.length:Nat),_,_] [2] [_] Y ⟨aD b6,U⟩ ?_))
  exact bL 0 (hE:=eB (by rw[lN,T8 (by rw[bp,cS oz]) ah]))
theorem C4 (xs:List BA) (s:BA)  :Fn prog J 254 [.rd (ai xs),.str s] (.bool (decide (s∈xs))):=by
 refine fE func254 λS w0 hS hJ0=>?_
 clear hJ0
 refine ln 0 λ_=>?_
 refine qs tb V [0,1] [_] U2 ?_
 refine af (qs tb V [0,1,1000] [_] U3 ?_)
 refine ax (lp (ι:=Nat) (λk=>(k<=xs.length)/\(∀ j,j<k->G xs j≠s)) (λk=>[(5,.int (k:Nat))]) (λk=>xs.length-k) [0,1,2] U2 0 (show(0<=xs.length)/\(∀ j,j<0->G xs j≠s)from by first | trivial | grind) ?_)
 rintro k ⟨aQ,ah⟩
 refine af (aJ tb V [0,1,2,1003] [_,_,.int (xs.length:Nat),_] [2] U4 Y ⟨aD b6,U⟩ ?_)
 refine cj 3 ?_ ?_<;>intro hb1<;>try simp at hb1
 ·
  refine aj (nx (af (ax (aJ tb V [0,1,2,1005] [_,_,.ptr [lS (G xs k)],_,_,_] [2] U4 Y ⟨bn bx,U⟩ ?_))))
  refine cj 3 ?_ ?_<;>intro hb2<;>try simp at hb2
  ·
   refine qs tb V [1000] [_] [_] ?_
   exact aU 0 (hE:=eB (by grind[aC]))
  ·
   refine aj (nx (dI tb V [0,1,1002] [_,.int (k+1:Nat),_] [1] U3 Y ⟨aM,U⟩ ?_))
   exact dO (k+1) [0,1,2] ⟨by first | omega | (simp;omega) | grind[aC],by first | omega | (simp;omega) | grind[aC]⟩
 ·
  refine aW (nx (qs tb V [1000] [_] [_] ?_))
  exact aU 0 (hE:=eB (by grind[ee]))
theorem C8 (t vs:List BA) (hb:t.length<=2000):Fn prog J 237 [.rd (ai t),.rd (ai vs)] (.rd (ai (cZ t vs))):=by
 refine fE func237 λS w0 hS hJ0=>?_
 refine tw cc (ln 0 λcx=>?_)
 refine ln 1 λ_=>?_
 refine ak tb V [0,1] [_] U2 ?_
 refine aL (ko bx V Y Y Y (lb Y) λv1=>?_)
 refine ao 1 tb Y (aA [0,2,3] U3 Y ?_)
 refine nx (af (ak tb V [0,1,2,1000] [_] U4 ?_))
 refine ax (lpo (ι:=Nat×Value×(List BA)) (λ(k,_,out)=>(k<=t.length)/\(out=cZ (t.take k) vs)/\(out.length<=k)) (λ(_,v,out)=>[OB.row v 9 1 (out.map dJ)]) (λ(k,v,_)=>[(6,.int (k:Nat)),(5,.lit v)]) (λ(k,_,_)=>t.length-k) [1,2,3,0] U2 (0,v1,([]:List BA)) ⟨aI,Y,Nat.le_refl _⟩ ?_)
 rintro⟨k,v,out⟩ ⟨aQ,ah,bp⟩
 refine af (au tb V [0,1,2,3,1003] [_,_,.int (t.length:Nat),_] [2] U5 Y ⟨aD b6,U⟩ ?_)
 refine cj 4 ?_ ?_<;>intro hb1<;>try simp at hb1
 ·
  refine aj (nx (af (ax (lZ tb V [0,1,2,3,1014] (V3 [.ptr [lS (G t k)],_,.bool (decide ((G t k)∈vs)),_,_,_,_,.ptr [lS (G t k)],_,.bool (decide ((G t k)∈out)),_,_]) [3,5,10,12] U5 Y ⟨bn bx,Fu hS V (C4 V vs (G t k)) (cO func254),cN bx (hk:=λ(aF:((decide ((G t k)∈vs))==true)=true)=>by(try simp at aF);first | omega | (simp;omega) | grind[aC]),λ_ _ hk Z hl hc=>cQ (C4 V out (G t k)) (cO func254) Y (nm hS hk) (Z.1) (aq (kB hS Z (mo 0 Y) (hl.D 7 21 Y hc)) (aq (hl.D 11 25 Y hc) aP)) (jo V Z),U⟩ ?_))))
  refine cj 4 ?_ ?_<;>intro hb2<;>try simp at hb2
  ·
   refine cG (ao 3 tb Y (sy (.ptr [lS (G t k)]) (λh=>cb (i:=(k:Int)) bx Y (h.get 1 Y) (h.get 0 Y) bM (cq (xs:=t) (k:=k) az) Y h.x) ?_))
   refine ao 1 tb Y (sy (.rd (ai ([(G t k)]))) (λh=>ft bx j0 Y (h.get 0 Y) (aK hS _ h.keep h.x _ aV) (jo V h.x)) ?_)
   refine fP (f:=dJ) (m:=5) (s:=29) out ([(G t k)]) (λ_=>Y) j6 V hJ0 Y Y Y (lb Y) Y Y (λa w h=>(h.get 0 Y)) az az λv2=>?_
   refine ao 1 tb Y (aA [0,2,8,9,10] U5 Y ?_)
   refine nx (ln 1 λhl3=>?_)
   refine aT tb V [0,2,3,1002] [_,.int (k+1:Nat),_] [1] U4 Y ⟨aM,U⟩ ?_
   exact bq (k+1,v2,out++([(G t k)])) [1,2,3,0] ⟨oz,by rw[wX oz,<-ah];simp_all[kA],by simp;omega⟩
  ·
   refine aj (nx (aT tb V [0,1,3,1002] [_,.int (k+1:Nat),_] [1] U4 Y ⟨aM,U⟩ ?_))
   exact bq (k+1,v,out) [0,1,3,2] ⟨oz,by rw[wX oz,<-ah];simp[kA];grind,oz⟩
 ·
  refine aW (nx (ak tb V [1001] U2 [_] ?_))
  exact tw (λh=>dV hS h (m:=0) (s:=4) Y) (bL 0 (hE:=congrArg (λz=>AV.rd (ai z)) (show out=(cZ t vs)from by rw[ah,cS oz])))
theorem Da (pa pb:BA)  :Fn prog J 238 [.str pa,.str pb] (.agg (aR (c8 ⟨pa,pb⟩))):=by
 refine fE func238 λS w0 hS hJ0=>?_
 refine tw cc (aL ?_)
 refine cz na V Y Y Y (lb Y) λb1=>?_
 refine aA [0,1,2] U3 Y (nx (af (ak tb V [0,1,2,1002] U3 U4 ?_)))
 refine cj 3 ?_ ?_<;>intro hb1<;>try simp at hb1
 ·
  refine aL (ao 2 tb Y (sq (.agg (aR (⟨pb,pa⟩:Pr))) Y Y (lb Y) (λa _ h=>gd (us:=[a.eval (.tmp 8),a.eval (.tmp 9)]) yx Y yz (bX (h.get 1 Y) (bX (h.get 0 Y) cE)) Y h.x) ?_))
  refine ck (b:=b1) (off:=0) (es:=U2) (news:=U2) V hJ0 jZ Y Y Y (lb Y) Y (λa w h=>⟨(h.get 3 Y),(h.get 0 Y)⟩) ?_
  exact aA [3] [_] Y (nx (aZ (λa w h=>jU (m:=0) Y ju h Y Y (show(_:List CD)=[lS ((c8 ⟨pa,pb⟩).a),lS ((c8 ⟨pa,pb⟩).b)]from by(simp[c8,hb1])<;>rfl))))
 ·
  refine aj (nx (aL (ao 2 tb Y (sq (.agg (aR (⟨pa,pb⟩:Pr))) Y Y (lb Y) (λa _ h=>gd (us:=[a.eval (.tmp 11),a.eval (.tmp 12)]) yx Y yz (bX (h.get 1 Y) (bX (h.get 0 Y) cE)) Y h.x) ?_))))
  refine ck (b:=b1) (off:=0) (es:=U2) (news:=U2) V hJ0 jZ Y Y Y (lb Y) Y (λa w h=>⟨(h.get 3 Y),(h.get 0 Y)⟩) ?_
  exact aA [3] [_] Y (nx (aZ (λa w h=>jU (m:=0) Y ju h Y Y (show(_:List CD)=[lS ((c8 ⟨pa,pb⟩).a),lS ((c8 ⟨pa,pb⟩).b)]from by(simp[c8,hb1])<;>rfl))))
theorem KQ (l:List Bd) (ap:List Pr) (us:List BA) (hap:ap.length<=100000) (hl:∀ b∈l,b.ac.length<=2000):Fn prog J 209 [.rd (fj l),.rd (bI ap),.rd (ai us)] (.rd (bI (fe l ap us))):=by
 refine fE func209 λS w0 hS hJ0=>?_
 refine tw cc (ln 0 λcx=>?_)
 refine ln 1 λ_=>?_
 refine ln 2 λ_=>?_
 refine ak tb V [0,1,2] [_] U3 ?_
 refine aL (ko de V Y Y Y (lb Y) λv1=>?_)
 refine ao 1 tb Y (aA [0,2,3,4] U4 Y ?_)
 refine nx (af (ak tb V [0,1,2,3,1000] [_] U5 ?_))
 refine ax (lpo (ι:=Nat×Value×(List Pr)) (λ(k,_,out)=>(k<=ap.length)/\(out=(ap.take k).flatMap (pd l us))/\(out.length<=4000000*k)) (λ(_,v,out)=>[OB.row v 162 2 (out.map aR)]) (λ(k,v,_)=>[(8,.int (k:Nat)),(7,.lit v)]) (λ(k,_,_)=>ap.length-k) [1,2,3,4,0] U3 (0,v1,([]:List Pr)) ⟨aI,Y,by simp⟩ ?_)
 rintro⟨k,v,out⟩ ⟨aQ,ah,bp⟩
 refine af (au tb V (r5 [1003]) [_,_,.int (ap.length:Nat),_] [2] U6 Y ⟨aD fH,U⟩ ?_)
 refine cj 5 ?_ ?_<;>intro hb1<;>try simp at hb1
 ·
  have ea:=Gi (us:=us) (s:=(G ap k).a) hl
  have eb:=Gi (us:=us) (s:=(G ap k).b) hl
  refine aj (nx (af (ax (af (aT tb V (r5 [1006,1008,1009]) (V3 [.ptr (aR (G ap k)),_,_,.rd (ai (bg (ay l) ((G ap k).a))),_,.rd (ai (cZ (bg (ay l) ((G ap k).a)) us)),_]) [3,6,8] U8 Y ⟨bn de,bN hS V (sK V l ((G ap k).a)) (cO func207),bN hS V (C8 V (bg (ay l) ((G ap k).a)) us (qa (m:=2000) oz hl _)) (cO func237),U⟩ ?_)))))
  refine kw (sa 7 Y (show(.rd (ai (cZ (bg (ay l) ((G ap k).a)) us)):AV)= .rd (ai (dj l us (G ap k).a))from by rw[Gh])) (nx (ln 5 λtF=>?_))
  refine ln 6 λ_=>?_
  refine ln 7 λ_=>?_
  refine af (aT tb V (r5 [7,1006,1008,1009]) (V3 [.ptr (aR (G ap k)),_,_,.rd (ai (bg (ay l) ((G ap k).b))),_,.rd (ai (cZ (bg (ay l) ((G ap k).b)) us)),_]) [3,6,8] U9 Y ⟨bn de,bN hS V (sK V l ((G ap k).b)) (cO func207),bN hS V (C8 V (bg (ay l) ((G ap k).b)) us (qa (m:=2000) oz hl _)) (cO func237),U⟩ ?_)
  refine kw (sa 8 Y (show(.rd (ai (cZ (bg (ay l) ((G ap k).b)) us)):AV)= .rd (ai (dj l us (G ap k).b))from by rw[Gh])) (nx (ln 6 λOI=>?_))
  refine ln 7 λ_=>?_
  refine ln 8 λ_=>?_
  refine ak tb V (r6 [8,1000]) [_] U8 ?_
  refine ax (lpo (ι:=Nat×Value×(List Pr)) (λ(j,_,fz)=>(j<=(dj l us (G ap k).a).length)/\(fz=(ap.take k).flatMap (pd l us)++((dj l us (G ap k).a).take j).flatMap (se l us (G ap k)))/\(fz.length<=4000000*k+2000*j)) (λ(_,v2,fz)=>[OB.row v2 162 2 (fz.map aR)]) (λ(j,v2,_)=>[(11,.int (j:Nat)),(7,.lit v2)]) (λ(j,_,_)=>(dj l us (G ap k).a).length-j) [0,1,2,3,5,6,7,4] U6 (0,v,out) ⟨aI,by simp only[List.take_zero,List.flatMap_nil,List.append_nil];exact ah,oz⟩ ?_)
  rintro⟨j,v2,fz⟩ ⟨fx,bi,iN⟩
  refine af (au tb V (r8 [1003]) [_,_,.int ((dj l us (G ap k).a).length:Nat),_] [2] U9 Y ⟨aD b6,U⟩ ?_)
  refine cj 8 ?_ ?_<;>intro hb2<;>try simp at hb2
  ·
   refine aj (nx (af (ax (ak tb V (r8 [1000]) [_] U9 ?_))))
   refine ax (lpo (ι:=Nat×Value×(List Pr)) (λ(i,_,mU)=>(i<=(dj l us (G ap k).b).length)/\(mU=(ap.take k).flatMap (pd l us)++((dj l us (G ap k).a).take j).flatMap (se l us (G ap k))++((dj l us (G ap k).b).take i).map (λy=>c8 ⟨G (dj l us (G ap k).a) j,y⟩))/\(mU.length<=4000000*k+2000*j+i)) (λ(_,v3,mU)=>[OB.row v3 162 2 (mU.map aR)]) (λ(i,v3,_)=>[(12,.int (i:Nat)),(7,.lit v3)]) (λ(i,_,_)=>(dj l us (G ap k).b).length-i) (r7 [8,7]) U7 (0,v2,fz) ⟨aI,by simp only[List.take_zero,List.map_nil,List.append_nil];exact bi,oz⟩ ?_)
   rintro⟨i,v3,mU⟩ ⟨ri,jO,zg⟩
   refine af (au tb V (r9 [1003]) [_,_,.int ((dj l us (G ap k).b).length:Nat),_] [2] fw Y ⟨aD b6,U⟩ ?_)
   refine cj 9 ?_ ?_<;>intro aE<;>try simp at aE
   ·
    refine aj (nx (af (ax (λa w h=>oZ [] (γ:=Value) (λix'=>([.lit v3,.rd (ai (dj l us (G ap k).a)),.int (j:Nat),.ptr [lS (G (dj l us (G ap k).a) j)],.str (G (dj l us (G ap k).a) j),.rd (ai (dj l us (G ap k).b)),.int (i:Nat),.ptr [lS (G (dj l us (G ap k).b) i)],.str (G (dj l us (G ap k).b) i),.agg (aR (c8 ⟨(G (dj l us (G ap k).a) j),(G (dj l us (G ap k).b) i)⟩)),.rd (bI ([(c8 ⟨(G (dj l us (G ap k).a) j),(G (dj l us (G ap k).b) i)⟩)])),.any,.any]:List AV).getD ix' .any) (λ_=>true) [(0,λ_=>.rd (fj l)),(1,λ_=>.rd (bI ap)),(2,λ_=>.rd (ai us)),(8,λ_=>.int (k:Nat)),(9,λ_=>.rd (ai (dj l us (G ap k).a))),(10,λ_=>.rd (ai (dj l us (G ap k).b))),(11,λ_=>.int (j:Nat)),(12,λ_=>.int (i:Nat)),(7,λg=>.lit g)] (λj' g=>match j' with | 0=>[OB.row v3 162 2 (mU.map aR)] | _=>[OB.row g 162 2 ((mU++([(c8 ⟨(G (dj l us (G ap k).a) j),(G (dj l us (G ap k).b) i)⟩)])).map aR)]) (λk' g=>match k' with | 0=>g | 1=>g | _=>undef) [11,12] 2 (.slice none 0 0) (λ_=>Y) h V cP Y Y Y Y Y Y hsb ⟨oX Y λZ hl=>b8 Y (hl.env 8 7 _ Y Y) Z,oX Y λZ hl=>b8 Y (hl.env 4 9 _ Y Y) Z,oX Y λZ hl=>b8 Y (hl.env 6 11 _ Y Y) Z,?_,oX Y λZ hl=>bU fd Y (hl.D 3 53 Y Y) Z,oX Y λZ hl=>b8 Y (hl.env 5 10 _ Y Y) Z,oX Y λZ hl=>b8 Y (hl.env 7 12 _ Y Y) Z,?_,oX Y λZ hl=>bU fd Y (hl.D 7 57 Y Y) Z,λ_ O' _=>⟨Y,λa _ hk Z hl _=>cQ (Da V (G (dj l us (G ap k).a) j) (G (dj l us (G ap k).b) i)) (cO func238) Y (aK hS _ hk Z) (Z.1) (aq (hl.D 4 54 Y Y) (aq (hl.D 8 58 Y Y) aP)) (jo V Z)⟩,?_,bB Y,bB Y,U⟩ ⟨?y0,?y4,U⟩ ⟨.old 0 0 _,.old 1 1 _,.old 2 2 _,.old 3 8 _,.old 4 9 _,.old 5 10 _,.old 6 11 _,.old 7 12 _,.dZ 1 12 7 (λ(g:Value)=>g) Y Y (λ_=>Y) (λ_ _ Z=>m6 (Z.2.1 _ (mo 0 Y))),U⟩ ?QL))))
    exact λ_ O' _=>⟨Y,λa _ _ Z hl _=>cb (i:=(j:Int)) bx Y (hl.D 1 51 Y Y) (hl.D 2 52 Y Y) bM (cq (xs:=(dj l us (G ap k).a)) (k:=j) az) Y Z⟩
    exact oX Y λZ hl=>cb (i:=(i:Int)) bx Y (hl.D 5 55 Y Y) (hl.D 6 56 Y Y) bM (cq (xs:=(dj l us (G ap k).b)) (k:=i) az) Y Z
    exact oY Y λhk Z hl=>mY de Cd dz Y Y (hl.D 9 59 Y Y) (aK hS _ hk Z _ aV) (jo V Z)
    case y0=>exact⟨_,Y,Y,Y,Y,λ_ a w hk Z hl _=>bC (lj (f:=aR) mU ([(c8 ⟨(G (dj l us (G ap k).a) j),(G (dj l us (G ap k).b) i)⟩)]) (λ_=>rfl) u4 V hJ0 Y hk Z (hl.D 0 50 Y Y).lit (hl.D 10 60 Y Y) (by simp;omega) (by simp;omega)) λv w' hp=>⟨v,Y,λk' hk'=>absurd hk' (Nat.not_lt_zero _),λ_=>rfl,hp⟩⟩
    case y4=>exact⟨_,Y,Y,Y,Y,λg _ w hk Z _ hs=>bC (rc (.inl Y) (hs 0 11 _ 61 oz Y Y Y) hk Z) λv w' hp=>⟨g,Y,λ_ _=>rfl,λ_=>hp.1,hp.2⟩⟩
    clear a w h
    intro v2
    dsimp only[List.map]
    refine nx (ln 4 λW9=>?_)
    refine ln 5 λ_=>?_
    refine aT tb V (r7 [8,1002]) [_,.int (i+1:Nat),_] [1] U9 Y ⟨aM,U⟩ ?_
    exact bq (i+1,v2,mU++([(c8 ⟨(G (dj l us (G ap k).a) j),(G (dj l us (G ap k).b) i)⟩)])) (r7 [8,7]) ⟨oz,by rw[AJ oz,<-append_assoc,<-jO],by simp;omega⟩
   ·
    refine aW (nx (aT tb V (r6 [8,1002]) [_,.int (j+1:Nat),_] [1] U8 Y ⟨aM,U⟩ ?_))
    exact bq (j+1,v3,mU) (r6 [7,6]) ⟨oz,by rw[tj oz,<-append_assoc,<-bi,jO,cS (xs:=(dj l us (G ap k).b)) oz,<-bi];rfl,oz⟩
  ·
   refine aW (nx (aT tb V [0,1,2,7,1002] [_,.int (k+1:Nat),_] [1] U5 Y ⟨aM,U⟩ ?_))
   exact bq (k+1,v2,fz) [0,1,2,4,3] ⟨oz,by rw[tj oz,<-ah,bi,cS (xs:=(dj l us (G ap k).a)) oz,<-ah];rfl,oz⟩
 ·
  refine aW (nx (ak tb V [1001] U2 [_] ?_))
  exact tw (λh=>dV hS h (m:=0) (s:=6) Y) (bL 0 (hE:=congrArg (λz=>AV.rd (bI z)) (show out=(fe l ap us)from by rw[ah,cS oz,Bv])))
theorem KK (wd:List Pr) (x:Pr)  :Fn prog J 210 [.rd (bI wd),.agg (aR x)] (.bool (decide (x∈wd.map c8))):=by
 refine fE func210 λS w0 hS hJ0=>?_
 refine tw cc (ln 0 λcx=>?_)
 refine au tb V [0,1000] [.ptr (aR x),_] [0] U2 Y ⟨cW hS V,U⟩ ?_
 refine af (ak tb V [0,1,1000] [_] U3 ?_)
 refine ax (lpo (ι:=Nat) (λk=>(k<=wd.length)/\(∀ j,j<k->¬ c8 (G wd j)=x)) (λ_=>[]) (λk=>[(5,.int (k:Nat))]) (λk=>wd.length-k) [0,1,2] U2 0 ⟨aI,λj hj=>by omega⟩ ?_)
 rintro k ⟨aQ,ah⟩
 refine af (au tb V [0,1,2,1003] [_,_,.int (wd.length:Nat),_] [2] U4 Y ⟨aD fH,U⟩ ?_)
 refine cj 3 ?_ ?_<;>intro hb1<;>try simp at hb1
 ·
  refine aj (nx (af (ax (au tb V [0,1,2,1012] [_,_,.ptr (aR (G wd k)),_,_,_,_,.ptr (aR (G wd k)),_,_,.agg (aR (c8 ⟨((G wd k).a),((G wd k).b)⟩)),_,.bool (decide ((c8 ⟨((G wd k).a),((G wd k).b)⟩).a=x.a)&&decide ((c8 ⟨((G wd k).a),((G wd k).b)⟩).b=x.b))] [2,7,10,12] U4 Y ⟨bn de,bn de,bN hS V (Da V ((G wd k).a) ((G wd k).b)) (cO func238),λ_ _ _ Z hl _=>Bk rf Y (hl.D 10 22 Y Y) (hl.D 11 23 Y Y) Z,U⟩ ?_))))
  refine cj 3 ?_ ?_<;>intro hb2<;>try simp at hb2
  ·
   refine ak tb V [1000] [_] [_] ?_
   exact bL 0 (hE:=eB (by rw[decide_eq_true (S6 hb1 (sb.1 (by simpa [ib]using hb2)))]))
  ·
   refine aj (nx (aT tb V [0,1,1002] [_,.int (k+1:Nat),_] [1] U3 Y ⟨aM,U⟩ ?_))
   exact bq (k+1) [0,1,2] ⟨oz,cF ah (λe=>by simp[e]at hb2)⟩
 ·
  refine aW (nx (ak tb V [1000] [_] [_] ?_))
  exact bL 0 (hE:=eB (by rw[decide_eq_false (S7 λj hj=>ah j oz)]))
theorem Km (l:List Bd) (ap:List Pr) (us:List BA) (wd:List Pr) (hap:ap.length<=100000) (hl:∀ b∈l,b.ac.length<=2000):Fn prog J 168 [.rd (fj l),.rd (bI ap),.rd (ai us),.rd (bI wd)] (.bJ [.agg (aR (fB l ap us wd)),.bool (eL l ap us wd)]):=by
 refine fE func168 λS w0 hS hJ0=>?_
 refine tw cc (ln 0 λcx=>?_)
 refine ln 1 λ_=>?_
 refine ln 2 λ_=>?_
 refine ln 3 λ_=>?_
 refine aL (cz na V Y Y Y (lb Y) λb1=>?_)
 refine ao 1 tb Y (aA [1,2,3,4,5] U5 Y ?_)
 refine nx (au tb V [0,4,1003,1004] (V3 [.rd (bI (fe l ap us)),_]) [3] U4 Y ⟨bN hS V (KQ V l ap us az az) (cO func209),U⟩ ?_)
 refine ln 2 λ_=>?_
 refine af (ak tb V [0,1,3,1000] [_] U4 ?_)
 refine ax (lpo (ι:=Nat) (λk=>(k<=(fe l ap us).length)/\(∀ j,j<k->gC wd (G (fe l ap us) j)=false)) (λ_=>[OB.var b1 [lS (⟨#[]⟩:BA),lS (⟨#[]⟩:BA)]]) (λk=>[(11,.int (k:Nat))]) (λk=>(fe l ap us).length-k) [0,1,2,3] U3 0 ⟨aI,λj hj=>by omega⟩ ?_)
 rintro k ⟨aQ,ah⟩
 refine af (au tb V [0,1,2,3,1003] [_,_,.int ((fe l ap us).length:Nat),_] [2] U5 Y ⟨aD fH,U⟩ ?_)
 refine cj 4 ?_ ?_<;>intro hb1<;>try simp at hb1
 ·
  refine aj (nx (af (ax (au tb V [0,1,2,3,1019] [_,_,.ptr (aR (G (fe l ap us) k)),_,_,_,_,.ptr (aR (G (fe l ap us) k)),_,_,_,_,_,_,_,.ptr (aR (G (fe l ap us) k)),_,.bool (decide ((G (fe l ap us) k)∈wd.map c8)),_,_] [2,7,15,17] U5 Y ⟨bn de,bn de,cN de (hk:=λ(aF:((decide (((G (fe l ap us) k).a)=((G (fe l ap us) k).b)))==false)=true)=>by(try simp at aF);first | omega | (simp;omega) | grind[aC]),bN hS V (KK V wd (G (fe l ap us) k)) (cO func210),U⟩ ?_))))
  refine cj 4 ?_ ?_<;>intro hb2
  ·
   have e3:jL l ap us wd=some (G (fe l ap us) k):=J0 hb1 ah (by rw[<-hb2,gC,Bool.or_comm])
   refine aL (ao 2 tb Y (sy (.ptr (aR (G (fe l ap us) k))) (λh=>cb (i:=(k:Int)) de Y (h.get 1 Y) (h.get 0 Y) bM (cq (xs:=(fe l ap us)) (k:=k) az) Y h.x) ?_))
   refine ao 1 tb Y (ck (b:=b1) (off:=0) (es:=U2) (news:=U2) V hJ0 jZ Y Y Y (lb Y) Y (λa w h=>⟨(h.get 4 Y),(h.get 0 Y)⟩) ?_)
   refine ao 1 tb Y (aA [0,5] U2 Y ?_)
   exact nx (aZ (λa w h=>iS (m:=1) (q:=0) Y ju h Y Y (show(_:List CD)=[lS ((fB l ap us wd).a),lS ((fB l ap us wd).b)]from by(simp[fB, *])<;>rfl) Y (eB (by simp[eL, *]))))
  ·
   have e4:gC wd (G (fe l ap us) k)=false:=by rw[<-hb2,gC,Bool.or_comm]
   refine aj (nx (aT tb V [0,1,2,1002] [_,.int (k+1:Nat),_] [1] U4 Y ⟨aM,U⟩ ?_))
   exact bq (k+1) [0,1,2,3] ⟨oz,cF ah e4⟩
 ·
  have e5:jL l ap us wd=none:=J4 λj hj=>ah j oz
  refine aW (nx (aL (sy (.agg (aR (⟨⟨#[]⟩,⟨#[]⟩⟩:Pr))) (λh=>gg (ps:=[]) (us:=[.string ⟨#[]⟩,.string ⟨#[]⟩]) CX Y yz f9 Y (dP (.lit _ aI) (dP (.lit _ aI) cE)) h.x) ?_)))
  refine ck (b:=b1) (off:=0) (es:=U2) (news:=U2) V hJ0 jZ Y Y Y (lb Y) Y (λa w h=>⟨(h.get 1 Y),(h.get 0 Y)⟩) ?_
  refine ao 1 tb Y (aA [0,2] U2 Y ?_)
  exact nx (aZ (λa w h=>iS (m:=1) (q:=0) Y ju h Y Y (show(_:List CD)=[lS ((fB l ap us wd).a),lS ((fB l ap us wd).b)]from by(simp[fB, *])<;>rfl) Y (eB (by simp[eL, *]))))
end
end
section
open Go.RowKit
theorem Hi:∀(r:List Value) (s off:Nat) (pre old post:List Value),pre.length=off+s->old.length=r.length->
 (r.zipIdx s).foldl (λ(cs:Array Value) (x:Value×Nat)=>cs.setIfInBounds (off+x.2) x.1) (pre++old++post).toArray=(pre++r++post).toArray
 | [],s,off,pre,old,post,_,h2=>by
  have:old=[]:=List.length_eq_zero_iff.1 (by simpa using h2)
  subst this
  rfl
 | v::r,s,off,pre,old,post,h1,h2=>by
  match old,h2 with
  | u::old,h2=>
   rw[List.zipIdx_cons,List.foldl_cons]
   have e:((pre++u::old++post).toArray.setIfInBounds (off+s) v)=((pre++[v])++old++post).toArray:=by
    rw[List.setIfInBounds_toArray]
    congr 1
    rw[append_assoc,List.set_append_right _ _ oz,h1.symm,Nat.sub_self]
    simp
   rw[e,Hi r (s+1) off (pre++[v]) old post (by simp;omega) (by simpa using h2)]
   simp
theorem DU {k:Nat}:∀(rows:List (List Value)) (i:Nat) (pre z:List Value),pre.length=i*k->z.length=rows.length*k->(∀ r∈rows,r.length=k)->
 Instr.fill (λi=>some (i*k,k)) (pre++z).toArray ((rows.zipIdx i).map λp=>(p.2,Value.agg p.1.toArray))=some (pre++rows.flatten).toArray
 | [],i,pre,z,_,h2,_=>by
  have:z=[]:=List.length_eq_zero_iff.1 (by simpa using h2)
  subst this
  simp[Instr.fill]
 | r::rows,i,pre,z,h1,h2,h3=>by
  have hr:=h3 r yz
  have hz:z.length=k+rows.length*k:=by rw[h2,length_cons,Nat.succ_mul,Nat.add_comm]
  have hcell:(Value.agg r.toArray).cells=r.toArray:=rfl
  simp only[List.zipIdx_cons,List.map_cons,Instr.fill,hcell]
  rw[if_neg (by simp[hr];omega)]
  have e:(Array.foldl (λcs (x:Value×Nat)=>cs.setIfInBounds (i*k+x.snd) x.fst) (pre++z).toArray r.toArray.zipIdx)=((pre++r)++z.drop k).toArray:=by
   have:=Hi r 0 (i*k) pre (z.take k) (z.drop k) h1 (by rw[length_take];omega)
   rw[append_assoc pre,List.take_append_drop]at this
   rw[<-this]
   simp
  rw[e,DU rows (i+1) (pre++r) (z.drop k) (by rw[length_append,h1,hr,Nat.succ_mul]) (by rw[List.length_drop];omega) λq hq=>h3 q (by simp[hq])]
  simp
section
variable {n:Rn} {N:Nat} {P:Program} {J X:WP} {S S' gB:Nat->Prop} {O:List OB} {w0:World} {env:List (Nat×AV)} {Q:Exit->Act->WP}
variable {o:Oper} {a:Act} {w:World} {t e u:TypeId} {x y:Operand}
theorem H3 {k:Nat}:∀ {cs:List (List CD)} {vs:List Value},bd S w (cs.map AV.agg) vs->(∀ r∈cs,r.length=k)->
 ∃ us:List (List Value),vs=us.map (λr=>Value.agg r.toArray)/\us.length=cs.length/\(∀ r∈us,r.length=k)/\bD S w cs.flatten us.flatten
 | [],vs,h,_=>by
  simp only[List.map_nil,bd]at h
  subst h
  exact⟨[],rfl,rfl,by simp,trivial⟩
 | c::cs,vs,h,hk=>by
  simp only[List.map_cons,bd]at h
  obtain⟨v,vs',rfl,h1,h2⟩:=h
  simp only[Rel]at h1
  obtain⟨u,rfl,hr⟩:=h1
  obtain⟨us,rfl,hl,hk2,fb⟩:=H3 (cs:=cs) h2 λr hr=>hk r (by simp[hr])
  refine⟨u::us,rfl,by simp[hl],λr ed=>?_,?_⟩
  · rcases mem_cons.1 ed with rfl | ed
    · rw[hr.length];exact hk c yz
    · exact hk2 r ed
  · rw[flatten_cons,flatten_cons]
    exact hr.append fb
theorem HH {k m:Nat} {cs:List (List CD)} {vs:List Value} {z:Array Value} {parts:Array (Nat×Operand)} (ht:dx P t e k) (hz:∀ w,(zeroValue e).run P w= .ok (.agg z) w) (hop:o.op= .buildSlice t m parts) (hp:(parts.map λ(i,x)=>(i,a.eval x)).toList=vs.zipIdx.map λp=>(p.2,p.1)) (h:bd S w (cs.map AV.agg) vs) (hk:∀ r∈cs,r.length=k) (hl:cs.length=m) (h1:1<=k) (hm:1<=m*k) (hm2:m*k<=16777216)
 (hS:S w.heap.size) (Z:∀ w',Keeps All w w'->X w'):Does n P o a w (bE S X (.rd (.sl cs)) w):=by
 obtain⟨us,rfl,ku,Fi,nG⟩:=H3 h hk
 have fa:us.flatten.length=m*k:=by
  have:∀ us:List (List Value),(∀ r∈us,r.length=k)->us.flatten.length=us.length*k:=by
   intro us
   induction us with
   | nil=>simp
   | cons r us ih=>intro h;rw[flatten_cons,length_append,h r yz,ih λq hq=>h q (by simp[hq]),length_cons,Nat.succ_mul,Nat.add_comm]
  rw[this us Fi,ku,hl]
 have hf:=DU us 0 [] ((List.range (m*k)).map (z[· %z.size]!)) yz (by simp[ku,hl]) Fi
 have Ou:Instr.fill (λi=>some (i*k,k)) ((Array.range (m*k)).map (z[· %z.size]!)) (parts.map λ(i,x)=>(i,a.eval x)).toList=some us.flatten.toArray:=by
  rw[hp,List.zipIdx_map,map_map]
  have e:(Array.range (m*k)).map (z[· %z.size]!)=([]++(List.range (m*k)).map (z[· %z.size]!)).toArray:=by
   apply Array.ext'
   simp[Array.toList_range]
  rw[e]
  exact hf
 have hk':Keeps All w (w.alloc (.cells us.flatten.toArray e)):=(Keeps.refl _ _).alloc _
 refine eh (v:=.slice (some ⟨w.heap.size,0,none⟩) m m) (w':=w.alloc (.cells us.flatten.toArray e)) ?_ ⟨?_,hk',Z _ hk'⟩
 · have Oj:(Value.agg z).cells=z:=rfl
   rw[execOp,hop]
   simp only[Sem.run_bind,Instr.buildSlice,run_underlying ht.1,Result.andThen_ok,ht.2 w]
   simp[newRow,newObj]
   rw[hz w]
   simp only[Result.andThen_ok,Oj]
   have EV:=Ou
   simp only[Array.toList_map]at EV
   simp only[EV]
   rw[if_neg oz,if_neg oz]
   rfl
 · simp only[Rel]
   rw[show(m:Nat)=cs.length from hl.symm]
   refine Rd.of_cells (n:=k) (us:=us.flatten) aV (by rw[hl];exact Nat.le_trans (Nat.le_mul_of_pos_right m h1) (Nat.le_trans hm2 dz)) yz hS hk (nG.keep hk' λ_ _ _=>trivial) λj u hj=>nq j u hj
end
theorem yy:lE prog 182 2:=⟨#[.string ⟨#[]⟩,.slice none 0 0],Y,λi=>(#[(0,1),(1,1)]:Array (Nat×Nat))[i]?,λj hj=>by rcases j with _ | _ | j<;>first | rfl | omega,λparts=>by kernel_rfl⟩
section
variable {J:WP} (V:aS J)
include V
theorem Kq (f:Fr) (s:BA)  :Fn prog J 129 [.agg (aY f),.str s] (.bJ [.agg (aN ((cy f s).getD default)),.bool ((cy f s).isSome)]):=by
 refine fE func129 λS w0 hS hJ0=>?_
 refine tw cc (aL ?_)
 refine sy (.ptr (aY f)) (λh=>gc Y (h.get 0 Y) (aK hS _ h.keep h.x _ aV) (jo V h.x)) ?_
 refine cz kK V Y Y Y (lb Y) λb1=>?_
 refine ao 1 tb Y (aA [1,2,4] U3 Y ?_)
 refine nx (af (ak tb V [0,1,2,1000] [_] U4 ?_))
 refine ax (lpo (ι:=Nat) (λk=>(k<=f.aa.length)/\(∀ j,j<k->¬ (G f.aa j).ae=s)) (λ_=>[OB.var b1 [lS (⟨#[]⟩:BA),lB false,ai ([]:List BA)]]) (λk=>[(6,.int (k:Nat))]) (λk=>f.aa.length-k) [0,1,2,3] U3 0 ⟨aI,λj hj=>by omega⟩ ?_)
 rintro k ⟨aQ,ah⟩
 refine af (au tb V [0,1,2,3,1002,1004] (V3 [.int (f.aa.length:Nat),_]) [3] U6 Y ⟨aD cT,U⟩ ?_)
 refine ln 4 λ_=>?_
 refine cj 5 ?_ ?_<;>intro hb1<;>try simp at hb1
 ·
  refine aj (nx (af (ax (au tb V [0,1,2,3,1007] (V3 [.ptr (aN (G f.aa k)),_,_,_,_]) [3] U5 Y ⟨bn cD,U⟩ ?_))))
  refine cj 4 ?_ ?_<;>intro hb2<;>try simp at hb2
  ·
   have e3:cy f s=some (G f.aa k):=Ap (k:=0) oz (λi hi=>by omega) hb1 ah hb2
   refine aL (ao 3 tb Y (sy (.ptr (aN (G f.aa k))) (λh=>cb (i:=(k:Int)) cD Y (h.get 1 Y) (h.get 0 Y) bM (cq (xs:=f.aa) (k:=k) az) Y h.x) ?_))
   refine ao 1 tb Y (ck (b:=b1) (off:=0) (es:=U3) (news:=U3) V hJ0 jn Y Y Y (lb Y) Y (λa w h=>⟨(h.get 5 Y),(h.get 0 Y)⟩) ?_)
   refine ao 1 tb Y (aA [0,6] U2 Y ?_)
   exact nx (aZ (λa w h=>iS (m:=1) (q:=0) Y nk h Y Y (show(_:List CD)=[lS (((cy f s).getD default).ae),lB (((cy f s).getD default).be),ai (((cy f s).getD default).ac)]from by(rw[e3];rfl)<;>rfl) Y (eB (by rw[e3];rfl))))
  ·
   refine aj (nx (aT tb V [0,1,2,1002] [_,.int (k+1:Nat),_] [1] U4 Y ⟨aM,U⟩ ?_))
   exact bq (k+1) [0,1,2,3] ⟨oz,cF ah hb2⟩
 ·
  have EH:∀ i,i<1->∀ h∈fQ f.aa f.bA i,¬ h.ae=s:=λi hi h hh=>by obtain rfl:i=0:=oz;obtain⟨j,hj,rfl⟩:=ee (show h∈f.aa from hh);exact ah j oz
  refine aW (nx (af (ak tb V [0,1,2,1000] [_] U4 ?_)))
  refine ax (lpo (ι:=Nat) (λq=>(q<=f.bA.length)/\(∀ j,j<q->¬ (G f.bA j).ae=s)) (λ_=>[OB.var b1 [lS (⟨#[]⟩:BA),lB false,ai ([]:List BA)]]) (λq=>[(7,.int (q:Nat))]) (λq=>f.bA.length-q) [0,1,2,3] U3 0 ⟨aI,λj hj=>by omega⟩ ?_)
  rintro q ⟨fx,bi⟩
  refine af (au tb V [0,1,2,3,1002,1004] (V3 [.int (f.bA.length:Nat),_]) [3] U6 Y ⟨aD cT,U⟩ ?_)
  refine ln 4 λ_=>?_
  refine cj 5 ?_ ?_<;>intro aE<;>try simp at aE
  ·
   refine aj (nx (af (ax (au tb V [0,1,2,3,1007] (V3 [.ptr (aN (G f.bA q)),_,_,_,_]) [3] U5 Y ⟨bn cD,U⟩ ?_))))
   refine cj 4 ?_ ?_<;>intro bh<;>try simp at bh
   ·
    have e3:cy f s=some (G f.bA q):=Ap (k:=1) oz EH aE bi bh
    refine aL (ao 3 tb Y (sy (.ptr (aN (G f.bA q))) (λh=>cb (i:=(q:Int)) cD Y (h.get 1 Y) (h.get 0 Y) bM (cq (xs:=f.bA) (k:=q) az) Y h.x) ?_))
    refine ao 1 tb Y (ck (b:=b1) (off:=0) (es:=U3) (news:=U3) V hJ0 jn Y Y Y (lb Y) Y (λa w h=>⟨(h.get 5 Y),(h.get 0 Y)⟩) ?_)
    refine ao 1 tb Y (aA [0,6] U2 Y ?_)
    exact nx (aZ (λa w h=>iS (m:=1) (q:=0) Y nk h Y Y (show(_:List CD)=[lS (((cy f s).getD default).ae),lB (((cy f s).getD default).be),ai (((cy f s).getD default).ac)]from by(rw[e3];rfl)<;>rfl) Y (eB (by rw[e3];rfl))))
   ·
    refine aj (nx (aT tb V [0,1,2,1002] [_,.int (q+1:Nat),_] [1] U4 Y ⟨aM,U⟩ ?_))
    exact bq (q+1) [0,1,2,3] ⟨oz,cF bi bh⟩
  ·
   have e3:cy f s=none:=Ao λi hi h hh=>by(rcases Nat.lt_or_ge i 1 with h9 | h9);exact EH i h9 h hh;obtain rfl:i=1:=oz;obtain⟨j,hj,rfl⟩:=ee (show h∈f.bA from hh);exact bi j oz
   refine aW (nx (aL (sy (.agg (aN (⟨⟨#[]⟩,false,[]⟩:Hy))) (λh=>gg (ps:=[]) (us:=[.string ⟨#[]⟩,.bool false,.slice none 0 0]) yv Y yz f9 Y (dP (.lit _ aI) (dP (.lit _ True.intro) (dP (.nil _ _ aI) cE))) h.x) ?_)))
   refine ck (b:=b1) (off:=0) (es:=U3) (news:=U3) V hJ0 jn Y Y Y (lb Y) Y (λa w h=>⟨(h.get 1 Y),(h.get 0 Y)⟩) ?_
   refine ao 1 tb Y (aA [0,2] U2 Y ?_)
   exact nx (aZ (λa w h=>iS (m:=1) (q:=0) Y nk h Y Y (show(_:List CD)=[lS (((cy f s).getD default).ae),lB (((cy f s).getD default).be),ai (((cy f s).getD default).ac)]from by(rw[e3];rfl)<;>rfl) Y (eB (by rw[e3];rfl))))
theorem Kj (d:Db) (i:Nat) (s:BA) (hi:i<=d.ab.length):Fn prog J 130 [.agg (bZ d),.int (i:Nat),.str s] (.int (dM d i s)):=by
 refine fE func130 λS w0 hS hJ0=>?_
 clear hJ0
 refine aJ tb V [1,2,1000] [.ptr (bZ d),_] [0] U3 Y ⟨ej hS V,U⟩ ?_
 refine af (qs tb V [0,1,2,1000] [_] U4 ?_)
 refine ax (lp (ι:=Nat) (λk=>(k<=i)/\(∀ j,j<k->¬ (G d.ab j).ae=s)) (λk=>[(7,.int (k:Nat))]) (λk=>i-k) [0,1,2,3] U3 0 ⟨aI,λj hj=>by omega⟩ ?_)
 rintro k ⟨aQ,ah⟩
 refine af (qs tb V [0,1,2,3,1002] U3 U5 ?_)
 refine cj 4 ?_ ?_<;>intro hb1<;>try simp at hb1
 ·
  refine aj (nx (af (ax (aJ tb V [0,1,2,3,1001,1007] (V3 [.ptr (aY (G d.ab k)),_,_,_,_]) [3] U6 Y ⟨bn fK,U⟩ ?_))))
  refine ln 4 λ_=>?_
  refine cj 5 ?_ ?_<;>intro hb2<;>try simp at hb2
  ·
   refine qs tb V [1001] U2 [_] ?_
   exact aU 0 (hE:=eI (by first | exact(yl hi hb1 ah hb2).symm | exact(ym λj hj=>ah j oz).symm))
  ·
   refine aj (nx (dI tb V [0,1,2,1002] [_,.int (k+1:Nat),_] [1] U4 Y ⟨aM,U⟩ ?_))
   exact dO (k+1) [0,1,2,3] ⟨oz,cF ah hb2⟩
 ·
  refine aW (nx (qs tb V [1000] [_] [_] ?_))
  exact aU 0 (hE:=eI (by first | exact(yl hi hb1 ah hb2).symm | exact(ym λj hj=>ah j oz).symm))
theorem Ky (d:Db) (i q:Nat) (es:List (List BA)) (hi:i<d.ab.length) (hq:q<d.ab.length) (tA:es.length=(G d.ab q).aa.length) (het:∀ t∈es,1<=t.length/\t.length<=2000) (hf:∀ h∈(G d.ab q).aa,h.be=true->h.ac.length=2) (hap:(G d.ab q).apart.length<=100000) (hh:(G d.ab q).aa.length<=2000):Fn prog J 131 [.agg (bZ d),.int (i:Nat),.int (q:Nat),.rd (ct es)] (.bJ [.rd (ai ((dd d.vars (G d.ab i).wide (G d.ab q) es).1)),.int ((dd d.vars (G d.ab i).wide (G d.ab q) es).2)]):=by
 refine fE func131 λS w0 hS hJ0=>?_
 refine tw cc (ln 3 λcx=>?_)
 refine au tb V [1,2,3,1000] [.ptr (bZ d),_,_] [0] U4 Y ⟨cW hS V,U⟩ ?_
 refine aL (ao 3 tb Y (sy (.ptr (aY (G d.ab q))) (λh=>cb (i:=(q:Int)) fK Y (h.get 1 Y) (h.get 0 Y) bM (cq (xs:=d.ab) (k:=q) az) Y h.x) ?_))
 refine ao 1 tb Y (iJ (cs:=aY (G d.ab q)) xY Y Y Y (lb Y) Y Y Y dz (m:=0) Y Y (λa w h=>aK hS _ h.keep h.x _ aV) (λa w h w' hk'=>fi V _ _ hk' h.x) ?_)
 refine aA [0,4,6,8,9] U5 Y (nx (ln 1 λhl2=>?_))
 refine aL (ko pO V Y Y Y (lb Y) λv1=>?_)
 refine ao 1 tb Y (aA [0,2,4,5,6] U5 Y ?_)
 refine nx (af (ak tb V (r5 [1000]) [_] U6 ?_))
 refine ax (lpo (ι:=Nat×Value×(List Bd)) (λ(k,_,bs)=>(k<=(G d.ab q).aa.length)/\(bs=bO (G d.ab q).aa es 0 k)/\(∀ j,j<k->fc (G d.ab q).aa es 0 j=true)) (λ(_,wv,bs)=>[OB.row wv 182 2 (bs.map ff)]) (λ(k,wv,_)=>[(12,.int (k:Nat)),(11,.lit wv)]) (λ(k,_,_)=>(G d.ab q).aa.length-k) [1,2,3,4,5,0] U4 (0,v1,([]:List Bd)) ⟨aI,Y,λj hj=>by omega⟩ ?_)
 rintro⟨k,wv,bs⟩ ⟨aQ,ah,bp⟩
 refine af (au tb V (r6 [1002,1004]) (V3 [.int (((G d.ab q).aa).length:Nat),_]) [3] U8 Y ⟨aD cT,U⟩ ?_)
 refine ln 6 λ_=>?_
 refine cj 7 ?_ ?_<;>intro hb1<;>try simp at hb1
 ·
  refine aj (nx (af (ax (af (au tb V (r6 [1006]) (V3 [.ptr (aN (G ((G d.ab q).aa) k)),_,_,_]) [3] U7 Y ⟨bn cD,U⟩ ?_)))))
  refine cj 6 ?_ ?_<;>intro hb2<;>try simp at hb2
  ·
   refine aW (nx (aT tb V [0,1,2,3,5,1002] [_,.int (k+1:Nat),_] [1] U6 Y ⟨aM,U⟩ ?_))
   exact bq (k+1,wv,bs) [0,1,2,3,5,4] ⟨oz,by rw[sG,<-ah];simp[kN,hb2],cF bp (by simp[fc,hb2])⟩
  ·
   have e3:(G (G d.ab q).aa k).ac.length=2:=hf _ (aC oz) (by simpa using hb2)
   have e4:=het _ (aC (xs:=es) (k:=k) oz)
   refine aj (nx (af (au tb V (r6 [1003,1022]) [_,_,.ptr [ai (G es k)],_,.int ((G es k).length:Nat),_,_,_,_,.ptr [ai (G es k)],_,.ptr [lS (G (G es k) 0)],_,_,_,_,.ptr (aN (G ((G d.ab q).aa) k)),_,_,.ptr [lS (G ((G ((G d.ab q).aa) k).ac) 0)],_,_,_] [2,4,9,11,16,19] U8 Y ⟨bn eC,aD b6,cN eC (hk:=λ(aF:((decide ((((G es k).length:Nat):Int)=(0:Int)))==false)=true)=>by(try simp at aF);first | omega | (simp;omega) | grind[aC]),cN (k:=0) bx (hk:=λ(aF:((decide ((((G es k).length:Nat):Int)=(0:Int)))==false)=true)=>by(try simp at aF);first | omega | (simp;omega) | grind[aC]),cN cD (hk:=λ(aF:((decide ((((G es k).length:Nat):Int)=(0:Int)))==false)=true)=>by(try simp at aF);first | omega | (simp;omega) | grind[aC]),cN (k:=0) bx (hk:=λ(aF:((decide ((((G es k).length:Nat):Int)=(0:Int)))==false)=true)=>by(try simp at aF);first | omega | (simp;omega) | grind[aC]),U⟩ ?_)))
   refine ln 6 λ_=>?_
   refine cj 7 ?_ ?_<;>intro aE
   ·
    have e5:fc (G d.ab q).aa es 0 k=false:=by simp only[fc,Nat.zero_add,Bool.or_eq_false_iff,Bool.not_eq_false',decide_eq_false_iff_not];exact⟨by simpa using hb2,λe=>by simp[e]at aE;have:=e4.1;simp[aE]at this⟩
    have eU:(dd d.vars (G d.ab i).wide (G d.ab q) es)=([],24):=I0 oz e5
    refine ak tb V [1000,1001] U2 U2 ?_
    exact tw (λh=>gj h (m:=0) (s:=8) Y) (aZ (λa w h=>dX (m:=0) (k:=1) Y (d9 h) Y Y (congrArg (λz=>AV.rd (ai z)) (show([]:List BA)=((dd d.vars (G d.ab i).wide (G d.ab q) es).1)from by first | (rw[eU];done) | (rw[eU,if_neg (by simp[e9])]))) (eI (by first | (rw[eU];done) | (rw[eU,if_neg (by simp[e9])])))))
   ·
    have e5:fc (G d.ab q).aa es 0 k=true:=by simp only[Bool.or_eq_false_iff,Bool.not_eq_false',decide_eq_true_eq]at aE;simp[fc,aE.2]
    refine aj (nx (λa w h=>oZ [] (γ:=Value) (λix'=>([.lit wv,.ptr [bW ((G d.ab q).aa),bI ((G d.ab q).apart),ai ((G d.ab q).ac),bW ((G d.ab q).bA),bI ((G d.ab q).wide),ai ((G d.ab q).proof)],.rd (bW ((G d.ab q).aa)),.int (k:Nat),.ptr (aN (G ((G d.ab q).aa) k)),.ptr [ai ((G ((G d.ab q).aa) k).ac)],.rd (ai ((G ((G d.ab q).aa) k).ac)),.ptr [lS (G ((G ((G d.ab q).aa) k).ac) 1)],.str (G ((G ((G d.ab q).aa) k).ac) 1),.rd (ct es),.int (k:Nat),.ptr [ai (G es k)],.rd (ai (G es k)),.rd (ai ((G es k).drop 1)),.agg (ff (⟨(G ((G ((G d.ab q).aa) k).ac) 1),(G es k).drop 1⟩:Bd)),.rd (fj ([(⟨(G ((G ((G d.ab q).aa) k).ac) 1),(G es k).drop 1⟩:Bd)])),.any,.any]:List AV).getD ix' .any) (λ_=>true) [(10,λ_=>.ptr (aY (G d.ab q))),(1,λ_=>.int (i:Nat)),(3,λ_=>.rd (ct es)),(4,λ_=>.ptr (bZ d)),(12,λ_=>.int (k:Nat)),(11,λg=>.lit g)] (λj' g=>match j' with | 0=>[OB.row wv 182 2 (bs.map ff)] | _=>[OB.row g 182 2 ((bs++([(⟨(G ((G ((G d.ab q).aa) k).ac) 1),(G es k).drop 1⟩:Bd)])).map ff)]) (λk' g=>match k' with | 0=>g | 1=>g | _=>undef) [16,17] 2 (.slice none 0 0) (λ_=>Y) h V cP Y Y Y Y Y Y hsb ⟨oX Y λZ hl=>b8 Y (hl.env 5 11 _ Y Y) Z,oX Y λZ hl=>ca ti Y (hl.env 0 10 _ Y Y) Z,oX Y λZ hl=>bU rW Y (hl.D 1 62 Y Y) Z,oX Y λZ hl=>b8 Y (hl.env 4 12 _ Y Y) Z,?_,oX Y λZ hl=>ca lO Y (hl.D 4 65 Y Y) Z,oX Y λZ hl=>bU ia Y (hl.D 5 66 Y Y) Z,?_,oX Y λZ hl=>bU fd Y (hl.D 7 68 Y Y) Z,oX Y λZ hl=>b8 Y (hl.env 2 3 _ Y Y) Z,oX Y λZ hl=>b8 Y (hl.env 4 12 _ Y Y) Z,?_,oX Y λZ hl=>bU ia Y (hl.D 11 72 Y Y) Z,?_,?_,?_,bB Y,bB Y,U⟩ ⟨?pN,?sW,U⟩ ⟨.old 0 10 _,.old 1 1 _,.old 2 3 _,.old 3 4 _,.old 4 12 _,.dZ 1 17 11 (λ(g:Value)=>g) Y Y (λ_=>Y) (λ_ _ Z=>m6 (Z.2.1 _ (mo 0 Y))),U⟩ ?AU))
    exact oX Y λZ hl=>cb (i:=(k:Int)) cD Y (hl.D 2 63 Y Y) (hl.D 3 64 Y Y) bM (cq (xs:=(G d.ab q).aa) (k:=k) az) Y Z
    exact oX Y λZ hl=>cb (i:=((1:Nat):Int)) bx Y (hl.D 6 67 Y Y) (Rel.aG (.int .i64 1)) bM (cq (xs:=(G ((G d.ab q).aa) k).ac) (k:=1) az) Y Z
    exact oX Y λZ hl=>cb (i:=(k:Int)) eC Y (hl.D 9 70 Y Y) (hl.D 10 71 Y Y) bM (cq (xs:=es) (k:=k) az) Y Z
    exact oX Y λZ hl=>iH (ys:=(G es k).drop 1) (lo:=1) (hi:=(G es k).length) (by rw[take_length]) bx (λ_=>Y) Y (hl.D 12 73 Y Y) (Rel.aG (.int .i64 1)) Y az az Z
    exact λ_ O' _=>⟨Y,λa _ _ Z hl _=>gd (us:=[a.eval (.tmp 69),a.eval (.tmp 74)]) yy Y yz (bX (hl.D 8 69 Y Y) (bX (hl.D 13 74 Y Y) cE)) Y Z⟩
    exact oY Y λhk Z hl=>mY pO Ce dz Y Y (hl.D 14 75 Y Y) (aK hS _ hk Z _ aV) (jo V Z)
    case pN=>exact⟨_,Y,Y,Y,Y,λ_ _ w hk Z hl _=>bC (lj (f:=ff) bs ([(⟨(G ((G ((G d.ab q).aa) k).ac) 1),(G es k).drop 1⟩:Bd)]) (λ_=>rfl) yp V hJ0 Y hk Z (hl.D 0 61 Y Y).lit (hl.D 15 76 Y Y) (by have:=u7 (G d.ab q).aa es 0 k;rw[ah];simp;omega) (by have:=u7 (G d.ab q).aa es 0 k;rw[ah];simp;omega)) λv w' hp=>⟨v,Y,λk' hk'=>absurd hk' (Nat.not_lt_zero _),λ_=>rfl,hp⟩⟩
    case sW=>exact⟨_,Y,Y,Y,Y,λg _ w hk Z _ hs=>bC (rc (.inl Y) (hs 0 16 _ 77 oz Y Y Y) hk Z) λv w' hp=>⟨g,Y,λ_ _=>rfl,λ_=>hp.1,hp.2⟩⟩
    clear a w h
    intro v2
    dsimp only[List.map]
    refine nx (aT tb V [0,1,2,3,5,1002] [_,.int (k+1:Nat),_] [1] U6 Y ⟨aM,U⟩ ?_)
    exact bq (k+1,v2,bs++([(⟨(G ((G ((G d.ab q).aa) k).ac) 1),(G es k).drop 1⟩:Bd)])) [0,1,2,3,5,4] ⟨oz,by rw[sG,<-ah];simp[kN,hb2],cF bp e5⟩
 ·
  have e6:∀ j,j< (G d.ab q).aa.length->fc (G d.ab q).aa es 0 j=true:=λj hj=>bp j oz
  refine aW (nx (af (tw (λh=>dV hS h (m:=5) (s:=11) Y) (tw (sa 0 Y (congrArg (λz'=>AV.rd (fj z')) (show bs=(bO (G d.ab q).aa es 0 (G d.ab q).aa.length)from by rw[ah,show k=(G d.ab q).aa.length by omega]))) ?_))))
  refine ak tb V (r5 [1000]) [_] U6 ?_
  refine ln 0 λ_=>?_
  refine ax (lpo (ι:=Nat) (λj=>(j<=(G d.ab q).aa.length)/\(∀ i',i'<j->jA (G d.ab q).aa es 0 (bO (G d.ab q).aa es 0 (G d.ab q).aa.length) i'=true)) (λ_=>[]) (λj=>[(13,.int (j:Nat))]) (λj=>(G d.ab q).aa.length-j) (r6 []) U5 0 ⟨aI,λj hj=>by omega⟩ ?_)
  rintro j ⟨fx,bi⟩
  refine af (au tb V (r6 [1004]) (V3 [.int (((G d.ab q).aa).length:Nat),_]) [3] U7 Y ⟨aD cT,U⟩ ?_)
  refine cj 6 ?_ ?_<;>intro bh<;>try simp at bh
  ·
   refine aj (nx (af (ax (au tb V (r6 [1021]) (V3 [.ptr (aN (G ((G d.ab q).aa) j)),_,_,_,_,_,_,_,.ptr (aN (G ((G d.ab q).aa) j)),_,_,_,_,_,.ptr [ai (G es j)],_,.bool (lN ((G ((G d.ab q).aa) j).ac) (bO (G d.ab q).aa es 0 (G d.ab q).aa.length) (G es j)),_,_]) [3,11,17,19] U7 Y ⟨bn cD,cN cD (hk:=λ(aF:((!((G ((G d.ab q).aa) j).be))==true)=true)=>by(try simp at aF);first | omega | (simp;omega) | grind[aC]),cN eC (hk:=λ(aF:((!((G ((G d.ab q).aa) j).be))==true)=true)=>by(try simp at aF);first | omega | (simp;omega) | grind[aC]),bN hS V (Ko V ((G ((G d.ab q).aa) j).ac) (bO (G d.ab q).aa es 0 (G d.ab q).aa.length) (G es j)) (cO func166),U⟩ ?_))))
   refine cj 6 ?_ ?_<;>intro bV
   ·
    have e7:jA (G d.ab q).aa es 0 (bO (G d.ab q).aa es 0 (G d.ab q).aa.length) j=false:=by simp only[jA,Nat.zero_add];simpa using bV
    have eU:(dd d.vars (G d.ab i).wide (G d.ab q) es)=([],25):=I1 e6 oz e7
    refine ak tb V [1000,1001] U2 U2 ?_
    exact tw (λh=>gj h (m:=0) (s:=8) Y) (aZ (λa w h=>dX (m:=0) (k:=1) Y (d9 h) Y Y (congrArg (λz=>AV.rd (ai z)) (show([]:List BA)=((dd d.vars (G d.ab i).wide (G d.ab q) es).1)from by first | (rw[eU];done) | (rw[eU,if_neg (by simp[e9])]))) (eI (by first | (rw[eU];done) | (rw[eU,if_neg (by simp[e9])])))))
   ·
    refine aj (nx (aT tb V (r5 [1002]) [_,.int (j+1:Nat),_] [1] U6 Y ⟨aM,U⟩ ?_))
    exact bq (j+1) (r6 []) ⟨oz,cF bi (by cases h9:(G (G d.ab q).aa j).be<;>simp_all[jA])⟩
  ·
   have e8:∀ j,j< (G d.ab q).aa.length->jA (G d.ab q).aa es 0 (bO (G d.ab q).aa es 0 (G d.ab q).aa.length) j=true:=λj hj=>bi j oz
   refine aW (nx (au tb V [0,1,2,4,1001,1005,1007,1008] (V3 [.bJ [.rd (ai (if b7 (ay (bO (G d.ab q).aa es 0 (G d.ab q).aa.length)) ((G d.ab q).ac) 2000 then bz (ay (bO (G d.ab q).aa es 0 (G d.ab q).aa.length)) ((G d.ab q).ac)else [])),.int (if b7 (ay (bO (G d.ab q).aa es 0 (G d.ab q).aa.length)) ((G d.ab q).ac) 2000 then 0 else 15)],_,_,_,_,_]) [3] U8 Y ⟨bN hS V (Ku V ((G d.ab q).ac) (bO (G d.ab q).aa es 0 (G d.ab q).aa.length) 2000 az (u9 (λt ht=>(het t ht).2) oz)) (cO func167),U⟩ ?_))
   refine ln 4 λ_=>?_
   refine ln 5 λ_=>?_
   refine af (ak tb V [0,1,2,3,6,7,1001] U2 U7 ?_)
   refine cj 6 ?_ ?_<;>intro eM<;>try simp at eM
   ·
    have e9:b7 (ay (bO (G d.ab q).aa es 0 (G d.ab q).aa.length)) (G d.ab q).ac 2000=false:=by cases h9:b7 (ay (bO (G d.ab q).aa es 0 (G d.ab q).aa.length)) (G d.ab q).ac 2000<;>simp_all
    have eU:(dd d.vars (G d.ab i).wide (G d.ab q) es)=([],15):=IZ e6 e8 e9
    refine ak tb V [1001,1002] U3 U2 ?_
    exact tw (λh=>gj h (m:=0) (s:=8) Y) (aZ (λa w h=>dX (m:=0) (k:=1) Y (d9 h) Y Y (congrArg (λz=>AV.rd (ai z)) (show([]:List BA)=((dd d.vars (G d.ab i).wide (G d.ab q) es).1)from by first | (rw[eU];done) | (rw[eU,if_neg (by simp[e9])]))) (eI (by first | (rw[eU];done) | (rw[eU,if_neg (by simp[e9])])))))
   ·
    have e9:b7 (ay (bO (G d.ab q).aa es 0 (G d.ab q).aa.length)) (G d.ab q).ac 2000=true:=by cases h9:b7 (ay (bO (G d.ab q).aa es 0 (G d.ab q).aa.length)) (G d.ab q).ac 2000<;>simp_all
    refine tw (sa 4 Y (show(.rd (ai (if b7 (ay (bO (G d.ab q).aa es 0 (G d.ab q).aa.length)) ((G d.ab q).ac) 2000 then bz (ay (bO (G d.ab q).aa es 0 (G d.ab q).aa.length)) ((G d.ab q).ac)else [])):AV)= .rd (ai (bz (ay (bO (G d.ab q).aa es 0 (G d.ab q).aa.length)) (G d.ab q).ac))from by rw[if_pos e9])) (aj (nx (ln 4 λE5=>?_)))
    refine af (af (λa w h=>iq (γ:=Nat) (λix'=>([.rd (fj (bO (G d.ab q).aa es 0 (G d.ab q).aa.length)),.ptr [bI ((G d.ab q).apart),ai ((G d.ab q).ac),bW ((G d.ab q).bA),bI ((G d.ab q).wide),ai ((G d.ab q).proof)],.rd (bI ((G d.ab q).apart)),.ptr [ai d.vars,dU d.ab],.rd (ai d.vars),.ptr [dU d.ab],.rd (dU d.ab),.int (i:Nat),.ptr (aY (G d.ab i)),.ptr [bI ((G d.ab i).wide),ai ((G d.ab i).proof)],.rd (bI ((G d.ab i).wide)),.bJ [.agg (aR (fB (bO (G d.ab q).aa es 0 (G d.ab q).aa.length) ((G d.ab q).apart) d.vars ((G d.ab i).wide))),.bool (eL (bO (G d.ab q).aa es 0 (G d.ab q).aa.length) ((G d.ab q).apart) d.vars ((G d.ab i).wide))],.bJ [.agg (aR (fB (bO (G d.ab q).aa es 0 (G d.ab q).aa.length) ((G d.ab q).apart) d.vars ((G d.ab i).wide))),.bool (eL (bO (G d.ab q).aa es 0 (G d.ab q).aa.length) ((G d.ab q).apart) d.vars ((G d.ab i).wide))],.agg (aR (fB (bO (G d.ab q).aa es 0 (G d.ab q).aa.length) ((G d.ab q).apart) d.vars ((G d.ab i).wide))),.bool (eL (bO (G d.ab q).aa es 0 (G d.ab q).aa.length) ((G d.ab q).apart) d.vars ((G d.ab i).wide)),.any,.any,.bool (eL (bO (G d.ab q).aa es 0 (G d.ab q).aa.length) ((G d.ab q).apart) d.vars ((G d.ab i).wide))]:List AV).getD ix' .any) (λ_=>true) [(14,λ_=>.rd (ai (bz (ay (bO (G d.ab q).aa es 0 (G d.ab q).aa.length)) (G d.ab q).ac))),(17,λ_=>.bool (eL (bO (G d.ab q).aa es 0 (G d.ab q).aa.length) ((G d.ab q).apart) d.vars ((G d.ab i).wide)))] (λj' g=>match j' with | 0=>[] | 1=>[OB.var g [lS (⟨#[]⟩:BA),lS (⟨#[]⟩:BA)]] | _=>[OB.var g (aR (fB (bO (G d.ab q).aa es 0 (G d.ab q).aa.length) ((G d.ab q).apart) d.vars ((G d.ab i).wide)))]) (λk' g=>match k' with | 0=>(.pointer (some ⟨g,0,none⟩)) | _=>undef) [15,16] 2 0 (λ_=>Y) h V cP Y Y Y Y Y Y hsb ⟨oX Y λZ hl=>b8 Y (hl.env 0 11 _ Y Y) Z,oX Y λZ hl=>ca zt Y (hl.env 1 10 _ Y Y) Z,oX Y λZ hl=>bU rX Y (hl.D 1 119 Y Y) Z,oX Y λZ hl=>ca zp Y (hl.env 3 4 _ Y Y) Z,oX Y λZ hl=>bU ia Y (hl.D 3 121 Y Y) Z,oX Y λZ hl=>ca pR Y (hl.env 3 4 _ Y Y) Z,oX Y λZ hl=>bU qk Y (hl.D 5 123 Y Y) Z,oX Y λZ hl=>b8 Y (hl.env 2 1 _ Y Y) Z,?_,oX Y λZ hl=>ca zu Y (hl.D 8 126 Y Y) Z,oX Y λZ hl=>bU rX Y (hl.D 9 127 Y Y) Z,?_,oX Y λZ hl=>b8 Y (hl.D 11 129 Y Y) Z,oX Y λZ hl=>gi Y (hl.D 12 117 Y Y) Y Z,oX Y λZ hl=>gi Y (hl.D 12 117 Y Y) Y Z,bB Y,bB Y,oX Y λZ hl=>gO Y (hl.D 14 131 Y Y) Z,U⟩ ⟨?LS,?LT,U⟩ ⟨.old 4 14 _,.new 17 17 _,U⟩ ?Xn))
    exact oX Y λZ hl=>cb (i:=(i:Int)) fK Y (hl.D 6 124 Y Y) (hl.D 7 125 Y Y) bM (cq (xs:=d.ab) (k:=i) az) Y Z
    exact oY Y λhk Z hl=>cQ (Km V (bO (G d.ab q).aa es 0 (G d.ab q).aa.length) ((G d.ab q).apart) d.vars ((G d.ab i).wide) (by exact hap) (u9 (λt ht=>(het t ht).2) oz)) (cO func168) Y (aK hS _ hk Z) (Z.1) (aq (hl.D 0 118 Y Y) (aq (hl.D 2 120 Y Y) (aq (hl.D 4 122 Y Y) (aq (hl.D 10 128 Y Y) aP)))) (jo V Z)
    case LS=>exact⟨_,Y,Y,Y,Y,λg _ w hk Z _ _=>bC (gq na V Y hk Z) λv w' ⟨g',hv,hp⟩=>⟨g',Y,λk' hk'=>absurd hk' (Nat.not_lt_zero _),λ_=>hv,hp⟩⟩
    case LT=>exact⟨_,Y,Y,Y,Y,λg a w hk Z hl hs=>(by obtain⟨eJ,hv2,ed⟩:=jm (hl.D 13 130 Y Y);exact bC (ii (S':=S) (off:=0) (news:=U2) (es:=U2) (us:=eJ) V hJ0 jZ Y hk Z (kj (hs 0 15 _ 16 oz Y Y Y)) (by rw[hv2];rfl) ed (lb Y) Y) λv w' hp=>⟨g,Y,λ_ _=>rfl,λe=>(by cases e),hp⟩)⟩
    clear a w h
    intro b3
    dsimp only[List.map]
    refine kw cR (nx (ln 0 λOJ=>?_))
    refine ak tb V [0,1000] [_] U2 ?_
    refine cj 1 ?_ ?_<;>intro fM<;>try simp at fM
    ·
     have eU:(dd d.vars (G d.ab i).wide (G d.ab q) es)=([],26):=I2 e6 e8 e9 fM
     refine ak tb V [1000,1001] U2 U2 ?_
     exact tw (λh=>gj h (m:=0) (s:=8) Y) (aZ (λa w h=>dX (m:=0) (k:=1) Y (d9 h) Y Y (congrArg (λz=>AV.rd (ai z)) (show([]:List BA)=((dd d.vars (G d.ab i).wide (G d.ab q) es).1)from by first | (rw[eU];done) | (rw[eU,if_neg (by simp[e9])]))) (eI (by first | (rw[eU];done) | (rw[eU,if_neg (by simp[e9])])))))
    ·
     have eU:(dd d.vars (G d.ab i).wide (G d.ab q) es)=(bz (ay (bO (G d.ab q).aa es 0 (G d.ab q).aa.length)) (G d.ab q).ac,0):=I3 e6 e8 e9 fM
     refine aj (nx (ak tb V [1001,1002] U3 U2 ?_))
     exact aZ (λa w h=>dX (m:=0) (k:=1) Y (d9 h) Y Y (congrArg (λz=>AV.rd (ai z)) (show(bz (ay (bO (G d.ab q).aa es 0 (G d.ab q).aa.length)) (G d.ab q).ac)=((dd d.vars (G d.ab i).wide (G d.ab q) es).1)from by first | (rw[eU];done) | (rw[eU,if_neg (by simp[e9])]))) (eI (by first | (rw[eU];done) | (rw[eU,if_neg (by simp[e9])]))))
end
section
variable {n:Rn} {P:Program} {X:WP} {S S' gB:Nat->Prop}
variable {S:Nat->Prop} {d:Db}
def Cj (P:Program) (t:TypeId):Prop:=∀(x y z:Value) (i:Int),P.built t [(0,.agg #[x,y,z]),(1,.int .i64 i)]=some #[x,y,z,.int .i64 i,.slice none 0 0]
theorem Ts {o:Oper} {a:Act} {w:World} {x y:Operand} {t:TypeId} {i:Int} (ht:Cj P t) (hop:o.op= .build t #[(0,x),(1,y)]) (h:Rel S w (.agg (bZ d)) (a.eval x)) (h2:Rel S w (.int i) (a.eval y)) (Z:X w):
 Does n P o a w (bE S X (.agg (bZ d++[.lit (.int .i64 i),.lit (.slice none 0 0)])) w):=by
 simp only[Rel]at h
 obtain⟨us,hv,hr⟩:=h
 have hi:=h2.lit
 match us,hr with
 | [u1,u2,u3],hr=>
  refine cJ (v:=.agg #[u1,u2,u3,.int .i64 i,.slice none 0 0]) ?_ (by simp only[Rel];exact⟨[u1,u2,u3,.int .i64 i,.slice none 0 0],rfl,hr.append (ds:=[.lit (.int .i64 i),.lit (Value.slice none 0 0)]) (us:=[.int .i64 i,.slice none 0 0]) ⟨.lit _ True.intro,.lit _ True.intro,trivial⟩⟩) Z
  have hrun:=run_build (P:=P) w t #[(0,a.eval x),(1,a.eval y)] #[u1,u2,u3,.int .i64 i,.slice none 0 0] (by rw[hv,hi];exact ht u1 u2 u3 _)
  rw[execOp,hop]
  simp only[List.map_toArray,List.map_cons,List.map_nil,Sem.run_bind,hrun]
  rfl
end
theorem oR {J:WP} {S:Nat->Prop} {N:Nat} {P:Program} {w0:World} {O:List OB} {env:List (Nat×AV)} {fn:Func} {a:Act} {w:World} {b:Nat} {cs cs':List CD} {t:TypeId} {d m q u x z k:Nat} {r1 r2 r3 r4:AV} (hr:fn.results= #[.tmp x,.cell d t,.tmp u]) (h1:fR P t k) (h:So J S w0 N (OB.var b cs::O) env a w) (he:env[m]?=some (d,.at b 0)) (hl:cs.length=k) (hE:cs=cs') (Oq:env[z]?=some (x,r1)) (N1:r1=r2) (kU:env[q]?=some (u,r3)) (nF:r3=r4):
 bodyPost P fn (λe w'=>∃ v,e= .returned v/\Rel S w' (.bJ [r2,.agg cs',r4]) v/\Keeps All w0 w'/\J w') .ret a w:=by
 subst hE
 subst N1
 subst nF
 obtain⟨h0,us,e,hb,hrd⟩:=h.x.2.1 (OB.var b cs) yz
 have hd:a.tmps.getD d undef= .pointer (some ⟨b,0,none⟩):=(h.get m he).lit
 have hrun:=md (P:=P) b 0 w us 0 #[] λj u hj=>by rw[Nat.zero_add];simp[World.cell?,hb,hj]
 rw[show us.length=k by rw[hrd.length,hl]]at hrun
 have hd':a.tmps[d]?.getD undef= .pointer (some ⟨b,0,none⟩):=by rw[<-Array.getD_eq_getD_getElem?];exact hd
 refine⟨h.defs,.tuple #[a.tmps.getD x undef,.agg us.toArray,a.tmps.getD u undef],by simp[results,hr,hd',asAddr,Sem.run_bind,loadVar,loadCells,h1.1 w,h1.2 w,hrun],_,rfl,?_,h.keep,h.x.1⟩
 have h2:=(h.get q kU).sub (T:=S) λ_ _ hk=>hk.1
 have h3:=(h.get z Oq).sub (T:=S) λ_ _ hk=>hk.1
 simp only[Rel,bd]
 exact⟨_,rfl,_,_,rfl,h3,_,_,rfl,⟨us,rfl,hrd.sub λ_ _ hk=>hk.1⟩,_,_,rfl,h2,rfl⟩
theorem Kp {J:WP} (V:aS J) (ss:List Stp)  :Fn prog J 98 [.agg (bw ss)] (.int (fm ss)):=by
 refine fE func98 λS w0 hS hJ0=>?_
 clear hJ0
 refine aJ tb V [1000] [.ptr (bw ss),_] [0] [_] Y ⟨ej hS V,U⟩ ?_
 refine af (aJ tb V [0,1001,1009] [_,_,.int (ss.length:Nat),_,_,_,_,.int (ss.length:Nat),_,_] [2,7] U3 Y ⟨aD ep,aD ep,U⟩ ?_)
 refine ln 1 λ_=>?_
 refine cj 2 ?_ ?_<;>intro hb1
 ·
  have eU:fm ss=4:=zz (by simp only[Bool.or_eq_true,decide_eq_true_eq]at hb1;omega)
  refine qs tb V [1000] [_] [_] ?_
  exact aU 0 (hE:=eI (by rw[eU]))
 ·
  have hn:¬ (ss.length<1∨2000<ss.length):=by simp only[Bool.or_eq_false_iff,decide_eq_false_iff_not]at hb1;omega
  refine aj (nx (af (qs tb V [0,1000] [_] U2 ?_)))
  refine ax (lp (ι:=Nat) (λk=>(k<=ss.length)/\(∀ j,j<k->kQ ss j=0)) (λk=>[(3,.int (k:Nat))]) (λk=>ss.length-k) [0,1] [_] 0 ⟨aI,λj hj=>by omega⟩ ?_)
  rintro k ⟨aQ,ah⟩
  refine af (aJ tb V [0,1,1004] (V3 [.int (ss.length:Nat),_]) [3] U3 Y ⟨aD ep,U⟩ ?_)
  refine cj 2 ?_ ?_<;>intro hb2<;>try simp at hb2
  ·
   refine aj (nx (af (ax (af (aJ tb V [0,1,1005,1007] (V3 [.ptr (bF (G ss k)),_,_,.int (((G ss k).args).length:Nat),_]) [3,6] U4 Y ⟨bn ey,aD eW,U⟩ ?_)))))
   refine ln 2 λ_=>?_
   refine cj 3 ?_ ?_<;>intro aE<;>try simp at aE
   ·
    have eU:fm ss=4:=by have e9:=zE (ss:=ss) (k:=k) oz;rw[rn hn oz ah (by rw[e9];decide),e9]
    refine qs tb V [1000] [_] [_] ?_
    exact aU 0 (hE:=eI (by rw[eU]))
   ·
    refine aj (nx (qs tb V [0,1,1000] [_] U3 ?_))
    refine ax (lp (ι:=Nat) (λq=>(q<=(G ss k).args.length)/\(∀ j,j<q->j7 k (G (G ss k).args j)=false)) (λq=>[(4,.int (q:Nat))]) (λq=>(G ss k).args.length-q) [0,1,2] U2 0 ⟨aI,λj hj=>by omega⟩ ?_)
    rintro q ⟨fx,bi⟩
    refine af (aJ tb V [0,1,2,1008] (V4 [.ptr (bF (G ss k)),_,_,.int (((G ss k).args).length:Nat),_]) [4,7] U4 Y ⟨bn ey,aD eW,U⟩ ?_)
    refine cj 3 ?_ ?_<;>intro bh<;>try simp at bh
    ·
     refine aj (nx (af (ax (aJ tb V [0,1,2,1022] (V3 [.ptr (bF (G ss k)),_,_,_,.ptr [lI (G ((G ss k).args) q)],_,_,_,_,_,_,.ptr (bF (G ss k)),_,_,_,.ptr [lI (G ((G ss k).args) q)],_,_,_,_]) [3,7,14,18] U4 Y ⟨bn ey,bn dc,cN ey (hk:=λ(aF:((decide ((G ((G ss k).args) q)< (0:Int)))==false)=true)=>by(try simp at aF);first | omega | (simp;omega) | grind[aC]),cN dc (hk:=λ(aF:((decide ((G ((G ss k).args) q)< (0:Int)))==false)=true)=>by(try simp at aF);first | omega | (simp;omega) | grind[aC]),U⟩ ?_))))
     refine cj 3 ?_ ?_<;>intro bV
     ·
      have eU:fm ss=3:=by have e9:=zD (ss:=ss) (k:=k) oz (CL oz bV);rw[rn hn oz ah (by rw[e9];decide),e9]
      refine qs tb V [1000] [_] [_] ?_
      exact aU 0 (hE:=eI (by rw[eU]))
     ·
      refine aj (nx (dI tb V [0,1,1002] [_,.int (q+1:Nat),_] [1] U3 Y ⟨aM,U⟩ ?_))
      exact dO (q+1) [0,1,2] ⟨oz,cF bi bV⟩
    ·
     have eF:=zF (ss:=ss) (k:=k) oz (CM λj hj=>bi j oz)
     refine aW (nx (dI tb V [0,1002] [_,.int (k+1:Nat),_] [1] U2 Y ⟨aM,U⟩ ?_))
     exact dO (k+1) [0,1] ⟨oz,cF ah eF⟩
  ·
   have eU:fm ss=0:=zy hn λj hj=>ah j oz
   refine aW (nx (qs tb V [1000] [_] [_] ?_))
   exact aU 0 (hE:=eI (by rw[eU]))
theorem C2 {J:WP} (V:aS J) (d:Db) (z:Int) (ss:List Stp) (hw:∀ i,i<d.ab.length->(G d.ab i).wide.length*32<=140737488351232):Fn prog J 70 [.agg (bZ d),.int z,.agg (bw ss)] (.int (dA d z ss)):=by
 refine fE func70 λS w0 hS hJ0=>?_
 clear hJ0
 refine aJ tb V [1,1000,1001] [.ptr (bZ d),.ptr (bw ss),_] [0,1] U3 Y ⟨ej hS V,ej hS V,U⟩ ?_
 refine af (aJ tb V [0,1,2,1002] [_,.int (dy d),_] [1] U4 Y ⟨dh hS V (Kn V d (by exact hw)) (cO func97),U⟩ ?_)
 refine qs tb V [0,1,2,3,1001] U2 U5 ?_
 refine cj 4 ?_ ?_<;>intro hb1<;>try simp at hb1
 ·
  have e3:iw d z=dy d:=by rw[iw,if_pos (by simpa using hb1)]
  have eU:dA d z ss=dy d:=by rw[dA,e3,if_neg (by simpa using hb1)]
  refine qs tb V [1001] U2 [_] ?_
  exact aU 0 (hE:=eI (by rw[eU]))
 ·
  refine aj (nx (af (aJ tb V [2,1008] (V6 [.int (d.ab.length:Nat),_,_]) [6] U2 Y ⟨aD m8,U⟩ ?_)))
  refine cj 1 ?_ ?_<;>intro hb2
  ·
   have e3:iw d z=5:=by rw[iw,if_neg (by simpa using hb1),if_pos (by simpa using hb2)]
   have eU:dA d z ss=5:=by rw[dA,e3];rfl
   refine qs tb V [1000] [_] [_] ?_
   exact aU 0 (hE:=eI (by rw[eU]))
  ·
   have e3:iw d z=0:=by rw[iw,if_neg (by simpa using hb1),if_neg (by simpa using hb2)]
   have eU:dA d z ss=fm ss:=by rw[dA,if_pos e3]
   refine aj (nx (aJ tb V [1002] [_,.int (fm ss),_] [1] [_] Y ⟨dh hS V (Kp V ss) (cO func98),U⟩ ?_))
   exact aU 0 (hE:=eI (by rw[eU]))
theorem FY:uP prog 29 3 8 (.int .i64 0):=FW yq yq Y True.intro
section
variable {J:WP} (V:aS J)
include V
theorem SC (y:Int) (k:Nat)  :Fn prog J 109 [.int y,.ptr [lI (k:Int)]] (.bool (j7 (k:Int) y)):=by
 refine fE func109 λS w0 hS hJ0=>?_
 clear hJ0
 refine qs tb V [0,1] [_] U2 ?_
 refine qs tb V [1007] U8 [_] ?_
 exact aU 0 (hE:=eB (Y))
theorem SB (ss:List Stp)  :Fn prog J 81 [.agg (bw ss)] (.int (fm ss)):=by
 refine fE func81 λS w0 hS hJ0=>?_
 refine tw cc (au tb V [1000] [.ptr (bw ss),_] [0] [_] Y ⟨cW hS V,U⟩ ?_)
 refine af (au tb V [0,1001,1009] [_,_,.int (ss.length:Nat),_,_,_,_,.int (ss.length:Nat),_,_] [2,7] U3 Y ⟨aD ep,aD ep,U⟩ ?_)
 refine ln 1 λ_=>?_
 refine cj 2 ?_ ?_<;>intro hb1
 ·
  have eU:fm ss=4:=zz (by simp only[Bool.or_eq_true,decide_eq_true_eq]at hb1;omega)
  refine ak tb V [1000] [_] [_] ?_
  exact bL 0 (hE:=eI (by rw[eU]))
 ·
  have hn:¬ (ss.length<1∨2000<ss.length):=by simp only[Bool.or_eq_false_iff,decide_eq_false_iff_not]at hb1;omega
  refine aj (nx (af (au tb V [1001,1002,1003] [_,_,.int (ss.length:Nat),_] [2] U3 Y ⟨aD ep,U⟩ ?_)))
  refine ax (lpo (ι:=Nat) (λk=>(k<=ss.length)/\(∀ j,j<k->kQ ss j=0)) (λ_=>[]) (λk=>[(18,.int (k:Nat))]) (λk=>ss.length-k) [0,1,2] U2 0 ⟨aI,λj hj=>by omega⟩ ?_)
  rintro k ⟨aQ,ah⟩
  refine ak tb V [0,1,2,1000] [_] U4 ?_
  refine cI 3 ?_ ?_<;>intro hb2<;>try simp at hb2
  ·
   refine aj (nx (af (ax (aL (ao 1 tb Y (sy (.ptr (bF (G ss k))) (λh=>cb (i:=(k:Int)) ey Y (h.get 1 Y) (h.get 3 Y) bM (cq (xs:=ss) (k:=k) az) Y h.x) ?_))))))
   refine ao 1 tb Y (cz Wh V Y Y Y (lb Y) λb1=>?_)
   refine cz og V Y Y Y (lb Y) λb2=>?_
   refine kw bQ (gz (b:=b1) (off:=0) (es:=[_]) V hJ0 qA Y Y Y (lb Y) Y (λa w h=>⟨(h.get 1 Y),(h.get 4 Y)⟩) ?_)
   refine kw bQ (ck (b:=b2) (off:=0) (es:=U2) (news:=U2) V hJ0 n9 Y Y Y (lb Y) Y (λa w h=>⟨(h.get 0 Y),(h.get 2 Y)⟩) ?_)
   refine kw bQ (kw (λh=>fg hS h (m:=1) (s:=3) Y) ?_)
   refine kw (λh=>fg hS h (m:=1) (s:=4) Y) (aA [0,1,5,6,7] U5 Y ?_)
   refine nx (af (au tb V (r5 [1001,1003]) [_,_,.int (((G ss k).args).length:Nat),_] [2] U7 Y ⟨aD eW,U⟩ ?_))
   refine ln 5 λ_=>?_
   refine cj 6 ?_ ?_<;>intro aE<;>try simp at aE
   ·
    have eU:fm ss=4:=by have e9:=zE (ss:=ss) (k:=k) oz;rw[rn hn oz ah (by rw[e9];decide),e9]
    refine ak tb V [1000] [_] [_] ?_
    exact bL 0 (hE:=eI (by rw[eU]))
   ·
    refine aj (nx (au tb V [2,3,4,1003] [_,_,.fn 109 [.ptr [lI (k:Int)]],.bool (((G ss k).args).any (j7 (k:Int)))] [2,3] U4 Y ⟨λ_ _ _ Z hl _=>k5 (caps:=[(.tmp 3)]) Y (aq (hl.env 1 3 _ Y Y) aP) Z,λ_ _ hk Z hl _=>dE (GF V ((G ss k).args) 109 [.ptr [lI (k:Int)]] [] (j7 (k:Int)) (λq'=>(SC V q' k).rr) ((cO func109))) (cO func65) Y (aK hS _ hk Z) (Z.1) b9 (aq (hl.D 1 28 Y Y) (aq (hl.D 2 29 Y Y) aP)) (jo V Z),U⟩ ?_))
    refine cj 3 ?_ ?_<;>intro bh
    ·
     have eU:fm ss=3:=by have e9:=zD (ss:=ss) (k:=k) oz (bh);rw[rn hn oz ah (by rw[e9];decide),e9]
     refine ak tb V [1000] [_] [_] ?_
     exact bL 0 (hE:=eI (by rw[eU]))
    ·
     have eF:=zF (ss:=ss) (k:=k) oz bh
     refine aj (nx (aT tb V [0,1,1001] [.int (k+1:Nat),_] [0] U3 Y ⟨aM,U⟩ ?_))
     exact bq (k+1) [0,1,2] ⟨oz,cF ah eF⟩
  ·
   have eU:fm ss=0:=zy hn λj hj=>ah j oz
   refine aW (nx (ak tb V [1000] [_] [_] ?_))
   exact bL 0 (hE:=eI (by rw[eU]))
theorem SR (d:Db) (z:Int) (hw:∀ f∈d.ab,f.wide.length*32<=140737488351232) (hG:iv J):Fn prog J 85 [.agg (bZ d),.int z] (.int (iw d z)):=by
 refine fE func85 λS w0 hS hJ0=>?_
 clear hJ0
 refine aJ tb V [1,1000] [.ptr (bZ d),_] [0] U2 Y ⟨ej hS V,U⟩ ?_
 refine af (aJ tb V [0,1,1002] [_,.int (dy d),_] [1] U3 Y ⟨dh hS V (RO V d (by exact hw) (by exact hG)) (cO func112),U⟩ ?_)
 refine qs tb V [0,1,2,1001] U2 U4 ?_
 refine cj 3 ?_ ?_<;>intro hb1<;>try simp at hb1
 ·
  have e3:iw d z=dy d:=by rw[iw,if_pos (by simpa using hb1)]
  refine qs tb V [1001] U2 [_] ?_
  exact aU 0 (hE:=eI (by rw[e3]))
 ·
  refine aj (nx (af (aJ tb V [1008] (V6 [.int (d.ab.length:Nat),_,_]) [6] [_] Y ⟨aD m8,U⟩ ?_)))
  refine cj 0 ?_ ?_<;>intro hb2
  ·
   have e3:iw d z=5:=by rw[iw,if_neg (by simpa using hb1),if_pos (by simpa using hb2)]
   refine qs tb V [1000] [_] [_] ?_
   exact aU 0 (hE:=eI (by rw[e3]))
  ·
   have e3:iw d z=0:=by rw[iw,if_neg (by simpa using hb1),if_neg (by simpa using hb2)]
   refine aj (nx (qs tb V [1000] [_] [_] ?_))
   exact aU 0 (hE:=eI (by rw[e3]))
theorem A7 (d:Db) (z:Int) (ss:List Stp) (hw:∀ f∈d.ab,f.wide.length*32<=140737488351232) (hG:iv J):Fn prog J 56 [.agg (bZ d),.int z,.agg (bw ss)] (.int (dA d z ss)):=by
 refine fE func56 λS w0 hS hJ0=>?_
 clear hJ0
 refine aJ tb V [1,1000,1001] [.ptr (bZ d),.ptr (bw ss),_] [0,1] U3 Y ⟨ej hS V,ej hS V,U⟩ ?_
 refine af (aJ tb V [2,1003] [_,_,.int (iw d z),_] [2] U2 Y ⟨dh hS V (SR V d z (by exact hw) (by exact hG)) (cO func85),U⟩ ?_)
 refine qs tb V [0,1,1001] U2 U3 ?_
 refine cj 2 ?_ ?_<;>intro hb1<;>try simp at hb1
 ·
  have eU:dA d z ss=iw d z:=if_neg (by simpa using hb1)
  refine qs tb V [1001] U2 [_] ?_
  exact aU 0 (hE:=eI (by rw[eU]))
 ·
  have eU:dA d z ss=fm ss:=if_pos (by simpa using hb1)
  refine aj (nx (aJ tb V [1002] [_,.int (fm ss),_] [1] [_] Y ⟨dh hS V (SB V ss) (cO func81),U⟩ ?_))
  exact aU 0 (hE:=eI (by rw[eU]))
end
theorem S2 {J:WP} (V:aS J) (bc:Nat) (d:Db) (i:Nat) (fv:Value) (fs:List (List BA)) (gf:Fr) (ag:List Int) (hi:i<d.ab.length) (mL:∀ t∈fs,1<=t.length/\t.length<=2000) (oG:∀ j,j<ag.length->0<=G ag j/\G ag j< (fs.length:Int)) (lX:ag.length=gf.aa.length) (hf:∀ h∈gf.aa,h.be=true->h.ac.length=2) (hh:gf.aa.length<=2000) (p8:(G d.ab i).wide.length*32<=140737488351232):cM prog J 88 [OB.var bc [ai d.bH,ai d.vars,dU d.ab,lI (i:Int),.lit fv],OB.row fv 22 1 (fs.map kG)] [.at bc 0,.agg (aY gf),.rd (bS ag)] (.bJ [.rd (ai ((dd d.vars (G d.ab i).wide gf (a8 fs ag)).1)),.int ((dd d.vars (G d.ab i).wide gf (a8 fs ag)).2)]):=by
 refine fk func88 λS w0 hS hJ0 hH=>?_
 refine tw cc (ln 2 λcx=>?_)
 have het:∀ t∈(a8 fs ag),1<=t.length/\t.length<=2000:=zd mL oG
 have tA:(a8 fs ag).length=gf.aa.length:=by rw[re];exact lX
 refine au tb V [0,2,1000] [.ptr (aY gf),_,_] [0] U3 Y ⟨cW hS V,U⟩ ?_
 refine ak tb V [0,1,2,1000] [_] U4 ?_
 refine af (au tb V [0,1,2,3,1001,1002,1003] [_,_,.int (gf.aa.length:Nat),_] [2] U7 Y ⟨aD cT,U⟩ ?_)
 refine ln 4 λ_=>?_
 refine ax (tw (iK 182 2 V) (lpo (ι:=Nat×Value×(List Bd)) (λ(k,_,bs)=>(k<=gf.aa.length)/\(bs=bO gf.aa (a8 fs ag) 0 k)/\(∀ j,j<k->fc gf.aa (a8 fs ag) 0 j=true)) (λ(_,wv,bs)=>[OB.row wv 182 2 (bs.map ff)]) (λ(k,wv,_)=>[(21,.int (k:Nat)),(8,.lit wv)]) (λ(k,_,_)=>gf.aa.length-k) [0,1,2,4,5,6,3] U5 (0,(.slice none 0 0),([]:List Bd)) ⟨aI,Y,λj hj=>by omega⟩ ?_))
 rintro⟨k,wv,bs⟩ ⟨aQ,ah,bp⟩
 refine ak tb V (r7 [1000]) [_] U8 ?_
 refine cI 7 ?_ ?_<;>intro hb1<;>try simp at hb1
 ·
  have e0:G (a8 fs ag) k=(G fs (G ag k).toNat):=sY oz
  have e1:=oG k oz
  refine aj (nx (af (ax (aL (ao 1 tb Y (sy (.ptr (aN (G gf.aa k))) (λh=>cb (i:=(k:Int)) cD Y (h.get 4 Y) (h.get 6 Y) bM (cq (xs:=gf.aa) (k:=k) az) Y h.x) ?_))))))
  refine ao 1 tb Y (cz kK V Y Y Y (lb Y) λb1=>?_)
  refine ao 1 tb Y (ck (b:=b1) (off:=0) (es:=U3) (news:=U3) V hJ0 jn Y Y Y (lb Y) Y (λa w h=>⟨(h.get 1 Y),(h.get 2 Y)⟩) ?_)
  refine kw (λh=>fg hS h (m:=1) (s:=10) Y) (aA [0,1,5,6,7,8,9,10,11] U9 Y ?_)
  refine nx (au tb V [0,2,3,4,5,6,7,8,1009,1010] [_,.at bc 0,.at bc 4,.lit fv,_,_,.ptr [lI (G ag k)],_,.lit (cA fv (((G ag k).toNat)*1)),.rd (ai (G fs ((G ag k).toNat))),_] [1,2,3,6,8,9] fw Y ⟨λ_ _ _ Z hl _=>jl Y (hl.D 0 26 Y Y) Z,λ_ _ _ Z hl _=>cv oE Y (hl.D 1 27 Y Y) Z,λ_ _ hk Z hl _=>cg ql Y (dD hH hk Z (mo 0 Y)) (hl.D 2 28 Y Y) Y Z,bn dc,λ_ _ hk Z hl _=>eQ (i:=(G ag k)) eC Y (dD hH hk Z (mo 1 Y)) (hl.D 3 29 Y Y) (hl.D 7 33 Y Y) az (by rw[length_map];exact az) Z,λ_ _ hk Z hl _=>mZ (i:=(G ag k).toNat) ia Y (dD hH hk Z (mo 1 Y)) (hl.D 8 34 Y Y) (ir (xs:=fs) (k:=(G ag k).toNat) az) Z,U⟩ ?_)
  refine ln 8 λ_=>?_
  refine af (ak tb V (r8 [9,1002]) U3 fw ?_)
  refine cj 9 ?_ ?_<;>intro hb2<;>try simp at hb2
  ·
   refine aW (nx (aT tb V [1,2,3,4,5,7,1001] [.int (k+1:Nat),_] [0] U7 Y ⟨aM,U⟩ ?_))
   exact bq (k+1,wv,bs) (r5 [6,5]) ⟨oz,by rw[sG,<-ah];simp[kN,hb2],cF bp (by simp[fc,hb2])⟩
  ·
   have e3:(G gf.aa k).ac.length=2:=hf _ (aC oz) (by simpa using hb2)
   have e4:=mL _ (aC (xs:=fs) (k:=(G ag k).toNat) oz)
   refine aj (nx (af (au tb V (r9 [1012]) [_,.int ((G fs ((G ag k).toNat)).length:Nat),_,_,_,.ptr [lS (G (G fs ((G ag k).toNat)) 0)],_,_,_,.ptr [lS (G ((G gf.aa k).ac) 0)],_,_,_] [1,5,9] fw Y ⟨aD b6,cN (k:=0) bx (hk:=λ(aF:((decide ((((G fs ((G ag k).toNat)).length:Nat):Int)=(0:Int)))==false)=true)=>by(try simp at aF);first | omega | (simp;omega) | grind[aC]),cN (k:=0) bx (hk:=λ(aF:((decide ((((G fs ((G ag k).toNat)).length:Nat):Int)=(0:Int)))==false)=true)=>by(try simp at aF);first | omega | (simp;omega) | grind[aC]),U⟩ ?_)))
   refine cj 9 ?_ ?_<;>intro aE
   ·
    have e5:fc gf.aa (a8 fs ag) 0 k=false:=by simp only[fc,Nat.zero_add,e0,Bool.or_eq_false_iff,Bool.not_eq_false',decide_eq_false_iff_not];exact⟨by simpa using hb2,λe=>by simp[e]at aE;have:=e4.1;simp[aE]at this⟩
    have eU:(dd d.vars (G d.ab i).wide gf (a8 fs ag))=([],24):=I0 oz e5
    refine ak tb V [1000,1001] U2 U2 ?_
    exact tw (λh=>gj h (m:=0) (s:=6) Y) (aZ (λa w h=>dX (m:=0) (k:=1) Y (d9 h) Y Y (congrArg (λz=>AV.rd (ai z)) (show([]:List BA)=((dd d.vars (G d.ab i).wide gf (a8 fs ag)).1)from by first | (rw[eU];done) | (rw[eU,if_neg (by simp[e9])]))) (eI (by first | (rw[eU];done) | (rw[eU,if_neg (by simp[e9])])))))
   ·
    have e5:fc gf.aa (a8 fs ag) 0 k=true:=by simp only[Bool.or_eq_false_iff,Bool.not_eq_false',decide_eq_true_eq]at aE;simp[fc,e0,aE.2]
    refine aj (nx (λa w h=>oZ [] (γ:=Value) (λix'=>([.lit wv,.ptr [ai ((G gf.aa k).ac)],.rd (ai ((G gf.aa k).ac)),.ptr [lS (G ((G gf.aa k).ac) 1)],.str (G ((G gf.aa k).ac) 1),.rd (ai (G fs ((G ag k).toNat))),.rd (ai ((G fs ((G ag k).toNat)).drop 1)),.agg (ff (⟨(G ((G gf.aa k).ac) 1),(G fs ((G ag k).toNat)).drop 1⟩:Bd)),.rd (fj ([(⟨(G ((G gf.aa k).ac) 1),(G fs ((G ag k).toNat)).drop 1⟩:Bd)])),.any,.any]:List AV).getD ix' .any) (λ_=>true) [(0,λ_=>.at bc 0),(2,λ_=>.rd (bS ag)),(4,λ_=>.ptr (aY gf)),(19,λ_=>.rd (bW gf.aa)),(20,λ_=>.int (gf.aa.length:Nat)),(21,λ_=>.int (k:Nat)),(8,λg=>.lit g)] (λj' g=>match j' with | 0=>[OB.row wv 182 2 (bs.map ff)] | _=>[OB.row g 182 2 ((bs++([(⟨(G ((G gf.aa k).ac) 1),(G fs ((G ag k).toNat)).drop 1⟩:Bd)])).map ff)]) (λk' g=>match k' with | 0=>g | 1=>g | _=>undef) [9,10] 2 (.slice none 0 0) (λ_=>Y) h V cP Y Y Y Y Y Y hsb ⟨oX Y λZ hl=>b8 Y (hl.env 7 8 _ Y Y) Z,oX Y λZ hl=>ca lO Y (hl.env 0 10 _ Y Y) Z,oX Y λZ hl=>bU ia Y (hl.D 1 53 Y Y) Z,?_,oX Y λZ hl=>bU fd Y (hl.D 3 55 Y Y) Z,oX Y λZ hl=>b8 Y (hl.env 8 11 _ Y Y) Z,?_,?_,?_,bB Y,bB Y,U⟩ ⟨?pN,?sW,U⟩ ⟨.old 1 0 _,.old 2 2 _,.old 3 4 _,.old 4 19 _,.old 5 20 _,.old 6 21 _,.dZ 1 10 8 (λ(g:Value)=>g) Y Y (λ_=>Y) (λ_ _ Z=>m6 (Z.2.1 _ (mo 0 Y))),U⟩ ?AU))
    exact oX Y λZ hl=>cb (i:=((1:Nat):Int)) bx Y (hl.D 2 54 Y Y) (Rel.aG (.int .i64 1)) bM (cq (xs:=(G gf.aa k).ac) (k:=1) az) Y Z
    exact oX Y λZ hl=>iH (ys:=(G fs ((G ag k).toNat)).drop 1) (lo:=1) (hi:=(G fs ((G ag k).toNat)).length) (by rw[take_length]) bx (λ_=>Y) Y (hl.D 5 57 Y Y) (Rel.aG (.int .i64 1)) Y az az Z
    exact λ_ O' _=>⟨Y,λa _ _ Z hl _=>gd (us:=[a.eval (.tmp 56),a.eval (.tmp 58)]) yy Y yz (bX (hl.D 4 56 Y Y) (bX (hl.D 6 58 Y Y) cE)) Y Z⟩
    exact oY Y λhk Z hl=>mY pO Ce dz Y Y (hl.D 7 59 Y Y) (aK hS _ hk Z _ aV) (jo V Z)
    case pN=>exact⟨_,Y,Y,Y,Y,λ_ _ w hk Z hl _=>bC (lj (f:=ff) bs ([(⟨(G ((G gf.aa k).ac) 1),(G fs ((G ag k).toNat)).drop 1⟩:Bd)]) (λ_=>rfl) yp V hJ0 Y hk Z (hl.D 0 52 Y Y).lit (hl.D 8 60 Y Y) (by have:=u7 gf.aa (a8 fs ag) 0 k;rw[ah];simp;omega) (by have:=u7 gf.aa (a8 fs ag) 0 k;rw[ah];simp;omega)) λv w' hp=>⟨v,Y,λk' hk'=>absurd hk' (Nat.not_lt_zero _),λ_=>rfl,hp⟩⟩
    case sW=>exact⟨_,Y,Y,Y,Y,λg _ w hk Z _ hs=>bC (rc (.inl Y) (hs 0 9 _ 61 oz Y Y Y) hk Z) λv w' hp=>⟨g,Y,λ_ _=>rfl,λ_=>hp.1,hp.2⟩⟩
    clear a w h
    intro v2
    dsimp only[List.map]
    refine nx (aT tb V (r5 [6,1001]) [.int (k+1:Nat),_] [0] U7 Y ⟨aM,U⟩ ?_)
    exact bq (k+1,v2,bs++([(⟨(G ((G gf.aa k).ac) 1),(G fs ((G ag k).toNat)).drop 1⟩:Bd)])) (r5 [6,5]) ⟨oz,by rw[sG,<-ah];simp[kN,e0,hb2],cF bp e5⟩
 ·
  have e6:∀ j,j<gf.aa.length->fc gf.aa (a8 fs ag) 0 j=true:=λj hj=>bp j oz
  refine aW (nx (af (tw (λh=>dV hS h (m:=6) (s:=8) Y) (tw (sa 0 Y (congrArg (λz'=>AV.rd (fj z')) (show bs=(bO gf.aa (a8 fs ag) 0 gf.aa.length)from by rw[ah,show k=gf.aa.length by omega]))) ?_))))
  refine au tb V [0,1,2,3,1001,1002,1003] [_,_,.int (gf.aa.length:Nat),_] [2] U7 Y ⟨aD cT,U⟩ ?_
  refine ln 0 λ_=>?_
  refine ax (lpo (ι:=Nat) (λj=>(j<=gf.aa.length)/\(∀ i',i'<j->jA gf.aa (a8 fs ag) 0 (bO gf.aa (a8 fs ag) 0 gf.aa.length) i'=true)) (λ_=>[]) (λj=>[(66,.int (j:Nat))]) (λj=>gf.aa.length-j) (r7 []) U6 0 ⟨aI,λj hj=>by omega⟩ ?_)
  rintro j ⟨fx,bi⟩
  refine ak tb V (r7 [1000]) [_] U8 ?_
  refine cI 7 ?_ ?_<;>intro bh<;>try simp at bh
  ·
   have e0:G (a8 fs ag) j=(G fs (G ag j).toNat):=sY oz
   have e1:=oG j oz
   refine aj (nx (af (ax (aL (ao 1 tb Y (sy (.ptr (aN (G gf.aa j))) (λh=>cb (i:=(j:Int)) cD Y (h.get 5 Y) (h.get 7 Y) bM (cq (xs:=gf.aa) (k:=j) az) Y h.x) ?_))))))
   refine ao 1 tb Y (cz kK V Y Y Y (lb Y) λb3=>?_)
   refine ao 1 tb Y (ck (b:=b3) (off:=0) (es:=U3) (news:=U3) V hJ0 jn Y Y Y (lb Y) Y (λa w h=>⟨(h.get 1 Y),(h.get 2 Y)⟩) ?_)
   refine kw (λh=>fg hS h (m:=1) (s:=13) Y) (aA [0,1,5,6,7,8,9,10,11] U9 Y ?_)
   refine nx (au tb V [2,3,4,5,6,7,8,1019] (V8 [.at bc 0,.at bc 4,.lit fv,_,_,.ptr [lI (G ag j)],_,.lit (cA fv (((G ag j).toNat)*1)),.rd (ai (G fs ((G ag j).toNat))),.bool (lN ((G gf.aa j).ac) (bO gf.aa (a8 fs ag) 0 gf.aa.length) (G fs ((G ag j).toNat))),_,_]) [8,9,10,13,15,16,17] U8 Y ⟨λ_ _ _ Z hl hc=>jl Y (hl.D 7 78 Y hc) Z,λ_ _ _ Z hl hc=>cv oE Y (hl.D 8 79 Y hc) Z,λ_ _ hk Z hl hc=>cg ql Y (dD hH hk Z (mo 0 Y)) (hl.D 9 80 Y hc) Y Z,cN dc (hk:=λ(aF:((!((G gf.aa j).be))==true)=true)=>by(try simp at aF);first | omega | (simp;omega) | grind[aC]),λ_ _ hk Z hl hc=>eQ (i:=(G ag j)) eC Y (dD hH hk Z (mo 1 Y)) (hl.D 10 81 Y hc) (hl.D 14 85 Y hc) (by have aF:((!((G gf.aa j).be))==true)=true:=hc;(try simp at aF);(first | omega | (simp;omega) | grind[aC])) (by rw[length_map];exact(by have aF:((!((G gf.aa j).be))==true)=true:=hc;(try simp at aF);(first | omega | (simp;omega) | grind[aC]))) Z,λ_ _ hk Z hl hc=>mZ (i:=(G ag j).toNat) ia Y (dD hH hk Z (mo 1 Y)) (hl.D 15 86 Y hc) (ir (xs:=fs) (k:=(G ag j).toNat) (by have aF:((!((G gf.aa j).be))==true)=true:=hc;(try simp at aF);(first | omega | (simp;omega) | grind[aC]))) Z,bN hS V (R4 V ((G gf.aa j).ac) (bO gf.aa (a8 fs ag) 0 gf.aa.length) (G fs ((G ag j).toNat))) (cO func114),U⟩ ?_)
   refine cj 7 ?_ ?_<;>intro bV
   ·
    have e7:jA gf.aa (a8 fs ag) 0 (bO gf.aa (a8 fs ag) 0 gf.aa.length) j=false:=by simp only[jA,Nat.zero_add,e0];simpa using bV
    have eU:(dd d.vars (G d.ab i).wide gf (a8 fs ag))=([],25):=I1 e6 oz e7
    refine ak tb V [1000,1001] U2 U2 ?_
    exact tw (λh=>gj h (m:=0) (s:=6) Y) (aZ (λa w h=>dX (m:=0) (k:=1) Y (d9 h) Y Y (congrArg (λz=>AV.rd (ai z)) (show([]:List BA)=((dd d.vars (G d.ab i).wide gf (a8 fs ag)).1)from by first | (rw[eU];done) | (rw[eU,if_neg (by simp[e9])]))) (eI (by first | (rw[eU];done) | (rw[eU,if_neg (by simp[e9])])))))
   ·
    refine aj (nx (aT tb V (r6 [1001]) [.int (j+1:Nat),_] [0] U7 Y ⟨aM,U⟩ ?_))
    exact bq (j+1) (r7 []) ⟨oz,cF bi (by cases h9:(G gf.aa j).be<;>simp_all[jA])⟩
  ·
   have e8:∀ j,j<gf.aa.length->jA gf.aa (a8 fs ag) 0 (bO gf.aa (a8 fs ag) 0 gf.aa.length) j=true:=λj hj=>bi j oz
   refine aW (nx (au tb V [0,1,3,1001,1005,1007,1008] (V3 [.bJ [.rd (ai (if b7 (ay (bO gf.aa (a8 fs ag) 0 gf.aa.length)) gf.ac 2000 then bz (ay (bO gf.aa (a8 fs ag) 0 gf.aa.length)) gf.ac else [])),.int (if b7 (ay (bO gf.aa (a8 fs ag) 0 gf.aa.length)) gf.ac 2000 then 0 else 15)],_,_,_,_,_]) [3] U7 Y ⟨bN hS V (GJ V gf.ac (bO gf.aa (a8 fs ag) 0 gf.aa.length) 2000 az (u9 (λt ht=>(het t ht).2) oz)) (cO func103),U⟩ ?_))
   refine ln 3 λ_=>?_
   refine ln 4 λ_=>?_
   refine af (ak tb V [0,1,2,5,1001] U2 U5 ?_)
   refine cj 4 ?_ ?_<;>intro eM<;>try simp at eM
   ·
    have e9:b7 (ay (bO gf.aa (a8 fs ag) 0 gf.aa.length)) gf.ac 2000=false:=by cases h9:b7 (ay (bO gf.aa (a8 fs ag) 0 gf.aa.length)) gf.ac 2000<;>simp_all
    have eU:(dd d.vars (G d.ab i).wide gf (a8 fs ag))=([],15):=IZ e6 e8 e9
    refine ak tb V [1000,1001] U2 U2 ?_
    exact tw (λh=>gj h (m:=0) (s:=6) Y) (aZ (λa w h=>dX (m:=0) (k:=1) Y (d9 h) Y Y (congrArg (λz=>AV.rd (ai z)) (show([]:List BA)=((dd d.vars (G d.ab i).wide gf (a8 fs ag)).1)from by first | (rw[eU];done) | (rw[eU,if_neg (by simp[e9])]))) (eI (by first | (rw[eU];done) | (rw[eU,if_neg (by simp[e9])])))))
   ·
    have e9:b7 (ay (bO gf.aa (a8 fs ag) 0 gf.aa.length)) gf.ac 2000=true:=by cases h9:b7 (ay (bO gf.aa (a8 fs ag) 0 gf.aa.length)) gf.ac 2000<;>simp_all
    refine tw (sa 3 Y (show(.rd (ai (if b7 (ay (bO gf.aa (a8 fs ag) 0 gf.aa.length)) gf.ac 2000 then bz (ay (bO gf.aa (a8 fs ag) 0 gf.aa.length)) gf.ac else [])):AV)= .rd (ai (bz (ay (bO gf.aa (a8 fs ag) 0 gf.aa.length)) gf.ac))from by rw[if_pos e9])) (aj (nx (ln 3 λOI=>?_)))
    refine af (af (λa w h=>iq (γ:=Nat) (λix'=>([.rd (fj (bO gf.aa (a8 fs ag) 0 gf.aa.length)),.ptr [bI gf.apart,ai gf.ac,bW gf.bA,bI gf.wide,ai gf.proof],.rd (bI gf.apart),.at bc 0,.at bc 0,.at bc 0,.at bc 1,.rd (ai d.vars),.at bc 0,.at bc 0,.at bc 0,.at bc 2,.rd (dU d.ab),.at bc 0,.at bc 0,.at bc 3,.int (i:Nat),.ptr (aY (G d.ab i)),.ptr [bI ((G d.ab i).wide),ai ((G d.ab i).proof)],.rd (bI ((G d.ab i).wide)),.bJ [.agg (aR (fB (bO gf.aa (a8 fs ag) 0 gf.aa.length) gf.apart d.vars ((G d.ab i).wide))),.bool (eL (bO gf.aa (a8 fs ag) 0 gf.aa.length) gf.apart d.vars ((G d.ab i).wide))],.bJ [.agg (aR (fB (bO gf.aa (a8 fs ag) 0 gf.aa.length) gf.apart d.vars ((G d.ab i).wide))),.bool (eL (bO gf.aa (a8 fs ag) 0 gf.aa.length) gf.apart d.vars ((G d.ab i).wide))],.agg (aR (fB (bO gf.aa (a8 fs ag) 0 gf.aa.length) gf.apart d.vars ((G d.ab i).wide))),.bool (eL (bO gf.aa (a8 fs ag) 0 gf.aa.length) gf.apart d.vars ((G d.ab i).wide)),.any,.any,.bool (eL (bO gf.aa (a8 fs ag) 0 gf.aa.length) gf.apart d.vars ((G d.ab i).wide))]:List AV).getD ix' .any) (λ_=>true) [(14,λ_=>.rd (ai (bz (ay (bO gf.aa (a8 fs ag) 0 gf.aa.length)) gf.ac))),(17,λ_=>.bool (eL (bO gf.aa (a8 fs ag) 0 gf.aa.length) gf.apart d.vars ((G d.ab i).wide)))] (λj' g=>match j' with | 0=>[] | 1=>[OB.var g [lS (⟨#[]⟩:BA),lS (⟨#[]⟩:BA)]] | _=>[OB.var g (aR (fB (bO gf.aa (a8 fs ag) 0 gf.aa.length) gf.apart d.vars ((G d.ab i).wide)))]) (λk' g=>match k' with | 0=>(.pointer (some ⟨g,0,none⟩)) | _=>undef) [24,25] 2 0 (λ_=>Y) h V cP Y Y Y Y Y Y hsb ⟨oX Y λZ hl=>b8 Y (hl.env 0 8 _ Y Y) Z,oX Y λZ hl=>ca zt Y (hl.env 2 4 _ Y Y) Z,oX Y λZ hl=>bU rX Y (hl.D 1 103 Y Y) Z,oX Y λZ hl=>b8 Y (hl.env 1 0 _ Y Y) Z,oX Y λZ hl=>jl Y (hl.D 3 105 Y Y) Z,oX Y λZ hl=>cv rk Y (hl.D 4 106 Y Y) Z,oX Y λZ hl=>cv zp Y (hl.D 5 107 Y Y) Z,oY Y λhk Z hl=>cg ia Y (dD hH hk Z (mo 0 Y)) (hl.D 6 108 Y Y) Y Z,oX Y λZ hl=>b8 Y (hl.env 1 0 _ Y Y) Z,oX Y λZ hl=>jl Y (hl.D 8 110 Y Y) Z,oX Y λZ hl=>cv rk Y (hl.D 9 111 Y Y) Z,oX Y λZ hl=>cv pR Y (hl.D 10 112 Y Y) Z,oY Y λhk Z hl=>cg qk Y (dD hH hk Z (mo 0 Y)) (hl.D 11 113 Y Y) Y Z,oX Y λZ hl=>b8 Y (hl.env 1 0 _ Y Y) Z,oX Y λZ hl=>jl Y (hl.D 13 115 Y Y) Z,oX Y λZ hl=>cv zo Y (hl.D 14 116 Y Y) Z,oY Y λhk Z hl=>cg fY Y (dD hH hk Z (mo 0 Y)) (hl.D 15 117 Y Y) Y Z,?_,oX Y λZ hl=>ca zu Y (hl.D 17 119 Y Y) Z,oX Y λZ hl=>bU rX Y (hl.D 18 120 Y Y) Z,?_,oX Y λZ hl=>b8 Y (hl.D 20 122 Y Y) Z,oX Y λZ hl=>gi Y (hl.D 21 101 Y Y) Y Z,oX Y λZ hl=>gi Y (hl.D 21 101 Y Y) Y Z,bB Y,bB Y,oX Y λZ hl=>gO Y (hl.D 23 124 Y Y) Z,U⟩ ⟨?LX,?LY,U⟩ ⟨.old 3 14 _,.new 26 17 _,U⟩ ?Xp))
    exact oX Y λZ hl=>cb (i:=(i:Int)) fK Y (hl.D 12 114 Y Y) (hl.D 16 118 Y Y) bM (cq (xs:=d.ab) (k:=i) az) Y Z
    exact oY Y λhk Z hl=>cQ (Gz V (bO gf.aa (a8 fs ag) 0 gf.aa.length) gf.apart d.vars ((G d.ab i).wide) (u9 (λt ht=>(het t ht).2) oz) (by exact p8)) (cO func95) Y (aK hS _ hk Z) (Z.1) (aq (hl.D 0 102 Y Y) (aq (hl.D 2 104 Y Y) (aq (hl.D 7 109 Y Y) (aq (hl.D 19 121 Y Y) aP)))) (jo V Z)
    case LX=>exact⟨_,Y,Y,Y,Y,λg _ w hk Z _ _=>bC (gq na V Y hk Z) λv w' ⟨g',hv,hp⟩=>⟨g',Y,λk' hk'=>absurd hk' (Nat.not_lt_zero _),λ_=>hv,hp⟩⟩
    case LY=>exact⟨_,Y,Y,Y,Y,λg a w hk Z hl hs=>(by obtain⟨eJ,hv2,ed⟩:=jm (hl.D 22 123 Y Y);exact bC (ii (S':=S) (off:=0) (news:=U2) (es:=U2) (us:=eJ) V hJ0 jZ Y hk Z (kj (hs 0 24 _ 16 oz Y Y Y)) (by rw[hv2];rfl) ed (lb Y) Y) λv w' hp=>⟨g,Y,λ_ _=>rfl,λe=>(by cases e),hp⟩)⟩
    clear a w h
    intro b4
    dsimp only[List.map]
    refine kw cR (nx (ln 0 λE5=>?_))
    refine ak tb V [0,1000] [_] U2 ?_
    refine cj 1 ?_ ?_<;>intro fM<;>try simp at fM
    ·
     have eU:(dd d.vars (G d.ab i).wide gf (a8 fs ag))=([],26):=I2 e6 e8 e9 fM
     refine ak tb V [1000,1001] U2 U2 ?_
     exact tw (λh=>gj h (m:=0) (s:=6) Y) (aZ (λa w h=>dX (m:=0) (k:=1) Y (d9 h) Y Y (congrArg (λz=>AV.rd (ai z)) (show([]:List BA)=((dd d.vars (G d.ab i).wide gf (a8 fs ag)).1)from by first | (rw[eU];done) | (rw[eU,if_neg (by simp[e9])]))) (eI (by first | (rw[eU];done) | (rw[eU,if_neg (by simp[e9])])))))
    ·
     have eU:(dd d.vars (G d.ab i).wide gf (a8 fs ag))=(bz (ay (bO gf.aa (a8 fs ag) 0 gf.aa.length)) gf.ac,0):=I3 e6 e8 e9 fM
     refine aj (nx (ak tb V [1001,1002] U3 U2 ?_))
     exact aZ (λa w h=>dX (m:=0) (k:=1) Y (d9 h) Y Y (congrArg (λz=>AV.rd (ai z)) (show(bz (ay (bO gf.aa (a8 fs ag) 0 gf.aa.length)) gf.ac)=((dd d.vars (G d.ab i).wide gf (a8 fs ag)).1)from by first | (rw[eU];done) | (rw[eU,if_neg (by simp[e9])]))) (eI (by first | (rw[eU];done) | (rw[eU,if_neg (by simp[e9])]))))
section
variable {J:WP} (V:aS J)
include V
theorem R3 (f:Fr) (s:BA)  :Fn prog J 93 [.agg (aY f),.ptr [lS s]] (.bool (decide (f.ae=s))):=by
 refine fE func93 λS w0 hS hJ0=>?_
 clear hJ0
 refine aJ tb V [1,1000] [.ptr (aY f),_] [0] U2 Y ⟨ej hS V,U⟩ ?_
 refine qs tb V [1004] U5 [_] ?_
 exact aU 0 (hE:=Y)
theorem GG (d:Db) (s:BA)  :Fn prog J 67 [.agg (bZ d),.str s] (.int (bP d s)):=by
 refine fE func67 λS w0 hS hJ0=>?_
 clear hJ0
 refine aJ tb V [1000,1001] [.ptr (bZ d),.ptr [lS s],_] [0,1] U2 Y ⟨ej hS V,λ_ _ hk Z hl _=>k4 Y (hl.env 1 1 _ Y Y) (hS _ hk.size) (js V Z),U⟩ ?_
 refine aJ tb V [1001,1004] [_,_,.fn 93 [.ptr [lS s]],.int (cH (λ(f':Fr)=>decide (f'.ae=s)) d.ab),_] [2,3] U2 Y ⟨λ_ _ _ Z hl _=>k5 (caps:=[(.tmp 3)]) Y (aq (hl.env 1 3 _ Y Y) aP) Z,λ_ _ hk Z hl _=>dE (GH V d.ab 93 [.ptr [lS s]] [] (λ(f':Fr)=>decide (f'.ae=s)) (λq'=>(R3 V q' s).r) ((cO func93))) (cO func59) Y (nm hS hk) (Z) b9 (aq (hl.D 1 6 Y Y) (aq (hl.D 2 7 Y Y) aP)) (js V Z),U⟩ ?_
 refine ln 0 λ_=>?_
 exact aU 1 (hE:=eI (Y))
theorem SE (bc:Nat) (d:Db) (i:Nat) (fv:Value) (fs:List (List BA)) (s:Stp) (hi:i<d.ab.length) (dW:dy d=0) (mL:∀ t∈fs,1<=t.length/\t.length<=2000) (oG:∀ j,j<s.args.length->0<=G s.args j/\G s.args j< (fs.length:Int)) (p8:(G d.ab i).wide.length*32<=140737488351232):cM prog J 57 [OB.var bc [ai d.bH,ai d.vars,dU d.ab,lI (i:Int),.lit fv],OB.row fv 22 1 (fs.map kG)] [.at bc 0,.agg (bF s)] (.bJ [.rd (ai ((cr d i s fs).1)),.int ((cr d i s fs).2)]):=by
 refine fk func57 λS w0 hS hJ0 hH=>?_
 refine tw cc ?_
 have wk:zI (G d.ab i):=(pF dW _ (aC hi)).2.2
 refine au tb V [0,1000] [.ptr (bF s),_,_] [0] U2 Y ⟨cW hS V,U⟩ ?_
 refine af (ak tb V [0,1,1002] U3 U3 ?_)
 refine cj 2 ?_ ?_<;>intro hb1
 ·
  have eU:=Ia (d:=d) (i:=i) (s:=s) (a:=fs) (by simpa using hb1)
  refine ak tb V [1000,1001] U2 U2 ?_
  exact tw (λh=>gj h (m:=0) (s:=4) Y) (aZ (λa w h=>dX (m:=0) (k:=1) Y (d9 h) Y Y (congrArg (λz=>AV.rd (ai z)) (show([]:List BA)=((cr d i s fs).1)from by rw[eU])) (eI (by rw[eU]))))
 ·
  have h0:¬ s.ae=⟨#[63]⟩:=by simpa using hb1
  refine aj (nx (af (af (λa w h=>iq (γ:=Nat) (λix'=>([.at bc 0,.at bc 0,.at bc 0,.at bc 2,.rd (dU d.ab),.at bc 0,.at bc 0,.at bc 3,.int (i:Nat),.ptr (aY (G d.ab i)),.agg (aY (G d.ab i)),.ptr (bF s),.str s.ae,.bJ [.agg (aN ((cy (G d.ab i) s.ae).getD default)),.bool ((cy (G d.ab i) s.ae).isSome)],.bJ [.agg (aN ((cy (G d.ab i) s.ae).getD default)),.bool ((cy (G d.ab i) s.ae).isSome)],.agg (aN ((cy (G d.ab i) s.ae).getD default)),.bool ((cy (G d.ab i) s.ae).isSome),.any,.any,.bool ((cy (G d.ab i) s.ae).isSome)]:List AV).getD ix' .any) (λ_=>true) [(0,λ_=>.at bc 0),(3,λ_=>.ptr (bF s)),(6,λg=>.at g 0),(7,λ_=>.bool ((cy (G d.ab i) s.ae).isSome))] (λj' g=>match j' with | 0=>[] | 1=>[OB.var g [lS (⟨#[]⟩:BA),lB false,ai ([]:List BA)]] | _=>[OB.var g (aN ((cy (G d.ab i) s.ae).getD default))]) (λk' g=>match k' with | 0=>(.pointer (some ⟨g,0,none⟩)) | _=>undef) [17,18] 2 0 (λ_=>Y) h V cP Y Y Y Y Y Y hsb ⟨oX Y λZ hl=>b8 Y (hl.env 0 0 _ Y Y) Z,oX Y λZ hl=>jl Y (hl.D 0 13 Y Y) Z,oX Y λZ hl=>cv rk Y (hl.D 1 14 Y Y) Z,oX Y λZ hl=>cv pR Y (hl.D 2 15 Y Y) Z,oY Y λhk Z hl=>cg qk Y (dD hH hk Z (mo 0 Y)) (hl.D 3 16 Y Y) Y Z,oX Y λZ hl=>b8 Y (hl.env 0 0 _ Y Y) Z,oX Y λZ hl=>jl Y (hl.D 5 18 Y Y) Z,oX Y λZ hl=>cv zo Y (hl.D 6 19 Y Y) Z,oY Y λhk Z hl=>cg fY Y (dD hH hk Z (mo 0 Y)) (hl.D 7 20 Y Y) Y Z,?_,oX Y λZ hl=>jB pu Y (hl.D 9 22 Y Y) aV Z,oX Y λZ hl=>ca Eh Y (hl.env 1 3 _ Y Y) Z,oX Y λZ hl=>bU fd Y (hl.D 11 24 Y Y) Z,?_,oX Y λZ hl=>b8 Y (hl.D 13 26 Y Y) Z,oX Y λZ hl=>gi Y (hl.D 14 12 Y Y) Y Z,oX Y λZ hl=>gi Y (hl.D 14 12 Y Y) Y Z,bB Y,bB Y,oX Y λZ hl=>gO Y (hl.D 16 28 Y Y) Z,U⟩ ⟨?nA,?pM,U⟩ ⟨.old 0 0 _,.old 1 3 _,.dZ 0 17 6 (λg=>(.pointer (some ⟨g,0,none⟩))) Y Y (λ_=>Y) (λ_=>True.intro),.new 19 7 _,U⟩ ?nU))))
  exact oX Y λZ hl=>cb (i:=(i:Int)) fK Y (hl.D 4 17 Y Y) (hl.D 8 21 Y Y) bM (cq (xs:=d.ab) (k:=i) az) Y Z
  exact oY Y λhk Z hl=>cQ (R6 V (G d.ab i) s.ae (by exact λh hh=>(wk h hh).2)) (cO func86) Y (aK hS _ hk Z) (Z.1) (aq (hl.D 10 23 Y Y) (aq (hl.D 12 25 Y Y) aP)) (jo V Z)
  case nA=>exact⟨_,Y,Y,Y,Y,λg _ w hk Z _ _=>bC (gq kK V Y hk Z) λv w' ⟨g',hv,hp⟩=>⟨g',Y,λk' hk'=>absurd hk' (Nat.not_lt_zero _),λ_=>hv,hp⟩⟩
  case pM=>exact⟨_,Y,Y,Y,Y,λg _ w hk Z hl hs=>(by obtain⟨eJ,hv2,ed⟩:=jm (hl.D 15 27 Y Y);exact bC (ii (S':=S) (off:=0) (news:=U3) (es:=U3) (us:=eJ) V hJ0 jn Y hk Z (kj (hs 0 17 _ 6 oz Y Y Y)) (by rw[hv2];rfl) ed (lb Y) Y) λv w' hp=>⟨g,Y,λ_ _=>rfl,λe=>(by cases e),hp⟩)⟩
  clear a w h
  intro b1
  dsimp only[List.map]
  refine kw (λh=>fg hS h (m:=2) (s:=6) Y) (nx (ak tb V [0,1,2,1000] [_] U4 ?_))
  refine cj 3 ?_ ?_<;>intro hb2
  ·
   refine af (au tb V [0,1001,1003] [_,_,.int (s.args.length:Nat),_] [2] U3 Y ⟨aD eW,U⟩ ?_)
   refine ln 1 λ_=>?_
   refine cj 2 ?_ ?_<;>intro aE<;>try simp at aE
   ·
    have eU:=Ib (a:=fs) h0 hb2 oz
    refine ak tb V [1000,1001] U2 U2 ?_
    exact tw (λh=>gj h (m:=0) (s:=4) Y) (aZ (λa w h=>dX (m:=0) (k:=1) Y (d9 h) Y Y (congrArg (λz=>AV.rd (ai z)) (show([]:List BA)=((cr d i s fs).1)from by rw[eU])) (eI (by rw[eU]))))
   ·
    have eU:=Ic (a:=fs) h0 hb2 (by simpa using aE)
    have e3:(((cy (G d.ab i) s.ae).getD default).ac).length<=2000:=by obtain⟨y,hy⟩:=Option.isSome_iff_exists.1 hb2;rw[hy];exact(wk y (mem_of_find?_eq_some hy)).2
    refine aj (nx (aL (ao 2 tb Y (iI (O:=[]) (R:=[]) (GC V (((cy (G d.ab i) s.ae).getD default).ac) oz) (cO func87) Y Y Y (lb Y) hS hJ0 b9 (λa w h=>(aq (h.get 0 Y) aP)) λz2=>?_))))
    refine ao 2 tb Y (aA [0,1,3] U3 Y ?_)
    refine nx (ln 2 λhl2=>?_)
    exact tw (λh=>dV hS h (m:=1) (s:=4) Y) (aZ (λa w h=>dX (m:=0) (k:=1) Y (d9 h) Y Y (congrArg (λz=>AV.rd (ai z)) (show(((cy (G d.ab i) s.ae).getD default).ac)=((cr d i s fs).1)from by rw[eU])) (eI (by rw[eU]))))
  ·
   have e2:(cy (G d.ab i) s.ae)=none:=by cases h9:(cy (G d.ab i) s.ae)with | none=>rfl | some y=>rw[h9]at hb2;cases hb2
   refine aj (nx (au tb V [1,2,1007] [_,.at bc 0,.at bc 0,.agg (bZ d),_,_,.int (bP d s.ae),_] [1,2,3,6] U3 Y ⟨λ_ _ _ Z hl _=>jl Y (hl.D 0 37 Y Y) Z,λ_ _ _ Z hl _=>cv rk Y (hl.D 1 38 Y Y) Z,λ_ _ hk Z hl _=>iX (ds:=[ai d.bH,ai d.vars,dU d.ab]) uU Y (dD hH hk Z (mo 0 Y)) (hl.D 2 39 Y Y) Y Y Z,bN hS V (GG V d s.ae) (cO func67),U⟩ ?_))
   refine af (ax (au tb V [0,1,2,1010] (V5 [.at bc 0,.at bc 3,.int (i:Nat),_,_,_]) [5,6,7] U4 Y ⟨λ_ _ _ Z hl hc=>jl Y (hl.D 4 49 Y hc) Z,λ_ _ _ Z hl hc=>cv zo Y (hl.D 5 50 Y hc) Z,λ_ _ hk Z hl hc=>cg fY Y (dD hH hk Z (mo 0 Y)) (hl.D 6 51 Y hc) Y Z,U⟩ ?_))
   refine cj 3 ?_ ?_<;>intro bh
   ·
    have eU:=H8 (a:=fs) h0 e2 (show(dM d i s.ae)<0 by rw[MK oz (by simpa [-Int.not_lt]using bh)];decide)
    refine ak tb V [1000,1001] U2 U2 ?_
    exact tw (λh=>gj h (m:=0) (s:=4) Y) (aZ (λa w h=>dX (m:=0) (k:=1) Y (d9 h) Y Y (congrArg (λz=>AV.rd (ai z)) (show([]:List BA)=((cr d i s fs).1)from by rw[eU])) (eI (by rw[eU]))))
   ·
    have e4:¬ bP d s.ae<0/\bP d s.ae< (i:Int):=by simp only[Bool.or_eq_false_iff,decide_eq_false_iff_not]at bh;omega
    have e7:=DY (d:=d) (i:=i) oz e4.1 e4.2
    have e5:=uX (d:=d) (i:=i) (s:=s.ae) oz
    have e6:=pF dW _ (aC e5.2.2)
    refine tw (sa 2 Y (show(.int (bP d s.ae):AV)= .int ((dM d i s.ae).toNat:Nat)from congrArg AV.int oz)) (au tb V [0,1,2,1001,1007,1011,1014] [_,_,.int (s.args.length:Nat),_,.at bc 0,.at bc 0,.at bc 2,.rd (dU d.ab),_,.ptr (aY (G d.ab ((dM d i s.ae).toNat))),_,_,.int (((G d.ab ((dM d i s.ae).toNat)).aa).length:Nat),_,_] [2,4,5,6,7,9,12] U7 Y ⟨aD eW,λ_ _ _ Z hl _=>jl Y (hl.D 3 59 Y Y) Z,λ_ _ _ Z hl _=>cv rk Y (hl.D 4 60 Y Y) Z,λ_ _ _ Z hl _=>cv pR Y (hl.D 5 61 Y Y) Z,λ_ _ hk Z hl _=>cg qk Y (dD hH hk Z (mo 0 Y)) (hl.D 6 62 Y Y) Y Z,bn fK,aD cT,U⟩ ?_)
    refine ln 3 λ_=>?_
    refine ln 4 λ_=>?_
    refine ln 5 λ_=>?_
    refine cj 6 ?_ ?_<;>intro bV<;>try simp at bV
    ·
     have eU:=H9 (a:=fs) h0 e2 oz oz
     refine ak tb V [1000,1001] U2 U2 ?_
     exact tw (λh=>gj h (m:=0) (s:=4) Y) (aZ (λa w h=>dX (m:=0) (k:=1) Y (d9 h) Y Y (congrArg (λz=>AV.rd (ai z)) (show([]:List BA)=((cr d i s fs).1)from by rw[eU])) (eI (by rw[eU]))))
    ·
     have eU:=BE (a:=fs) h0 e2 oz (show s.args.length=(G d.ab (dM d i s.ae).toNat).aa.length by omega)
     refine aj (nx (au tb V [1012,1014,1015] [_,_,.at bc 0,.at bc 0,.at bc 2,.rd (dU d.ab),_,.ptr (aY (G d.ab ((dM d i s.ae).toNat))),_,_,_,.bJ [.rd (ai ((dd d.vars (G d.ab i).wide (G d.ab ((dM d i s.ae).toNat)) (a8 fs s.args)).1)),.int ((dd d.vars (G d.ab i).wide (G d.ab ((dM d i s.ae).toNat)) (a8 fs s.args)).2)],_,_,_,_] [2,3,4,5,7,11] U3 Y ⟨λ_ _ _ Z hl _=>jl Y (hl.D 1 71 Y Y) Z,λ_ _ _ Z hl _=>cv rk Y (hl.D 2 72 Y Y) Z,λ_ _ _ Z hl _=>cv pR Y (hl.D 3 73 Y Y) Z,λ_ _ hk Z hl _=>cg qk Y (dD hH hk Z (mo 0 Y)) (hl.D 4 74 Y Y) Y Z,bn fK,λ_ _ hk Z hl _=>dE (S2 V bc d i fv fs (G d.ab ((dM d i s.ae).toNat)) s.args (by exact hi) (by exact mL) (by exact oG) oz (by exact e6.1.2) (by exact e6.1.1) (by exact p8)) (cO func88) Y (aK hS _ hk Z) (Z.1) (dC (dD hH hk Z (mo 0 Y)) (dC (dD hH hk Z (mo 1 Y)) b9)) (aq (hl.D 0 70 Y Y) (aq (hl.D 8 78 Y Y) (aq (hl.D 10 80 Y Y) aP))) (jo V Z),U⟩ ?_))
     refine ln 0 λ_=>?_
     exact aZ (λa w h=>dX (m:=1) (k:=2) Y (d9 h) Y Y (congrArg (λz=>AV.rd (ai z)) (show((dd d.vars (G d.ab i).wide (G d.ab ((dM d i s.ae).toNat)) (a8 fs s.args)).1)=((cr d i s fs).1)from by rw[eU])) (eI (by rw[eU])))
end
theorem vh:ol prog 64 [.int .i64 0,.int .i64 0]:=⟨λi=>(#[(0,1),(1,1)]:Array (Nat×Nat))[i]?,λj hj=>by rcases j with _ | _ | j<;>first | rfl | (simp at hj;omega) | simp at hj,λparts=>by kernel_rfl⟩
theorem Kc:Cj prog 113:=λx y z i=>by kernel_rfl
theorem vj:lE prog 64 2:=⟨#[.int .i64 0,.int .i64 0],Y,λi=>(#[(0,1),(1,1)]:Array (Nat×Nat))[i]?,λj hj=>by rcases j with _ | _ | j<;>first | rfl | omega,λparts=>by kernel_rfl⟩
theorem GK {J:WP} (V:aS J) (d:Db) (z:Int) (ss:List Stp) (hw:∀ f∈d.ab,f.wide.length*32<=140737488351232) (hG:iv J):Fn prog J 27 [.agg (bZ d),.int z,.agg (bw ss)] (.bJ [.rd (ct ((aX d z ss).1)),.agg (kL ((aX d z ss).2)),.int (dA d z ss)]):=by
 refine fE func27 λS w0 hS hJ0=>?_
 refine tw cc (aL ?_)
 refine sy (.ptr (bZ d)) (λh=>gc Y (h.get 0 Y) (aK hS _ h.keep h.x _ aV) (jo V h.x)) ?_
 refine sy (.ptr (bw ss)) (λh=>gc Y (h.get 3 Y) (aK hS _ h.keep h.x _ aV) (jo V h.x)) ?_
 refine ao 1 tb (env':=[(6,_),(5,_),(3,_),(0,_),(1,_),(2,_)]) Y (cz sr V Y Y Y (lb Y) λb1=>?_)
 refine ao 1 tb (env':=[(8,_),(7,_),(6,_),(5,_),(3,_),(0,_),(1,_),(2,_)]) Y (aA [1,3,4,6] U4 Y ?_)
 refine nx (af (au tb V [0,1,2,3,1004] (V3 [.int (dA d z ss),_]) [3] U5 Y ⟨bN hS V (A7 V d z ss (by exact hw) (by exact hG)) (cO func56),U⟩ ?_))
 refine ak tb V (r5 [1001]) U2 U6 ?_
 refine cj 5 ?_ ?_<;>intro hb1<;>try simp at hb1
 ·
  have eU:aX d z ss=([],(0,0)):=if_neg (by simpa using hb1)
  refine aL (sy (.agg (kL (⟨0,0⟩:Int×Int))) (λh=>gg (ps:=[]) (us:=[.int .i64 0,.int .i64 0]) vh Y yz f9 Y (dP (.lit _ True.intro) (dP (.lit _ True.intro) cE)) h.x) ?_)
  refine ao 2 tb (env':=[(6,_),(23,_),(22,_),(7,_),(5,_),(3,_),(1,_),(9,_),(21,_)]) Y (ck (b:=b1) (off:=0) (es:=U2) (news:=U2) V hJ0 lC Y Y Y (lb Y) Y (λa w h=>⟨(h.get 3 Y),(h.get 2 Y)⟩) ?_)
  refine ao 1 tb (env':=[(8,_),(6,_),(23,_),(22,_),(7,_),(5,_),(3,_),(1,_),(9,_),(21,_)]) Y (aA [0,1,4] U3 Y ?_)
  exact nx (tw (λh=>gj h (m:=1) (s:=6) Y) (aZ (λa w h=>oR (cs:=[lI ((⟨0,0⟩:Int×Int).1),lI ((⟨0,0⟩:Int×Int).2)]) (m:=2) (q:=1) (z:=0) Y ot h Y Y (show([lI ((⟨0,0⟩:Int×Int).1),lI ((⟨0,0⟩:Int×Int).2)]:List CD)=[lI (((aX d z ss).2).1),lI (((aX d z ss).2).2)]from by rw[eU]) Y (congrArg (λz=>AV.rd (ct z)) (show([]:List (List BA))=((aX d z ss).1)from by rw[eU])) Y Y)))
 ·
  have e0:dA d z ss=0:=by simpa using hb1
  obtain⟨ha,hf⟩:=ns e0
  have bv:=(tk ss).1 hf
  obtain⟨dW,lq,fV⟩:=ou ha
  have hi:z.toNat<d.ab.length:=by omega
  have jR:=bv.1
  have cx:=bv.2.1
  refine tw (sa 3 Y (show(.int z:AV)= .int (z.toNat:Nat)from congrArg AV.int oz)) (aj (nx (aL ?_)))
  refine ao 2 tb (env':=[(25,_),(24,_),(7,_),(5,_),(3,_),(1,_),(9,_),(21,_)]) Y (sy (.agg [ai d.bH,ai d.vars,dU d.ab,lI (z.toNat:Int),.lit (.slice none 0 0)]) (λh=>Ts (d:=d) (i:=(z.toNat:Int)) Kc Y (h.get 1 Y) (h.get 0 Y) h.x) ?_)
  refine xz (cs:=[ai d.bH,ai d.vars,dU d.ab,lI (z.toNat:Int),.lit (.slice none 0 0)]) V Y Y Y (lb Y) (λa w h=>(h.get 0 Y)) λb2=>?_
  refine ao 1 tb (env':=[(10,_),(27,_),(26,_),(25,_),(24,_),(7,_),(5,_),(3,_),(1,_),(9,_),(21,_)]) Y (aA [0,5,6,7,8] U5 Y ?_)
  refine nx (af (tw (iK 22 1 V) (au tb V (r5 [1001,1002,1003]) [_,_,.int (ss.length:Nat),_] [2] U8 Y ⟨aD ep,U⟩ ?_)))
  refine ln 5 λcx=>?_
  refine ax (lpo (ι:=Nat×(List (List BA))×Value) (λ(k,fs,_)=>(k<=ss.length)/\(fs=dH d z.toNat ss k)/\(∀ j,j<k->ik d z.toNat ss j=0)) (λ(_,fs,fv)=>[OB.row fv 22 1 (fs.map kG),OB.var b2 [ai d.bH,ai d.vars,dU d.ab,lI (z.toNat:Int),.lit fv],OB.var b1 [lI 0,lI 0]]) (λ(k,_,_)=>[(31,.int (k:Nat))]) (λ(k,_,_)=>ss.length-k) (r8 []) U7 (0,[],(.slice none 0 0)) ⟨aI,Y,λj hj=>by omega⟩ ?_)
  rintro⟨k,fs,fv⟩ ⟨aQ,ah,bp⟩
  refine ak tb V (r8 [1000]) [_] U9 ?_
  refine cI 8 ?_ ?_<;>intro hb2<;>try simp at hb2
  ·
   have e2:=rl dW hi k bp
   rw[<-ah]at e2
   have e3:fs.length=k:=by rw[ah,lk]
   have e4:=Gn bv (k:=k) oz
   refine aj (nx (af (ax (aL (ao 1 tb (env':=[(33,_),(10,_),(7,_),(5,_),(3,_),(1,_),(29,_),(30,_),(31,_),(32,_)]) Y (sy (.ptr (bF (G ss k))) (λh=>cb (i:=(k:Int)) ey Y (h.get 6 Y) (h.get 8 Y) bM (cq (xs:=ss) (k:=k) az) Y h.x) ?_))))))
   refine ao 1 tb (env':=[(35,_),(34,_),(33,_),(10,_),(7,_),(5,_),(3,_),(1,_),(29,_),(30,_),(31,_),(32,_)]) Y (cz og V Y Y Y (lb Y) λb3=>?_)
   refine ao 1 tb (env':=[(11,_),(12,_),(35,_),(34,_),(33,_),(10,_),(7,_),(5,_),(3,_),(1,_),(29,_),(30,_),(31,_),(32,_)]) Y (ck (b:=b3) (off:=0) (es:=U2) (news:=U2) V hJ0 n9 Y Y Y (lb Y) Y (λa w h=>⟨(h.get 1 Y),(h.get 2 Y)⟩) ?_)
   refine kw (λh=>fg hS h (m:=1) (s:=12) Y) (aA [0,1,5,6,7,8,9,10,11,12] fw Y ?_)
   refine nx (au tb V [1,2,3,4,5,6,7,8,9,1004,1006,1007] [_,_,.bJ [.rd (ai ((cr d z.toNat (G ss k) fs).1)),.int ((cr d z.toNat (G ss k) fs).2)],_,_,_,_,_] [2] oo Y ⟨λ_ _ hk Z hl _=>dE (SE V b2 d z.toNat fv fs (G ss k) (by exact hi) (by exact dW) (by exact e2) (by exact λj hj=>by have:=e4 j hj;omega) (by exact hw _ (aC hi))) (cO func57) Y (aK hS _ hk Z) (Z.1) (dC (aH Z (mo 1 Y)) (dC (aH Z (mo 0 Y)) b9)) (aq (hl.D 0 37 Y Y) (aq (hl.D 1 38 Y Y) aP)) (jo V Z),U⟩ ?_)
   refine ln 9 λ_=>?_
   refine af (ak tb V (r9 [10,11,1001]) U2 oo ?_)
   refine cj 11 ?_ ?_<;>intro aE<;>try simp at aE
   ·
    have eU:aX d z ss=(fs,((cr d z.toNat (G ss k) fs).2,(k:Int))):=by rw[aX,if_pos e0,B2 (k:=k) oz bp (by rw[rh,<-ah];simpa using aE),rh,<-ah]
    refine aL (ao 1 tb (env':=[(44,_),(11,_),(10,_),(7,_),(5,_),(3,_),(1,_),(29,_),(30,_),(31,_),(13,_),(14,_),(43,_)]) Y (sy (.at b2 0) (λh=>jl Y (h.get 0 Y) h.x) ?_))
    refine sy (.at b2 4) (λh=>cv oE Y (h.get 0 Y) h.x) ?_
    refine sy (.lit fv) (λh=>cg ql Y (aH h.x (mo 1 Y)) (h.get 0 Y) Y h.x) ?_
    refine ao 2 tb (env':=[(49,_),(48,_),(47,_),(46,_),(45,_),(44,_),(11,_),(10,_),(7,_),(5,_),(3,_),(1,_),(29,_),(30,_),(31,_),(13,_),(14,_),(43,_)]) Y (sq (.agg (kL (⟨(cr d z.toNat (G ss k) fs).2,(k:Int)⟩:Int×Int))) Y Y (lb Y) (λa _ h=>gd (us:=[a.eval (.tmp 48),a.eval (.tmp 49)]) vj Y yz (bX (h.get 1 Y) (bX (h.get 0 Y) cE)) Y h.x) ?_)
    refine ao 1 tb (env':=[(6,_),(50,_),(49,_),(48,_),(47,_),(46,_),(45,_),(44,_),(11,_),(10,_),(7,_),(5,_),(3,_),(1,_),(29,_),(30,_),(31,_),(13,_),(14,_),(43,_)]) Y (kw dq ?_)
    refine ck (b:=b1) (off:=0) (es:=U2) (news:=U2) V hJ0 lC Y Y Y (lb Y) Y (λa w h=>⟨(h.get 10 Y),(h.get 1 Y)⟩) ?_
    refine ao 1 tb (env':=[(8,_),(6,_),(50,_),(49,_),(48,_),(47,_),(46,_),(45,_),(44,_),(11,_),(10,_),(7,_),(5,_),(3,_),(1,_),(29,_),(30,_),(31,_),(13,_),(14,_),(43,_)]) Y (aA [0,1,11] U3 Y ?_)
    refine nx (tw bQ (tw (λh=>dV hS h (m:=1) (s:=6) Y) ?_))
    exact aZ (λa w h=>oR (cs:=[lI ((⟨(cr d z.toNat (G ss k) fs).2,(k:Int)⟩:Int×Int).1),lI ((⟨(cr d z.toNat (G ss k) fs).2,(k:Int)⟩:Int×Int).2)]) (m:=2) (q:=1) (z:=0) Y ot h Y Y (show([lI ((⟨(cr d z.toNat (G ss k) fs).2,(k:Int)⟩:Int×Int).1),lI ((⟨(cr d z.toNat (G ss k) fs).2,(k:Int)⟩:Int×Int).2)]:List CD)=[lI (((aX d z ss).2).1),lI (((aX d z ss).2).2)]from by rw[eU]) Y (congrArg (λz=>AV.rd (ct z)) (show fs=((aX d z ss).1)from by rw[eU])) Y (congrArg AV.int (show(0:Int)=dA d z ss from by rw[e0])))
   ·
    have e5:ik d z.toNat ss k=0:=by rw[rh,<-ah];simpa using aE
    refine aj (nx (cG (ao 2 tb (env':=[(52,_),(51,_),(11,_),(10,_),(7,_),(5,_),(3,_),(1,_),(29,_),(30,_),(31,_),(13,_),(14,_),(43,_)]) Y (sy (.at b2 0) (λh=>jl Y (h.get 0 Y) h.x) ?_))))
    refine sy (.at b2 4) (λh=>cv oE Y (h.get 0 Y) h.x) ?_
    refine sy (.lit fv) (λh=>cg ql Y (aH h.x (mo 1 Y)) (h.get 0 Y) Y h.x) ?_
    refine ao 1 tb (env':=[(56,_),(55,_),(54,_),(53,_),(52,_),(51,_),(11,_),(10,_),(7,_),(5,_),(3,_),(1,_),(29,_),(30,_),(31,_),(13,_),(14,_),(43,_)]) Y (sy (.rd (ct ([((cr d z.toNat (G ss k) fs).1)]))) (λh=>ft eC qO Y (h.get 0 Y) (aK hS _ h.keep h.x _ aV) (jo V h.x)) ?_)
    refine fP (f:=kG) (m:=2) (s:=55) fs ([((cr d z.toNat (G ss k) fs).1)]) (λ_=>Y) sD V hJ0 Y Y Y (lb Y) Y Y (λa w h=>(h.get 0 Y)) (by simp;omega) (by simp;omega) λv4=>?_
    refine sy (.at b2 0) (λh=>jl Y (h.get 7 Y) h.x) ?_
    refine sy (.at b2 4) (λh=>cv oE Y (h.get 0 Y) h.x) ?_
    refine kw bQ (gz (b:=b2) (off:=4) (es:=U5) V hJ0 UN Y Y Y (lb Y) Y (λa w h=>⟨(h.get 0 Y),(h.get 2 Y)⟩) ?_)
    refine aA [3,11,12,13,14,15,16,17,18] U9 Y (nx (ln 0 λhl3=>?_))
    refine aT tb V [1,2,3,4,5,6,7,1001] [.int (k+1:Nat),_] [0] U8 Y ⟨aM,U⟩ ?_
    refine kw dq (kw bQ ?_)
    exact kw dq (bq (k+1,fs++([((cr d z.toNat (G ss k) fs).1)]),v4) (r8 []) ⟨oz,by rw[Ek,<-ah],cF bp e5⟩)
  ·
   obtain rfl:k=ss.length:=by omega
   have e3:fs.length=ss.length:=by rw[ah,lk]
   refine aW (nx (af (au tb V [0,1,3,4,1003] [_,_,.int (ss.length:Nat),_] [2] U5 Y ⟨aD ep,U⟩ ?_)))
   refine au tb V [0,1,4,1007,1009,1013,1015] [_,.at b2 0,.at b2 4,.lit fv,_,.int (ss.length-1:Nat),.lit (cA fv ((ss.length-1)*1)),.rd (ai (G fs (ss.length-1))),_,_,_,.ptr (aY (G d.ab z.toNat)),_,_,.bool (decide ((G fs (ss.length-1))=((G d.ab z.toNat).ac))),_] [1,2,3,5,6,7,11,14] U7 Y ⟨λ_ _ _ Z hl _=>jl Y (hl.D 0 65 Y Y) Z,λ_ _ _ Z hl _=>cv oE Y (hl.D 1 66 Y Y) Z,λ_ _ _ Z hl _=>cg ql Y (aH Z (mo 1 Y)) (hl.D 2 67 Y Y) Y Z,λ_ _ _ Z hl _=>qv (i:=ss.length) (j:=1) Y (hl.D 4 69 Y Y) (Rel.aG (.int .i64 1)) az az Z,λ_ _ _ Z hl _=>eQ (i:=((ss.length-1:Nat):Int)) eC Y (aH Z (mo 0 Y)) (hl.D 3 68 Y Y) (hl.D 5 70 Y Y) bM (by rw[length_map];exact Int.ofNat_lt.2 az) Z,λ_ _ _ Z hl _=>mZ (i:=ss.length-1) ia Y (aH Z (mo 0 Y)) (hl.D 6 71 Y Y) (ir (xs:=fs) (k:=ss.length-1) az) Z,bn fK,bN hS V (w6 V (G fs (ss.length-1)) ((G d.ab z.toNat).ac)) (cO func58),U⟩ ?_
   refine ln 3 λ_=>?_
   refine ln 4 λ_=>?_
   refine ln 5 λ_=>?_
   refine cj 6 ?_ ?_<;>intro bh<;>try simp at bh
   ·
    have eU:aX d z ss=(fs,(28,(ss.length:Int))):=by rw[aX,if_pos e0,ph bp,<-ah,if_neg (by first | (simpa using bh) | (simpa [e3]using bh))]
    refine aL (ao 1 tb (env':=[(81,_),(10,_),(7,_),(15,_),(72,_),(74,_),(78,_),(80,_)]) Y (sy (.at b2 0) (λh=>jl Y (h.get 0 Y) h.x) ?_))
    refine sy (.at b2 4) (λh=>cv oE Y (h.get 0 Y) h.x) ?_
    refine sy (.lit fv) (λh=>cg ql Y (aH h.x (mo 1 Y)) (h.get 0 Y) Y h.x) ?_
    refine ao 1 tb (env':=[(85,_),(84,_),(83,_),(82,_),(81,_),(10,_),(7,_),(15,_),(72,_),(74,_),(78,_),(80,_)]) Y (sq (.agg (kL (⟨(28:Int),(ss.length:Int)⟩:Int×Int))) Y Y (lb Y) (λa _ h=>gd (us:=[a.eval (.const (.int .i64 28)),a.eval (.tmp 85)]) vj Y yz (bX (Rel.aG (.int .i64 28)) (bX (h.get 0 Y) cE)) Y h.x) ?_)
    refine ao 1 tb (env':=[(6,_),(86,_),(85,_),(84,_),(83,_),(82,_),(81,_),(10,_),(7,_),(15,_),(72,_),(74,_),(78,_),(80,_)]) Y (kw dq ?_)
    refine ck (b:=b1) (off:=0) (es:=U2) (news:=U2) V hJ0 lC Y Y Y (lb Y) Y (λa w h=>⟨(h.get 8 Y),(h.get 1 Y)⟩) ?_
    refine ao 1 tb (env':=[(8,_),(6,_),(86,_),(85,_),(84,_),(83,_),(82,_),(81,_),(10,_),(7,_),(15,_),(72,_),(74,_),(78,_),(80,_)]) Y (aA [0,1,9] U3 Y ?_)
    refine nx (tw bQ (tw (λh=>dV hS h (m:=1) (s:=6) Y) ?_))
    exact aZ (λa w h=>oR (cs:=[lI ((⟨(28:Int),(ss.length:Int)⟩:Int×Int).1),lI ((⟨(28:Int),(ss.length:Int)⟩:Int×Int).2)]) (m:=2) (q:=1) (z:=0) Y ot h Y Y (show([lI ((⟨(28:Int),(ss.length:Int)⟩:Int×Int).1),lI ((⟨(28:Int),(ss.length:Int)⟩:Int×Int).2)]:List CD)=[lI (((aX d z ss).2).1),lI (((aX d z ss).2).2)]from by rw[eU]) Y (congrArg (λz=>AV.rd (ct z)) (show fs=((aX d z ss).1)from by rw[eU])) Y (congrArg AV.int (show(0:Int)=dA d z ss from by rw[e0])))
   ·
    have eU:aX d z ss=(fs,(0,0)):=by rw[aX,if_pos e0,ph bp,<-ah,if_pos (by first | (simpa using bh) | (simpa [e3]using bh))]
    refine aj (nx (aL (ao 1 tb (env':=[(87,_),(10,_),(7,_),(15,_),(72,_),(74,_),(78,_),(80,_)]) Y (sy (.at b2 0) (λh=>jl Y (h.get 0 Y) h.x) ?_))))
    refine sy (.at b2 4) (λh=>cv oE Y (h.get 0 Y) h.x) ?_
    refine sy (.lit fv) (λh=>cg ql Y (aH h.x (mo 1 Y)) (h.get 0 Y) Y h.x) ?_
    refine sy (.agg (kL (⟨0,0⟩:Int×Int))) (λh=>gg (ps:=[]) (us:=[.int .i64 0,.int .i64 0]) vh Y yz f9 Y (dP (.lit _ True.intro) (dP (.lit _ True.intro) cE)) h.x) ?_
    refine ao 1 tb (env':=[(6,_),(91,_),(90,_),(89,_),(88,_),(87,_),(10,_),(7,_),(15,_),(72,_),(74,_),(78,_),(80,_)]) Y (kw dq ?_)
    refine ck (b:=b1) (off:=0) (es:=U2) (news:=U2) V hJ0 lC Y Y Y (lb Y) Y (λa w h=>⟨(h.get 7 Y),(h.get 1 Y)⟩) ?_
    refine ao 1 tb (env':=[(8,_),(6,_),(91,_),(90,_),(89,_),(88,_),(87,_),(10,_),(7,_),(15,_),(72,_),(74,_),(78,_),(80,_)]) Y (aA [0,1,8] U3 Y ?_)
    refine nx (tw bQ (tw (λh=>dV hS h (m:=1) (s:=6) Y) ?_))
    exact aZ (λa w h=>oR (cs:=[lI ((⟨0,0⟩:Int×Int).1),lI ((⟨0,0⟩:Int×Int).2)]) (m:=2) (q:=1) (z:=0) Y ot h Y Y (show([lI ((⟨0,0⟩:Int×Int).1),lI ((⟨0,0⟩:Int×Int).2)]:List CD)=[lI (((aX d z ss).2).1),lI (((aX d z ss).2).2)]from by rw[eU]) Y (congrArg (λz=>AV.rd (ct z)) (show fs=((aX d z ss).1)from by rw[eU])) Y (congrArg AV.int (show(0:Int)=dA d z ss from by rw[e0])))
section
variable {n:Rn} {N:Nat} {P:Program} {J:WP} {S:Nat->Prop} {O A R:List OB} {w0:World} {env:List (Nat×AV)} {Q:Exit->Act->WP} {ι ι1 ι2 κ μ σ:Type}
def pn (A:ι1->List OB) (B:ι2->List OB):ι1 ⊕ ι2->List OB
 | .inl z=>A z
 | .inr s=>B s
def qQ (P:Program) (J:WP) (S:Nat->Prop) (w0:World) (f:FuncId) (args:List AV) (O:List OB) (res:ι->AV) (O':ι->List OB) (pv:κ->Value) (jr:κ->List OB):Prop:=
 ∀(R:List OB) (w:World) (vs:List Value),Keeps All w0 w->XO J S w0.heap.size (O++R) w->bd (SO S (O++R)) w args vs->Calls P f vs.toArray w (qT J S w0 R res O' pv jr)
theorem Nz {f:FuncId} {fn:Func} {c:Code} {args:List AV} {res:ι->AV} {O':ι->List OB} {pv:κ->Value} {jr:κ->List OB} (hf:P.funcs[f]?=some fn) (hb:fn.body=some c) (hN:fn.ntmps=N) (hl:args.length<=N)
 (h:∀ R,Tr 5 P (So J S w0 N (O++R) (jh 0 args)) c (bodyPost P fn (qT J S w0 R res O' pv jr))):qQ P J S w0 f args O res O' pv jr:=by
 intro R w vs hk Z ha
 obtain⟨g1,g2⟩:=rR hl hN ha
 exact(callsIn_wide (n:=5)).1 (callsIn_of_wp hf hb trivial (h R _ _ ⟨rfl,g1,hk,Z,g2⟩) rfl)
theorem Lw {o:Oper} {a:Act} {w:World} {f:FuncId} {args:List Operand} {callee:Operand} {ts:Array TypeId} {am:List AV} {res:ι->AV} {O':ι->List OB} {pv:κ->Value} {jr:κ->List OB} {cap:List Value} {eu:List AV} (hF:qQ P J S w0 f (am++eu) O res O' pv jr) (h1:dL P f) (hop:o.op= .call { callee:=.value callee,args:=args.toArray,argTypes:=ts })
 (hk:Keeps All w0 w) (Z:XO J S w0.heap.size (O++R) w) (hc:a.eval callee= .func (.func f) #[] cap.toArray) (ha:bd (SO S (O++R)) w am (args.map a.eval)) (hcap:bd (SO S (O++R)) w eu cap):
 nc n P o a w (λv w'=>∃ i,db J S w0 (O++R) w (O' i++R) w'/\Rel (SO S (O' i++R)) w' (res i) v) (λch w'=>∃ k,ch=eP (pv k)/\db J S w0 (O++R) w (jr k++R) w'):=by
 let B:AV->Value->Prop:=λav v=>Rel (SO S (O++R)) w av v
 have hx2:=uL (B:=B) Z λ_ _ h=>h
 have hsub:∀ k,k<w.heap.size->SO S (O++R) k->All k/\SO S (O++OB.was B::R) k:=λk _ h=>⟨trivial,qC.2 h⟩
 have hcall:=hF (OB.was B::R) w _ hk hx2 (bd.move (Keeps.refl All w) hsub (HU ha hcap))
 refine LE (f:=f) (args:=(args.map a.eval++cap).toArray) (w1:=w) ?_ (Calls.mono hcall λe w' h=>?_)
 · have h2:=h1 ((args.map a.eval++cap).toArray) w
   simp only[execOp,hop,resolve,hc,Deferred.ofValue,Sem.run_bind,Sem.run_pure,Result.andThen_ok,invoke]
   rw[<-h2]
   congr 2
   simp
 · rcases h with⟨i,v,he,hv,hk',hx'⟩ | ⟨k,he,hk',hx'⟩
   · obtain⟨g1,g2⟩:=qN hx'
     exact .inl ⟨v,he,i,⟨hk',g1,g2⟩,hv.sub λk _=>qC.1⟩
   · obtain⟨g1,g2⟩:=qN hx'
     exact .inr ⟨_,he,k,rfl,⟨hk',g1,g2⟩⟩
theorem Il {ops:Array Oper} {o:Oper} {rest:List Oper} {d:Nat} {f:FuncId} {args:List Operand} {callee:Operand} {ts:Array TypeId} (am:List AV) (cap:List Value) (eu:List AV) {res:ι1 ⊕ ι2->AV} {O':ι1 ⊕ ι2->List OB} {pv:κ->Value} {jr:κ->List OB} (hF:qQ P J S w0 f (am++eu) O res O' pv jr) (h1:dL P f) (hg:o.guard=none) (hop:o.op= .call { callee:=.value callee,args:=args.toArray,argTypes:=ts }) (hd:o.dst=some d) (hN:d<N)
 (hc:∀ a w,So J S w0 N (O++R) env a w->a.eval callee= .func (.func f) #[] cap.toArray) (ha:∀ a w,So J S w0 N (O++R) env a w->bd (SO S (O++R)) w am (args.map a.eval)) (hcap:∀ w,bd (SO S (O++R)) w eu cap)
 (nW:∀ q a w,So J S w0 N (jr q++R) env a w->Q (.panic (eP (pv q))) a w)
 (stop:∀ s a w,So J S w0 N (O' (.inr s)++R) ((d,res (.inr s))::dK d env) a w->wpListIn n.F n.d P ops Q rest a w)
 (next:∀ z a w,So J S w0 N (O' (.inl z)++R) ((d,res (.inl z))::dK d env) a w->wpListIn n.F n.d P ops Q rest a w):
 ∀ a w,So J S w0 N (O++R) env a w->wpListIn n.F n.d P ops Q (o::rest) a w:=
 UY hg hd hN (λa w h=>Lw hF h1 hop h.keep h.x (hc a w h) (ha a w h) (hcap w)) nW λi=>by
  cases i with
  | inl z=>exact next z
  | inr s=>exact stop s
theorem I4 {res:ι->AV} {O':ι->List OB} {pv:μ->Value} {O3:μ->List OB} (A:List OB) (q:μ):∀ a w,So J S w0 N (O3 q++(A++R)) env a w->a.defers=[]/\qT J S w0 R res O' pv O3 (.panicked (eP (pv q))) w:=
 λa w h=>G5 q rfl a w (BR A (xH A h))
theorem V2 {res:ι->AV} {O':ι->List OB} {pv:μ->Value} {O3:μ->List OB} (q:μ):∀ a w,So J S w0 N (O3 q++R) env a w->a.defers=[]/\qT J S w0 R res O' pv O3 (.panicked (eP (pv q))) w:=λa w h=>G5 q rfl a w h
def OB.pt (b off:Nat) (cs:List CD):OB where
 blk:=λ_=>False
 inv:=λ_ S w=>Rel S w (.ptr cs) (.pointer (some ⟨b,off,none⟩))
 mv:=λh hk _ hs=>h.move hk hs
 lt:=λ_ _ h=>h.elim
variable {a:Act} {w:World} {b off:Nat} {cs:List CD} {c:Code}
theorem BJ {k:Nat} (hk:SO S O k):SO S (OB.pt b off cs::O) k:=⟨hk.1,λq hq=>by
 rcases mem_cons.1 hq with rfl | hq
 · exact λh=>h
 · exact hk.2 q hq⟩
theorem Ve (hp:Rel (SO S O) w (.ptr cs) (.pointer (some ⟨b,off,none⟩))) (h:So J S w0 N O env a w):So J S w0 N (OB.pt b off cs::O) env a w:=by
 refine⟨h.defs,h.size,h.keep,⟨h.x.1,λq hq=>?_,.cons (λ_ _ _ hk=>hk.elim) h.x.2.2⟩,λp hm=>⟨(h.env p hm).1,(h.env p hm).2.sub λ_ _ hk=>BJ hk⟩⟩
 rcases mem_cons.1 hq with rfl | hq
 · exact hp.sub λ_ _ hk=>BJ hk
 · exact OB.sub (h.x.2.1 q hq) λ_ _ hk=>BJ hk
theorem xM {m s:Nat} (he:env[m]?=some (s,.ptr cs)) (h:∀ b off,Tr n P (So J S w0 N (OB.pt b off cs::O) ((s,.at b off)::dK s env)) c Q):Tr n P (So J S w0 N O env) c Q:=λa w ha=>by
 have hr:=ha.get m he
 have hr':=hr
 simp only[Rel]at hr'
 obtain⟨b,off,us,hv,_⟩:=hr'
 rw[hv]at hr
 have h2:=Ve hr ha
 refine h b off a w ⟨h2.defs,h2.size,h2.keep,h2.x,λp hp=>?_⟩
 rcases mem_cons.1 hp with rfl | hp
 · have h3:a.tmps.getD s undef= .pointer (some ⟨b,off,none⟩):=hv
   refine⟨(ha.env _ (mem_of_getElem? he)).1,?_⟩
   show Rel _ w (.at b off) (a.tmps.getD s undef)
   rw[h3]
   exact Rel.aG _
 · exact h2.env p (List.mem_filter.1 hp).1
theorem uA {i m s:Nat} (hi:O[i]?=some (OB.pt b off cs)) (he:env[m]?=some (s,.at b off)) (h:So J S w0 N O env a w):So J S w0 N O ((s,.ptr cs)::dK s env) a w:=by
 refine⟨h.defs,h.size,h.keep,h.x,λp hp=>?_⟩
 rcases mem_cons.1 hp with rfl | hp
 · refine⟨(h.env _ (mem_of_getElem? he)).1,?_⟩
   have h1:Rel (SO S O) w (.ptr cs) (.pointer (some ⟨b,off,none⟩)):=h.x.2.1 _ (mem_of_getElem? hi)
   have h2:a.tmps.getD s undef= .pointer (some ⟨b,off,none⟩):=(h.get m he).lit
   show Rel _ w (.ptr cs) (a.tmps.getD s undef)
   rw[h2]
   exact h1
 · exact h.env p (List.mem_filter.1 hp).1
end
theorem FX:uP prog 122 4 1 (.bool false):=FW yq yq Y True.intro
end
section
def jd (hs:List Hy) (w:BA):Bool:=hs.any λh=>h.be&&decide (G h.ac 1=w)
def ce (hs:List Hy) (M:BM):List BA->List BA->Bool×Bool
 | [],t=>(decide (t.length=0),true)
 | w::p,t=>match aw M w with
  | some y=>if y.length<=t.length/\y=t.take y.length then ce hs M p (t.drop y.length)else(false,false)
  | none=>if jd hs w then(true,false)else if t.length=0∨ ¬ G t 0=w then(false,false)else ce hs M p (t.drop 1)
section
variable {hs:List Hy} {M:BM} {p t y p0 t0:List BA} {w:BA} {k:Nat}
theorem sH (hk:k<p.length):p.drop k=G p k::p.drop (k+1):=by rw[cV hk];exact List.drop_eq_getElem_cons hk
theorem JS (h:ce hs M p0 t0=ce hs M (p.drop k) t) (hk:¬ k<p.length):ce hs M p0 t0=(decide (t.length=0),true):=by
 rw[h,List.drop_eq_nil_of_le oz];rfl
theorem JV (h:ce hs M p0 t0=ce hs M (p.drop k) t) (hk:k<p.length) (hm:aw M (G p k)=some y) (h1:y.length<=t.length) (h2:y=t.take y.length):ce hs M p0 t0=ce hs M (p.drop (k+1)) (t.drop y.length):=by
 rw[h,sH hk,ce,hm];exact if_pos ⟨h1,h2⟩
theorem JX (h:ce hs M p0 t0=ce hs M (p.drop k) t) (hk:k<p.length) (hm:aw M (G p k)=some y) (h1:¬ (y.length<=t.length/\y=t.take y.length)):ce hs M p0 t0=(false,false):=by
 rw[h,sH hk,ce,hm];exact if_neg h1
theorem JU (h:ce hs M p0 t0=ce hs M (p.drop k) t) (hk:k<p.length) (hm:aw M (G p k)=none) (hf:jd hs (G p k)=true):ce hs M p0 t0=(true,false):=by
 rw[h,sH hk,ce,hm];exact if_pos hf
theorem JW (h:ce hs M p0 t0=ce hs M (p.drop k) t) (hk:k<p.length) (hm:aw M (G p k)=none) (hf:jd hs (G p k)=false) (hn:t.length=0∨ ¬ G t 0=G p k):ce hs M p0 t0=(false,false):=by
 rw[h,sH hk,ce,hm];exact(if_neg (by simp[hf])).trans (if_pos hn)
theorem JT (h:ce hs M p0 t0=ce hs M (p.drop k) t) (hk:k<p.length) (hm:aw M (G p k)=none) (hf:jd hs (G p k)=false) (hn:¬ (t.length=0∨ ¬ G t 0=G p k)):ce hs M p0 t0=ce hs M (p.drop (k+1)) (t.drop 1):=by
 rw[h,sH hk,ce,hm];exact(if_neg (by simp[hf])).trans (if_neg hn)
end
def pA (hs:List Hy) (M:BM) (ac:List BA):Bool:=!(ac.any λw=>!(aw M w).isSome&&jd hs w)
def mt (a b:Bd):Bool:=!Op.bytesLess b.var.toList a.var.toList
def bK (M:BM):List Bd:=(M.map λq=>(⟨q.1,q.2⟩:Bd)).mergeSort mt
def d6 (hs:List Hy) (es:List (List BA)):Nat->BM
 | 0=>[]
 | k+1=>if(G hs k).be then cl (d6 hs es k) (G (G hs k).ac 1) ((G es k).drop 1)else d6 hs es k
structure Jb where
 d:Db
 i:Nat
 ss:List Stp
 ts:List (List BA)
 M:List (BA×Int)
def l1 (hs:List Hy) (M:BM) (es:List (List BA)) (j:Nat):Bool:=(G hs j).be|| (ce hs M (G hs j).ac (G es j)).1
def fy (j:Jb) (g:Fr) (al:List Int) (step:Nat):Bool:=
 (List.range g.aa.length).all (fc g.aa (a8 j.ts al) 0)&& (List.range g.aa.length).all (l1 g.aa (d6 g.aa (a8 j.ts al) g.aa.length) (a8 j.ts al))&& (ce g.aa (d6 g.aa (a8 j.ts al) g.aa.length) g.ac (G j.ts step)).1&& !eL (bK (d6 g.aa (a8 j.ts al) g.aa.length)) g.apart j.d.vars (G j.d.ab j.i).wide
def cn (t:List BA):BA:=qc t ⟨#[10]⟩
def iY (j:Jb) (hs:List Hy) (step:Nat) (h:Hy) (M:BM):Nat×Nat:=
 if h.be=false/\pA hs M h.ac=true then
  if b7 (ay (bK M)) h.ac 2000=true then match aw j.M (cn (bz (ay (bK M)) h.ac))with
   | some z=>if z< (step:Int)then(z.toNat,z.toNat+1)else(0,0)
   | none=>(0,0)
  else(0,0)
 else(0,step)
def ly (j:Jb) (h:Hy) (t:Nat):Bool:=decide (aw j.M (cn (G j.ts t))=some (t:Int))&&decide (G (G j.ts t) 0=G h.ac 0)
def jY (F:BM->List Int->List (List Int)×BM) (j:Jb) (h:Hy) (al:List Int) (q:List (List Int)×BM) (t:Nat):List (List Int)×BM:=
 if ly j h t then
  (q.1++(F (if h.be then cl q.2 (G h.ac 1) ((G j.ts t).drop 1)else q.2) (al++[(t:Int)])).1,
   if h.be then gM (F (if h.be then cl q.2 (G h.ac 1) ((G j.ts t).drop 1)else q.2) (al++[(t:Int)])).2 (G h.ac 1)else(F (if h.be then cl q.2 (G h.ac 1) ((G j.ts t).drop 1)else q.2) (al++[(t:Int)])).2)
 else q
def jp (j:Jb) (g:Fr) (step:Nat):List Hy->BM->List Int->List (List Int)×BM
 | [],M,al=>if(ce g.aa M g.ac (G j.ts step)).1 then(if fy j g al step then [al]else [],M)else([],M)
 | h::hs,M,al=>if(ce g.aa M g.ac (G j.ts step)).1 then(List.range' (iY j g.aa step h M).1 ((iY j g.aa step h M).2-(iY j g.aa step h M).1)).foldl (jY (jp j g step hs) j h al) ([],M)else([],M)
def ek (j:Jb) (g:Fr) (step k:Nat) (M:BM) (al:List Int):List (List Int)×BM:=jp j g step (g.aa.drop k) M al
def fh (j:Jb) (g:Fr) (step k:Nat) (M:BM) (al:List Int) (a n:Nat):List (List Int)×BM:=(List.range' a n).foldl (jY (ek j g step (k+1)) j (G g.aa k) al) ([],M)
section
variable {j:Jb} {g:Fr} {step k a n m t:Nat} {M:BM} {al:List Int} {pre xs ys:List (List Int)}
theorem VL (h:(ce g.aa M g.ac (G j.ts step)).1=false):ek j g step k M al=([],M):=by
 unfold ek
 cases g.aa.drop k<;>simp[jp,h]
theorem IQ (h:(ce g.aa M g.ac (G j.ts step)).1=true) (hk:k=g.aa.length):ek j g step k M al=(if fy j g al step then [al]else [],M):=by
 subst hk
 rw[ek,List.drop_eq_nil_of_le aV,jp,if_pos h]
theorem B3 (h:(ce g.aa M g.ac (G j.ts step)).1=true) (hk:k<g.aa.length):ek j g step k M al=fh j g step k M al (iY j g.aa step (G g.aa k) M).1 ((iY j g.aa step (G g.aa k) M).2-(iY j g.aa step (G g.aa k) M).1):=by
 rw[ek,List.drop_eq_getElem_cons hk,<-cV hk,jp,if_pos h]
 rfl
theorem B0:fh j g step k M al a 0=([],M):=rfl
theorem uC:fh j g step k M al a (n+1)=jY (ek j g step (k+1)) j (G g.aa k) al (fh j g step k M al a n) (a+n):=by
 rw[fh,List.range'_concat,List.foldl_append,Nat.one_mul];rfl
theorem Uc {F:BM->List Int->List (List Int)×BM} {h:Hy} {q:List (List Int)×BM}:q.1<+:(jY F j h al q t).1:=by
 unfold jY;split
 · exact List.prefix_append _ _
 · exact prefix_refl _
theorem VG (h:n<=m):(fh j g step k M al a n).1<+:(fh j g step k M al a m).1:=by
 induction m with
 | zero=>obtain rfl:n=0:=oz;exact prefix_refl _
 | succ m ih=>
  rcases Nat.lt_or_ge m n with hm | hm
  · obtain rfl:n=m+1:=oz;exact prefix_refl _
  · exact(ih hm).trans (by rw[uC];exact Uc)
theorem VE (h:a+n<m) (ho:ly j (G g.aa k) (a+n)=true) (hp:pre++(fh j g step k M al a (m-a)).1<+:xs):
 pre++(fh j g step k M al a n).1++(ek j g step (k+1) (if(G g.aa k).be then cl (fh j g step k M al a n).2 (G (G g.aa k).ac 1) ((G j.ts (a+n)).drop 1)else(fh j g step k M al a n).2) (al++[((a+n:Nat):Int)])).1<+:xs:=by
 have h1:=VG (j:=j) (g:=g) (step:=step) (k:=k) (M:=M) (al:=al) (a:=a) (n:=n+1) (m:=m-a) oz
 rw[uC,jY,if_pos ho]at h1
 refine List.IsPrefix.trans ?_ hp
 rw[append_assoc]
 obtain⟨r,hr⟩:=h1
 exact⟨r,by rw[append_assoc,hr]⟩
theorem sj (ho:ly j (G g.aa k) (a+n)=false):fh j g step k M al a (n+1)=fh j g step k M al a n:=by
 rw[uC,jY,if_neg (by simp[ho])]
end
def oA (j:Jb) (g:Fr) (step:Nat):List (List Int):=(ek j g step 0 [] []).1
def n8 (j:Jb) (step:Nat):List cd:=if(aw j.M (cn (G j.ts step))).getD 0< (step:Int)then [⟨1,step,⟨#[]⟩,[(aw j.M (cn (G j.ts step))).getD 0],0,0⟩]else []
def nD (j:Jb) (step:Nat) (g:Fr):List cd:=if 4<g.aa.length then []else(oA j g step).map λal=>⟨2,step,g.ae,al,0,0⟩
def li (j:Jb) (step:Nat):List cd:=(n8 j step++(j.d.ab.take j.i).flatMap (nD j step)).filterMap (fT j.ss)
def gr (ts:List (List BA)):Nat->List (BA×Int)
 | 0=>[]
 | k+1=>cl (gr ts k) (cn (G ts (ts.length-1-k))) ((ts.length-1-k:Nat):Int)
def fF (d:Db) (z:Int) (ss:List Stp):Jb:=⟨d,z.toNat,ss,(aX d z ss).1,gr (aX d z ss).1 (aX d z ss).1.length⟩
def m7 (d:Db) (s:BA):Prop:=s∈d.bH∨s∈d.vars
section
variable {d:Db}
theorem Iv {s:BA} (h:gP s=true):s.size<=60:=by
 simp only[gP,Bool.and_eq_true,decide_eq_true_eq]at h
 omega
theorem Iy (h:ec d=0):∀ s,m7 d s->s.size<=60:=by
 unfold ec at h
 split at h
 · rename_i h2
   rw[h]at h2
   simp at h2
 · rename_i h2
   have h2:fS d.bH.length (gF d)=0:=by simpa using h2
   rintro s (hs | hs)
   · obtain⟨j,hj,rfl⟩:=ee hs
     have h3:=lM h2 j hj
     unfold gF at h3
     cases h4:gP (G d.bH j)with
     | true=>exact Iv h4
     | false=>rw[h4]at h3;cases h3
   · obtain⟨j,hj,rfl⟩:=ee hs
     have h3:=lM h j hj
     unfold iM at h3
     cases h4:gP (G d.vars j)with
     | true=>exact Iv h4
     | false=>rw[h4]at h3;cases h3
theorem Ew {l:List BA} (h:iz d l=0):∀ s∈l,m7 d s:=by
 unfold iz rm at h
 split at h
 · rename_i h1
   simp only[Bool.and_eq_true,decide_eq_true_eq,all_eq_true,mem_range,Bool.or_eq_true,fG]at h1
   intro s hs
   obtain⟨j,hj,rfl⟩:=ee hs
   rcases h1.2 j hj with rfl | h2
   · exact .inl h1.1
   · exact h2
 · cases h
theorem Pu {k:Nat} {y:Hy} {bs:List Hy} {dm:Bool} (h:eN d k y bs dm=0):∀ s∈y.ac,m7 d s:=by
 have h1:=rL h
 unfold eN at h
 split at h
 · cases h
 split at h
 · cases h
 split at h
 · cases h
 split at h
 · cases h
 rename_i h4
 cases hf:y.be with
 | true=>
  have h5:=im h1 hf
  simp[oF,hf]at h4
  match y.ac,h5,h4 with
  | [a,b],_,h4=>
   intro s hs
   simp only[mem_cons,List.not_mem_nil,or_false]at hs
   rcases hs with rfl | rfl
   · exact .inl h4.1
   · exact .inr h4.2
 | false=>
  split at h
  · rename_i h5
    rw[h]at h5
    simp at h5
  · rename_i h5
    simp only[hf,Bool.not_false,Bool.true_and,Bool.not_eq_true',decide_eq_false_iff_not,Decidable.not_not]at h5
    exact Ew h5
theorem yJ (h:dy d=0):∀ g∈d.ab,(∀ y∈g.aa++g.bA,∀ s∈y.ac,m7 d s)/\∀ s∈g.ac,m7 d s:=λg hg=>by
 obtain⟨k,hk,rfl⟩:=ee hg
 have h:=pE h k hk
 unfold dB eZ at h
 split at h
 · cases h
 split at h
 · cases h
 split at h
 · cases h
 split at h
 · rename_i h2
   rw[h]at h2
   simp at h2
 rename_i h3
 have h3:lu d k=0:=by simpa using h3
 split at h
 · cases h
 split at h
 · rename_i h2
   rw[h]at h2
   simp at h2
 rename_i h5
 refine⟨λy hy=>?_,Ew (by simpa using h5)⟩
 obtain⟨j,hj,rfl⟩:=ee hy
 exact Pu (lM h3 j hj)
theorem CC {p:BA->Prop} {l:List Bd} {ac:List BA} (hl:∀ b∈l,∀ s∈b.ac,p s) (ht:∀ s∈ac,p s):∀ s∈bz (ay l) ac,p s:=λs hs=>by
 obtain⟨w,hw,h1⟩:=List.mem_flatMap.1 hs
 unfold bg at h1
 rw[qh]at h1
 cases hf:l.find? λb=>decide (b.var=w)with
 | none=>
  rw[hf]at h1
  obtain rfl:s=w:=by simpa using h1
  exact ht _ hw
 | some b=>
  rw[hf]at h1
  exact hl b (mem_of_find?_eq_some hf) s h1
theorem JN {p:BA->Prop} {hs:List Hy} {es:List (List BA)} {n:Nat} (hn:n<=es.length) (h:∀ t∈es,∀ s∈t,p s):∀ b∈bO hs es 0 n,∀ s∈b.ac,p s:=λb hb s hs'=>by
 obtain⟨j,hj,h1⟩:=List.mem_filterMap.1 hb
 have hj:=mem_range.1 hj
 unfold kN at h1
 split at h1
 · obtain rfl:=Option.some.inj h1
   rw[Nat.zero_add]at hs'
   exact h _ (aC oz) s (List.mem_of_mem_drop hs')
 · cases h1
theorem Vk (dW:dy d=0) {i:Nat} (hi:i<d.ab.length) {s:Stp} {a:List (List BA)} (ha:∀ t∈a,∀ w∈t,m7 d w) (hg:∀ x∈s.args,x.toNat<a.length):∀ w∈(cr d i s a).1,m7 d w:=by
 unfold cr
 split
 · intro w hw;cases hw
 split
 · rename_i h he
   split
   · intro w hw;cases hw
   · exact(yJ dW _ (aC hi)).1 h (mem_of_find?_eq_some he)
 split
 · intro w hw;cases hw
 split
 · intro w hw;cases hw
 rename_i h1 h2
 have h3:=uX (d:=d) (i:=i) (s:=s.ae) oz
 have h4:=yJ dW _ (aC h3.2.2)
 have h5:∀ t∈a8 a s.args,∀ w∈t,m7 d w:=λt ht=>by
  obtain⟨x,Z,rfl⟩:=mem_map.1 ht
  exact ha _ (aC (hg x Z))
 unfold dd kJ
 split
 · rename_i t he
   split at he
   · cases he
   split at he
   · cases he
   split at he
   · cases he
   split at he
   · cases he
   · obtain rfl:=Except.ok.inj he
     exact CC (JN (by simp[a8];omega) h5) h4.2
 · intro w hw;cases hw
theorem zv (dW:dy d=0) {i:Nat} (hi:i<d.ab.length) {ss:List Stp} (bv:et ss):∀ k,k<=ss.length->∀ t∈dH d i ss k,∀ w∈t,m7 d w
 | 0,_=>λt ht=>by cases ht
 | k+1,hk=>λt ht=>by
  rw[dH]at ht
  rcases mem_append.1 ht with ht | ht
  · exact zv dW hi bv k oz t ht
  · obtain rfl:=mem_singleton.1 ht
    refine Vk dW hi (zv dW hi bv k oz) λx Z=>?_
    have h1:=(bv.2.2 k oz).2 x (by rw[<-cV (show k<ss.length by omega)];exact Z)
    rw[lk];omega
end
theorem FE {n:Nat} {sep:List UInt8}:∀ {l:List (List UInt8)},(∀ x∈l,x.length<=n)->(Lib.join l sep).length<=l.length*(n+sep.length)
 | [],_=>by simp[Lib.join]
 | [x],h=>by have:=h x yz;simp[Lib.join,List.intercalate];omega
 | x::y::l,h=>by
  have h1:=h x yz
  have h2:=FE (sep:=sep) (l:=y::l) λz hz=>h z (mem_cons_of_mem _ hz)
  have h3:Lib.join (x::y::l) sep=x++sep++Lib.join (y::l) sep:=by simp[Lib.join,List.intercalate,List.intersperse]
  rw[h3,length_append,length_append,length_cons (a:=x),Nat.add_mul]
  omega
theorem PR {t:List BA} (h:∀ s∈t,s.size<=60):(Lib.join (t.map (·.data.toList)) (⟨#[10]⟩:BA).data.toList).length<=t.length*61:=by
 have h1:∀ x∈t.map (·.data.toList),x.length<=60:=λx Z=>by
  obtain⟨s,hs,rfl⟩:=mem_map.1 Z
  exact h s hs
 have:=FE (sep:=(⟨#[10]⟩:BA).data.toList) h1
 simpa using this
def po (l:List Bd):Prop:=l.Pairwise λa b=>dN b.var a.var<0->False
theorem VA {x y:BA} (h:x.toList=y.toList):x=y:=by
 have:=sP (x:=x) (y:=y)
 refine this.1 ?_
 unfold dN
 rw[h,if_neg (by rw[pB];simp)]
 by_cases e:x=y
 · exact if_pos e
 · have h2:=ra x y
   simp_all
theorem CQ:∀ {l m:List Bd},l.Perm m->(l.map Bd.var).Nodup->po l->po m->l=m
 | [],m,hp,_,_,_=>by rw[List.nil_perm.1 hp]
 | a::l,[],hp,_,_,_=>by simp at hp
 | a::l,b::m,hp,hn,hl,hm=>by
  have h1:a=b:=by
   rcases mem_cons.1 (hp.mem_iff.1 (List.mem_cons_self (a:=a)))with h | h
   · exact h
   · rcases mem_cons.1 (hp.mem_iff.2 (List.mem_cons_self (a:=b)))with h2 | h2
     · exact h2.symm
     · have h3:=(pairwise_cons.1 hl).1 b h2
       have h4:=(pairwise_cons.1 hm).1 a h
       rw[pH]at h3 h4
       have h5:=VA (q8 _ _ (by simpa using h4) (by simpa using h3))
       rw[List.map_cons,nodup_cons]at hn
       exact absurd (List.mem_map_of_mem (f:=Bd.var) h2) (by rw[<-h5];exact hn.1)
  subst h1
  rw[List.map_cons,nodup_cons]at hn
  rw[CQ (hp.cons_inv) hn.2 (pairwise_cons.1 hl).2 (pairwise_cons.1 hm).2]
theorem JM (a b c:Bd) (h1:mt a b=true) (h2:mt b c=true):mt a c=true:=by
 simp only[mt,Bool.not_eq_true']at h1 h2 ⊢
 cases h3:Op.bytesLess c.var.toList a.var.toList with
 | false=>rfl
 | true=>
  rcases hb:Op.bytesLess b.var.toList c.var.toList with _ | _
  · have:=q8 _ _ hb h2
    rw[this]at h1
    rw[h1]at h3;cases h3
  · have:=pC _ _ _ hb h3
    rw[h1]at this;cases this
theorem JL (a b:Bd):(mt a b||mt b a)=true:=by
 simp only[mt]
 cases h1:Op.bytesLess b.var.toList a.var.toList with
 | false=>simp
 | true=>
  cases h2:Op.bytesLess a.var.toList b.var.toList with
  | false=>simp
  | true=>have:=pC _ _ _ h1 h2;rw[pB]at this;cases this
theorem AE (M:BM):(bK M).Perm (M.map λq=>(⟨q.1,q.2⟩:Bd)):=List.mergeSort_perm _ _
theorem Qt (M:BM):po (bK M):=by
 have:=List.pairwise_mergeSort (le:=mt) JM JL (M.map λq=>(⟨q.1,q.2⟩:Bd))
 refine this.imp λ{a b} h h2=>?_
 rw[pH]at h2
 simp[mt,h2]at h
theorem Qs {M:BM} {qs:List Bd} (hn:(M.map Prod.fst).Nodup) (hp:qs.Perm (M.map λq=>(⟨q.1,q.2⟩:Bd))) (hw:po qs):qs=bK M:=by
 refine CQ (hp.trans (AE M).symm) ?_ hw (Qt M)
 have h1:=(hp.map Bd.var).nodup_iff
 rw[h1,map_map]
 exact hn
theorem Qr {M:BM} (hn:(M.map Prod.fst).Nodup) (s:BA):aw (ay (bK M)) s=aw M s:=by
 rw[qh]
 have hperm:=AE M
 have d7:((bK M).map Bd.var).Nodup:=by
  rw[(hperm.map Bd.var).nodup_iff,map_map];exact hn
 cases hf:aw M s with
 | none=>
  rw[List.find?_eq_none.2,Option.map_none]
  intro b hb hs
  have hs:b.var=s:=by simpa using hs
  obtain⟨q,hq,rfl⟩:=mem_map.1 (hperm.mem_iff.1 hb)
  have h1:=lx M s
  rw[hf]at h1
  have:s∈M.map (·.1):=by rw[<-hs];exact List.mem_map_of_mem (f:=Prod.fst) hq
  simp[this]at h1
 | some t=>
  have hm:(s,t)∈M:=by
   unfold aw at hf
   cases h1:M.find? λp=>decide (s=p.1)with
   | none=>rw[h1]at hf;cases hf
   | some p=>
    rw[h1]at hf
    have h2:=mem_of_find?_eq_some h1
    have h3:=List.find?_some h1
    have h3:s=p.1:=by simpa using h3
    obtain rfl:p.2=t:=by simpa using hf
    rw[h3];exact h2
  have hb:(⟨s,t⟩:Bd)∈bK M:=hperm.mem_iff.2 (mem_map.2 ⟨(s,t),hm,rfl⟩)
  cases hg:(bK M).find? λb=>decide (b.var=s)with
  | none=>
   have:=List.find?_eq_none.1 hg _ hb
   simp at this
  | some b=>
   have h2:=mem_of_find?_eq_some hg
   have h3:b.var=s:=by simpa using List.find?_some hg
   obtain⟨i,hi,rfl⟩:=List.getElem_of_mem h2
   obtain⟨j,hj,he⟩:=List.getElem_of_mem hb
   have h4:i=j:=by
    refine(List.getElem_inj (i:=i) (j:=j) (h₀:=by simpa using hi) (h₁:=by simpa using hj) d7).1 ?_
    rw[getElem_map,getElem_map,h3,he]
   subst h4
   rw[he];rfl
def ig {α:Type} [Inhabited α] (xs:List α):List (Nat×α):=(List.range xs.length).map λk=>(xs.length-1-k,G xs (xs.length-1-k))
section
variable {α:Type} [Inhabited α] {xs:List α} {k:Nat} {pre:List (Nat×α)} {x:Nat×α}
theorem sI:(ig xs).length=xs.length:=by simp[ig]
theorem yB (h:k<xs.length):(ig xs).take k++[(xs.length-1-k,G xs (xs.length-1-k))]=(ig xs).take (k+1):=by
 rw[List.take_succ_eq_append_getElem (by rw[sI];exact h)]
 simp[ig]
theorem C1 (h:k<xs.length):(ig xs).take k++[(xs.length-1-k,G xs (xs.length-1-k))]<+:ig xs:=by
 rw[yB h];exact List.take_prefix _ _
theorem CZ:(ig xs).take xs.length=ig xs:=List.take_of_length_le (by rw[sI];exact Nat.le_refl _)
theorem C0 (h:(pre++[x])<+:ig xs):pre.length<xs.length/\x.1=xs.length-1-pre.length/\x.2=G xs x.1:=by
 obtain⟨r,hr⟩:=h
 have h1:pre.length< (ig xs).length:=by rw[<-hr];simp
 rw[sI]at h1
 have h2:(ig xs)[pre.length]?=some x:=by rw[<-hr,append_assoc,List.getElem?_append_right aV];simp
 have h3:(ig xs)[pre.length]?=some (xs.length-1-pre.length,G xs (xs.length-1-pre.length)):=by
  simp[ig,h1]
 rw[h3]at h2
 obtain rfl:=Option.some.inj h2
 exact⟨h1,rfl,rfl⟩
end
section
variable {ss:List Stp} {k q:Nat} {m:List Bool} {to:List Int} {al:List Int}
theorem FV (h:q<al.length):(iE m (al.take q)).set (G al q).toNat true=iE m (al.take (q+1)):=by
 rw[iE,iE,Er h]
theorem AG (h:G m k=true) (hq:q=(G ss k).args.length):iE m ((G ss k).args.take q)=lw ss m k:=by
 rw[lw,if_pos h,hq,take_length]
theorem AR (h:G m k=false):lw ss m k=m:=by rw[lw,if_neg (by simp[h])]
theorem yN (h:k<m.length):gE (m.take (k+1))=gE (m.take k)+(if G m k then 1 else 0):=by
 rw[gE,gE,dG h,List.filter_append,length_append]
 cases G m k<;>simp
theorem Lf (h:k=m.length):gE (m.take k)=gE m:=by rw[h,take_length]
theorem G3 (h:q<al.length):l8 to (al.take q)++[G to (G al q).toNat]=l8 to (al.take (q+1)):=by
 rw[l8,l8,dG h,List.map_append];rfl
theorem uk (h:G m k=false):eo ss m (k+1)=eo ss m k:=by rw[eo,if_neg (by simp[h])]
theorem ul (h:G m k=true):eo ss m (k+1)=((eo ss m k).1.set k ((eo ss m k).2.length:Int),(eo ss m k).2++[⟨(G ss k).ae,l8 ((eo ss m k).1.set k ((eo ss m k).2.length:Int)) (G ss k).args⟩]):=by rw[eo,if_pos h]
theorem xb (ss:List Stp) (m:List Bool):∀ k,(eo ss m k).1.length=ss.length/\(eo ss m k).2.length<=k
 | 0=>by simp[eo]
 | k+1=>by
  have:=xb ss m k
  rw[eo];split
  · simp;omega
  · omega
end
theorem ub {ss:List Stp} (h:et ss) {k:Nat} {s:Stp} (hs:s.args.length<=40/\∀ a∈s.args,0<=a/\a< (k:Int)):et (ss.set k s):=by
 refine⟨by simpa using h.1,by simpa using h.2.1,λi hi=>?_⟩
 rw[List.getElem_set]
 split
 · rename_i e;subst e;exact hs
 · exact h.2.2 i (by simpa using hi)
theorem Rb {ss:List Stp} (h:et ss) {f:Stp->Stp} (hf:∀ i (hi:i<ss.length),(f ss[i]).args.length<=40/\∀ a∈(f ss[i]).args,0<=a/\a< (i:Int)):et (ss.map f):=by
 refine⟨by simpa using h.1,by simpa using h.2.1,λi hi=>?_⟩
 rw[getElem_map]
 exact hf i (by simpa using hi)
theorem A4 {ss:List Stp} (h:et ss) {k:Nat} (h0:1<=k):et (ss.take k):=by
 have h1:=h.1
 have h2:=h.2.1
 refine⟨by rw[length_take];omega,by rw[length_take];omega,λi hi=>?_⟩
 rw[List.getElem_take]
 exact h.2.2 i (by rw[length_take]at hi;omega)
theorem Gp {ss:List Stp} (h:et ss) {c:cd} (h0:0<=G c.args 0) (h1:G c.args 0<c.step):et (ss.map (jE c)):=by
 refine Rb h λi hi=>?_
 obtain⟨h2,h3⟩:=h.2.2 i hi
 refine⟨by simpa [jE]using h2,λa ha=>?_⟩
 obtain⟨b,hb,rfl⟩:=mem_map.1 ha
 have h4:=h3 b hb
 split
 · rename_i e;omega
 · exact h4
def qK:BA:=⟨#[124,45]⟩
def wA (c:UInt8):BA:=⟨#[c]⟩
def s4 (ae to:UInt8) (fr:List UInt8) (thm:Bool):Fr:=⟨wA ae,thm,fr.map λs=>⟨⟨#[ae,s]⟩,false,[qK,wA s]⟩,[],[qK,wA to],[],[],[]⟩
def jx:Db:=⟨[qK,wA 112,wA 113,wA 114],[],[s4 97 112 [] false,s4 98 113 [112] false,s4 99 114 [113] false,s4 100 113 [114] false,s4 116 113 [] true]⟩
def i6:List Stp:=[⟨wA 97,[]⟩,⟨wA 98,[0]⟩,⟨wA 99,[1]⟩,⟨wA 100,[2]⟩]
theorem Mz:dA jx 4 i6=0:=by decide+kernel
theorem DS:aX jx 4 i6=([[qK,wA 112],[qK,wA 113],[qK,wA 114],[qK,wA 113]],(0,0)):=by decide+kernel
theorem MD:dF jx 4 i6=0:=by rw[dF,if_pos Mz,DS];rfl
theorem ME:n8 (fF jx 4 i6) 3=[⟨1,3,⟨#[]⟩,[1],0,0⟩]:=by
 have h:(aw (fF jx 4 i6).M (cn (G (fF jx 4 i6).ts 3))).getD 0=1:=by
  simp only[fF,DS];decide+kernel
 rw[n8,h];rfl
theorem MB:fT i6 ⟨1,3,⟨#[]⟩,[1],0,0⟩=some ⟨1,3,⟨#[]⟩,[1],4,2⟩:=by
 have h1:dr i6=4:=by decide+kernel
 have h2:(cu i6 ⟨1,3,⟨#[]⟩,[1],0,0⟩).length=2:=by decide+kernel
 rw[fT,gX,h1,h2];rfl
theorem MC:∃ l,li (fF jx 4 i6) 3=⟨1,3,⟨#[]⟩,[1],4,2⟩::l:=by
 have h:fT (fF jx 4 i6).ss ⟨1,3,⟨#[]⟩,[1],0,0⟩=some ⟨1,3,⟨#[]⟩,[1],4,2⟩:=MB
 rw[li,ME,List.singleton_append,List.filterMap_cons,h]
 exact⟨_,rfl⟩
section
variable {ts:List (List BA)} {s:BA} {z:Int} {i:Nat}
theorem D1:∀ k,k<=ts.length->∀ z,aw (gr ts k) s=some z->ts.length-k<=z.toNat/\0<=z/\z< (ts.length:Int)/\cn (G ts z.toNat)=s/\∀ j,ts.length-k<=j->j<z.toNat->cn (G ts j)≠s
 | 0,_,z,h=>by cases h
 | k+1,hk,z,h=>by
  rw[gr,kY]at h
  split at h
  · rename_i e
    obtain rfl:=Option.some.inj h
    refine⟨oz,oz,oz,?_,λj h1 h2=>by omega⟩
    rw[e];rfl
  · rename_i e
    obtain⟨h1,h2,h3,h4,h5⟩:=D1 k oz z h
    refine⟨oz,h2,h3,h4,λj h6 h7=>?_⟩
    by_cases h8:j=ts.length-1-k
    · rw[h8];exact λe2=>e e2.symm
    · exact h5 j oz h7
theorem D2:∀ k,k<=ts.length->∀ i,ts.length-k<=i->i<ts.length->∃ z,aw (gr ts k) (cn (G ts i))=some z/\z<=(i:Int)
 | 0,_,i,h1,h2=>by omega
 | k+1,hk,i,h1,h2=>by
  rw[gr]
  by_cases e:cn (G ts i)=cn (G ts (ts.length-1-k))
  · exact⟨_,by rw[kY,if_pos e],oz⟩
  · have h3:¬ i=ts.length-1-k:=λh=>e (by rw[h])
    obtain⟨z,hz,hl⟩:=D2 k oz i oz h2
    exact⟨z,by rw[kY,if_neg e];exact hz,hl⟩
theorem D0 (h:aw (gr ts ts.length) s=some z):0<=z/\z< (ts.length:Int)/\cn (G ts z.toNat)=s/\∀ j,j<z.toNat->cn (G ts j)≠s:=by
 obtain⟨_,h2,h3,h4,h5⟩:=D1 ts.length aV z h
 exact⟨h2,h3,h4,λj hj=>h5 j oz hj⟩
theorem ML (h:i<ts.length):∃ z,aw (gr ts ts.length) (cn (G ts i))=some z/\0<=z/\z<=(i:Int):=by
 obtain⟨z,hz,hl⟩:=D2 ts.length aV i oz h
 exact⟨z,hz,(D0 hz).1,hl⟩
end
section
variable {j:Jb} {hs:List Hy} {step t:Nat} {h:Hy} {M:BM}
theorem Ik (hm:∀ s z,aw j.M s=some z->0<=z):(iY j hs step h M).2<=step:=by
 unfold iY
 split
 · split
   · split
     · split
       · rename_i z he h1
         have:=hm _ _ he
         dsimp only;omega
       · exact Nat.zero_le _
     · exact Nat.zero_le _
   · exact Nat.zero_le _
 · exact Nat.le_refl _
end
section
variable {ss:List Stp} {m:List Bool} {i k:Nat}
theorem NP {l:List Bool} {a i:Nat}:G (l.set a true) i=(G l i||decide (a=i/\i<l.length)):=by
 simp only[G,getD_eq_getElem?_getD,List.getElem?_set]
 by_cases h:a=i
 · subst h
   by_cases h2:a<l.length
   · simp[h2]
   · simp[h2]
 · simp[h]
theorem FZ:∀(al:List Int) (m:List Bool),G (iE m al) i=(G m i||decide (i∈al.map Int.toNat/\i<m.length))
 | [],m=>by simp[iE]
 | a::al,m=>by
  rw[iE,List.foldl_cons]
  have h:=FZ al (m.set a.toNat true)
  rw[iE]at h
  rw[h,NP,length_set,List.map_cons]
  by_cases h1:a.toNat=i
  · subst h1
    by_cases h2:a.toNat<m.length<;>simp[h2]
  · have h3:¬ i=a.toNat:=λe=>h1 e.symm
    simp[h1,h3]
theorem Lk (m:List Bool):gE m=((List.range m.length).filter λi=>G m i).length:=by
 have key:∀ n,n<=m.length->gE (m.take n)=((List.range n).filter λi=>G m i).length:=by
  intro n
  induction n with
  | zero=>intro _;rfl
  | succ n ih=>
   intro hn
   rw[yN oz,ih oz,List.range_succ,List.filter_append,length_append]
   cases h:G m n<;>simp[h]
 have:=key m.length aV
 rwa [take_length]at this
end
def sd (m:List Bool) (k:Nat):Nat:=((List.range k).filter λi=>G m i).length
section
variable {ss:List Stp} {m:List Bool} {i j k:Nat}
theorem H0:sd m (k+1)=sd m k+(if G m k then 1 else 0):=by
 rw[sd,sd,List.range_succ,List.filter_append,length_append]
 cases h:G m k<;>simp[h]
theorem vW {α:Type} [Inhabited α] {l r:List α} (h:i<l.length):G (l++r) i=G l i:=by
 simp only[G,getD_eq_getElem?_getD,List.getElem?_append_left h]
theorem EC {α:Type} [Inhabited α] {l:List α} {x:α}:G (l++[x]) l.length=x:=by
 simp[G,getD_eq_getElem?_getD]
theorem NO {l:List Int} {x:Int} (h:¬ i=j):G (l.set i x) j=G l j:=by
 simp only[G,getD_eq_getElem?_getD]
 rw[List.getElem?_set_ne h]
theorem G4 (hl:m.length=ss.length):∀ k,k<=ss.length->(eo ss m k).2.length=sd m k/\∀ i,i<k->G m i=true->G (eo ss m k).1 i=(sd m i:Int)
 | 0,_=>⟨rfl,λi hi=>by omega⟩
 | k+1,hk=>by
  obtain⟨h1,h2⟩:=G4 hl k oz
  cases h:G m k with
  | false=>
   rw[uk h,H0,h]
   refine⟨by simpa using h1,λi hi nM=>h2 i ?_ nM⟩
   rcases Nat.lt_or_ge i k with h3 | h3
   · exact h3
   · rw[show i=k by omega,h]at nM;cases nM
  | true=>
   rw[ul h,H0,h]
   refine⟨by simp[h1],λi hi nM=>?_⟩
   dsimp only
   by_cases e:k=i
   · subst e
     rw[cV (by rw[length_set,(xb ss m k).1];omega),List.getElem_set_self,h1]
   · rw[NO e]
     exact h2 i oz nM
end
section
variable {ss:List Stp} {i j:Nat}
theorem Te (ss:List Stp):(jj ss).length=dr ss:=by
 rw[jj,(G4 (AX ss) ss.length aV).1,dr,Lk,AX];rfl
end
theorem yu {hs:List Hy} {M:BM} (h:∀ w,jd hs w=true->(aw M w).isSome=true):∀ p t:List BA,(ce hs M p t).1=decide (bz M p=t)
 | [],t=>by
  cases t<;>simp[ce,bz]
 | w::p,t=>by
  have hc:bz M (w::p)=bg M w++bz M p:=by simp[bz]
  rw[ce,hc]
  cases hm:aw M w with
  | some y=>
   have hi:bg M w=y:=by rw[bg,hm]
   rw[hi]
   dsimp only
   split
   · rename_i h1
     rw[yu h p]
     refine decide_eq_decide.2 ⟨λe=>?_,λe=>?_⟩
     · rw[e]
       conv=>lhs;lhs;rw[h1.2]
       exact List.take_append_drop _ _
     · rw[<-e,List.drop_left]
   · rename_i h1
     symm
     rw[decide_eq_false_iff_not]
     intro e
     exact h1 ⟨by rw[<-e,length_append];omega,by rw[<-e,List.take_left]⟩
  | none=>
   have hf:jd hs w=false:=by
    cases h2:jd hs w with
    | false=>rfl
    | true=>have:=h w h2;rw[hm]at this;cases this
   have hi:bg M w=[w]:=by rw[bg,hm]
   rw[hi]
   dsimp only
   rw[if_neg (by simp[hf])]
   split
   · rename_i h1
     symm
     rw[decide_eq_false_iff_not]
     intro e
     rcases h1 with h1 | h1
     · rw[<-e]at h1;simp at h1
     · exact h1 (by rw[<-e];rfl)
   · rename_i h1
     rw[yu h p]
     match t,h1 with
     | [],h1=>exact absurd (.inl rfl) h1
     | x::t,h1=>
      have h2:x=w:=Decidable.byContradiction λh3=>h1 (.inr h3)
      subst h2
      simp
section
variable {hs:List Hy} {es:List (List BA)} {k:Nat}
def yZ (hs:List Hy):Prop:=∀ i j,i<j->j<hs.length->(G hs i).be=true->(G hs j).be=true->G (G hs i).ac 1≠G (G hs j).ac 1
theorem JO {b:Bd}:∀ k,b∈bO hs es 0 k->∃ i,i<k/\(G hs i).be=true/\b.var=G (G hs i).ac 1/\b.ac=(G es i).drop 1:=λk hb=>by
 obtain⟨i,hi,h1⟩:=List.mem_filterMap.1 hb
 unfold kN at h1
 split at h1
 · rename_i h2
   obtain rfl:=Option.some.inj h1
   exact⟨i,mem_range.1 hi,h2,rfl,by rw[Nat.zero_add]⟩
 · cases h1
theorem EF (hd:yZ hs) (s:BA):∀ k,k<=hs.length->aw (d6 hs es k) s=aw (ay (bO hs es 0 k)) s
 | 0,_=>rfl
 | k+1,hk=>by
  have ih:=EF hd s k oz
  rw[d6,sG]
  unfold kN
  split
  · rename_i hf
    simp only[Option.toList]
    rw[CT,np,Nat.zero_add]
    have hn:aw (ay (bO hs es 0 k)) (G (G hs k).ac 1)=none:=by
     rw[qh,List.find?_eq_none.2,Option.map_none]
     intro b hb hv
     obtain⟨i,hi,h1,h2,_⟩:=JO k hb
     have h3:b.var=G (G hs k).ac 1:=by simpa using hv
     exact hd i k hi oz h1 hf (h2.symm.trans h3)
    rw[if_neg (by simp[hn]),kY,kY,ih]
  · simpa using ih
theorem Fw {M M':BM} (h:∀ s,aw M s=aw M' s):bg M=bg M':=by
 funext s;rw[bg,bg,h]
theorem JC {M M':BM} (h:∀ s,aw M s=aw M' s):bz M=bz M':=by
 funext t;rw[bz,bz,Fw h]
theorem J1 {l l':List Bd} (h:∀ s,aw (ay l) s=aw (ay l') s) (ap us:_) (wd:List Pr):eL l ap us wd=eL l' ap us wd:=by
 unfold eL jL fe
 rw[Fw h]
end
section
variable {hs:List Hy} {es:List (List BA)} {w:BA} {i k:Nat}
theorem v8:∀ k,((d6 hs es k).map Prod.fst).Nodup
 | 0=>List.nodup_nil
 | k+1=>by
  have ih:=v8 k
  rw[d6]
  split
  · have h:=Gb (d6 hs es k) (G (G hs k).ac 1) ((G es k).drop 1)
    rw[show(λx:BA×List BA=>x.1)=Prod.fst from rfl]at h
    rw[h]
    split
    · exact ih
    · rename_i h1
      rw[List.nodup_append]
      exact⟨ih,by simp,λa ha b hb e=>h1 (by rw[<-mem_singleton.1 hb,<-e];exact ha)⟩
  · exact ih
theorem EG:∀ k,i<k->(G hs i).be=true->(aw (d6 hs es k) (G (G hs i).ac 1)).isSome=true
 | 0,h,_=>by omega
 | k+1,h,hf=>by
  rw[d6]
  by_cases e:i=k
  · subst e
    rw[if_pos hf,kY,if_pos rfl];rfl
  · have ih:=EG k oz hf
    split
    · rw[kY]
      split
      · rfl
      · exact ih
    · exact ih
theorem NT (h:jd hs w=true):(aw (d6 hs es hs.length) w).isSome=true:=by
 obtain⟨y,hy,h1⟩:=List.any_eq_true.1 h
 obtain⟨i,hi,rfl⟩:=ee hy
 simp only[Bool.and_eq_true,decide_eq_true_eq]at h1
 rw[<-h1.2]
 exact EG _ hi h1.1
end
theorem NR {j:Jb} {g:Fr} {al:List Int} {step:Nat} (hd:yZ g.aa) (ht:(G j.ts step).length<=2000):
 fy j g al step=decide (dd j.d.vars (G j.d.ab j.i).wide g (a8 j.ts al)=(G j.ts step,0)):=by
 have hm:∀ s,aw (d6 g.aa (a8 j.ts al) g.aa.length) s=aw (ay (bO g.aa (a8 j.ts al) 0 g.aa.length)) s:=λs=>EF hd s _ aV
 have hl:∀ s,aw (ay (bK (d6 g.aa (a8 j.ts al) g.aa.length))) s=aw (ay (bO g.aa (a8 j.ts al) 0 g.aa.length)) s:=λs=>(Qr (v8 _) s).trans (hm s)
 have hb:∀ p t,(ce g.aa (d6 g.aa (a8 j.ts al) g.aa.length) p t).1=decide (bz (ay (bO g.aa (a8 j.ts al) 0 g.aa.length)) p=t):=λp t=>by
  rw[yu (λw hw=>NT hw),JC hm]
 have hh:l1 g.aa (d6 g.aa (a8 j.ts al) g.aa.length) (a8 j.ts al)=jA g.aa (a8 j.ts al) 0 (bO g.aa (a8 j.ts al) 0 g.aa.length):=by
  funext k
  rw[l1,jA,hb,lN,Nat.zero_add]
 rw[fy,hh,hb,J1 hl]
 unfold dd kJ
 cases(List.range g.aa.length).all (fc g.aa (a8 j.ts al) 0)with
 | false=>simp
 | true=>
  cases(List.range g.aa.length).all (jA g.aa (a8 j.ts al) 0 (bO g.aa (a8 j.ts al) 0 g.aa.length))with
  | false=>simp
  | true=>
   cases E6:b7 (ay (bO g.aa (a8 j.ts al) 0 g.aa.length)) g.ac 2000 with
   | false=>
    have h1:¬ bz (ay (bO g.aa (a8 j.ts al) 0 g.aa.length)) g.ac=G j.ts step:=λe=>by
     rw[b7,e,decide_eq_false_iff_not]at E6
     exact E6 ht
    simp[h1]
   | true=>
    cases eL (bO g.aa (a8 j.ts al) 0 g.aa.length) g.apart j.d.vars (G j.d.ab j.i).wide with
    | false=>simp
    | true=>simp
theorem Pt {d:Db} {k:Nat} {y:Hy} {bs:List Hy} {dm:Bool} (h:eN d k y bs dm=0) (hf:y.be=true):bs.any (gZ y)=false:=by
 unfold eN at h
 split at h
 · cases h
 split at h
 · cases h
 split at h
 · cases h
 split at h
 · cases h
 split at h
 · rename_i h5
   simp[hf]at h5
 split at h
 · cases h
 split at h
 · cases h
 · rename_i h6
   simpa [hf]using h6
theorem Do {d:Db} (h:dy d=0) {k:Nat} (hk:k<d.ab.length):lu d k=0:=by
 have h:=pE h k hk
 unfold dB eZ at h
 split at h
 · cases h
 split at h
 · cases h
 split at h
 · cases h
 split at h
 · rename_i h2
   rw[h]at h2
   simp at h2
 · rename_i h3
   simpa using h3
theorem K4 {d:Db} (h:dy d=0):∀ g∈d.ab,yZ g.aa:=λg hg=>by
 obtain⟨k,hk,rfl⟩:=ee hg
 intro i j gH hj ja EY e
 have h1:=lM (Do h hk) j (by rw[length_append];omega)
 unfold eD at h1
 have hge:∀ q,q< (G d.ab k).aa.length->G ((G d.ab k).aa++(G d.ab k).bA) q=G (G d.ab k).aa q:=λq hq=>vW hq
 rw[hge j hj]at h1
 have h2:=Pt h1 EY
 have h3:(G (G d.ab k).aa i)∈((G d.ab k).aa++(G d.ab k).bA).take j:=by
  rw[List.take_append_of_le_length oz]
  refine mem_of_getElem? (i:=i) ?_
  rw[List.getElem?_take,if_pos gH,mF oz]
 have h4:=any_eq_false.1 h2 _ h3
 have h5:=(pF h _ (aC hk)).1.2
 have h6:=h5 _ (aC (show i< (G d.ab k).aa.length by omega)) ja
 have h7:=h5 _ (aC hj) EY
 refine h4 ?_
 have h8:G (G (G d.ab k).aa j).ac 1∈(G (G d.ab k).aa j).ac.drop 1:=by
  refine mem_of_getElem? (i:=0) ?_
  rw[List.getElem?_drop,mF oz]
 simp only[gZ,gu]
 rw[e]
 simp only[ja,h6,h8,Bool.true_and,decide_true]
 rfl
theorem K5 {d:Db} (h:dy d=0) {k:Nat} (hk:k<d.ab.length):fo d k (G d.ab k).ae=false/\iC d k (G d.ab k).ae=false:=by
 have h:=pE h k hk
 unfold dB eZ at h
 split at h
 · cases h
 split at h
 · cases h
 · rename_i h2
   simp only[Bool.or_eq_true,not_or,Bool.not_eq_true]at h2
   exact h2.1
theorem zj {d:Db} (h:dy d=0) {k:Nat} (hk:k<d.ab.length):bP d (G d.ab k).ae=(k:Int):=by
 refine MI hk rfl λj hj e=>?_
 have h1:=(K5 h hk).1
 unfold fo at h1
 have h2:=any_eq_false.1 h1 (G d.ab j) (mem_of_getElem? (i:=j) (by rw[List.getElem?_take,if_pos hj,mF oz]))
 exact h2 (by simpa using e)
theorem Pq {d:Db} (h:dy d=0) {i k:Nat} (hi:i<d.ab.length) (hk:k<i):cy (G d.ab i) (G d.ab k).ae=none:=by
 refine List.find?_eq_none.2 λy hy e=>?_
 have e:y.ae=(G d.ab k).ae:=by simpa using e
 obtain⟨q,hq,rfl⟩:=ee hy
 have h1:=lM (Do h hi) q hq
 unfold eD eN at h1
 split at h1
 · cases h1
 split at h1
 · cases h1
 rename_i h2
 simp only[Bool.or_eq_true,not_or,Bool.not_eq_true]at h2
 have h3:=h2.1
 unfold fo at h3
 have h4:=any_eq_false.1 h3 (G d.ab k) (mem_of_getElem? (i:=k) (by rw[List.getElem?_take,if_pos oz,mF oz]))
 exact h4 (by simpa using e.symm)
theorem P1 {d:Db} (h:dy d=0) {k:Nat} (hk:k<d.ab.length):¬ (G d.ab k).ae=⟨#[63]⟩:=λe=>by
 have h:=pE h k hk
 unfold dB eZ at h
 rw[e]at h
 have h2:fW ⟨#[63]⟩=false:=by decide+kernel
 rw[h2]at h
 cases h
theorem Vj {d:Db} (h:dy d=0) {i k:Nat} (hi:i<d.ab.length) (hk:k<i) {al:List Int} (hl:al.length=(G d.ab k).aa.length) (fs:List (List BA)):
 cr d i ⟨(G d.ab k).ae,al⟩ fs=dd d.vars (G d.ab i).wide (G d.ab k) (a8 fs al):=by
 have h1:=DY (d:=d) (i:=i) (z:=(G d.ab k).ae) oz (by rw[zj h (show k<d.ab.length by omega)];omega) (by rw[zj h (show k<d.ab.length by omega)];omega)
 have h2:dM d i (G d.ab k).ae=(k:Int):=h1.trans (zj h oz)
 have h3:=BE (d:=d) (i:=i) (s:=⟨(G d.ab k).ae,al⟩) (a:=fs) (P1 h oz) (Pq h hi hk) (by rw[h2];omega) (by rw[h2];exact hl)
 rw[h3,h2];rfl
section
variable {j:Jb} {g:Fr} {step:Nat}
theorem IJ (hm:∀ s z,aw j.M s=some z->0<=z):∀(hs:List Hy) (M:BM) (al:List Int),(∀ a∈al,0<=a/\a< (step:Int))->∀ x∈(jp j g step hs M al).1,fy j g x step=true/\x.length=al.length+hs.length/\∀ a∈x,0<=a/\a< (step:Int)
 | [],M,al,ha,x,Z=>by
  rw[jp]at Z
  split at Z
  · split at Z
    · rename_i h
      obtain rfl:=mem_singleton.1 Z
      exact⟨h,rfl,ha⟩
    · cases Z
  · cases Z
 | h::hs,M,al,ha,x,Z=>by
  rw[jp]at Z
  split at Z
  · have key:∀(l:List Nat) (q:List (List Int)×BM),(∀ t∈l,t<step)->(∀ x∈q.1,fy j g x step=true/\x.length=al.length+(h::hs).length/\∀ a∈x,0<=a/\a< (step:Int))->
     ∀ x∈(l.foldl (jY (jp j g step hs) j h al) q).1,fy j g x step=true/\x.length=al.length+(h::hs).length/\∀ a∈x,0<=a/\a< (step:Int):=by
     intro l
     induction l with
     | nil=>exact λq _ hq=>hq
     | cons t l ih=>
      intro q hl hq
      refine ih _ (λb hb=>hl b (mem_cons_of_mem _ hb)) ?_
      unfold jY
      split
      · intro x Z
        rcases mem_append.1 Z with Z | Z
        · exact hq x Z
        · have ht:=hl t yz
          obtain⟨h1,h2,h3⟩:=IJ hm hs _ (al++[(t:Int)]) (λa ha'=>by
           rcases mem_append.1 ha' with ha' | ha'
           · exact ha a ha'
           · rw[mem_singleton.1 ha'];omega) x Z
          refine⟨h1,?_,h3⟩
          simp only[length_append,length_cons,List.length_nil]at h2 ⊢;omega
      · exact hq
    refine key _ _ (λt ht=>?_) (λx Z=>by cases Z) x Z
    have h1:=Ik (j:=j) (hs:=g.aa) (step:=step) (h:=h) (M:=M) hm
    have h2:=List.mem_range'_1.1 ht
    omega
  · cases Z
theorem KV (hm:∀ s z,aw j.M s=some z->0<=z) {x:List Int} (h:x∈oA j g step):fy j g x step=true/\x.length=g.aa.length/\∀ a∈x,0<=a/\a< (step:Int):=by
 have:=IJ hm _ _ [] (λa ha=>by cases ha) x h
 simpa using this
def iO (j:Jb) (c:cd):Bool:=
 c.args.all (λa=>decide (0<=a/\a<c.step))&& (if c.dQ=1 then decide (c.ae=⟨#[]⟩/\c.args.length=1/\G j.ts (G c.args 0).toNat=G j.ts c.step.toNat)
  else decide (0<=bP j.d c.ae/\bP j.d c.ae< (j.i:Int)/\c.args.length=(G j.d.ab (bP j.d c.ae).toNat).aa.length)&&fy j (G j.d.ab (bP j.d c.ae).toNat) c.args c.step.toNat)
 &&decide ((cu j.ss c).length<dr j.ss/\(dr j.ss:Int)=c.before/\((cu j.ss c).length:Int)=c.after)
end
structure Jr (j:Jb):Prop where
 pD:dy j.d=0
 at':j.i<j.d.ab.length
 len:j.ts.length=j.ss.length
 ne:∀ t∈j.ts,t≠[]
 sy:∀ t∈j.ts,∀ w∈t,m7 j.d w
 WX:j.M=gr j.ts j.ts.length
section
variable {d:Db} {z:Int} {ss:List Stp}
theorem n2 (h:dF d z ss=0):dA d z ss=0/\(aX d z ss).2.1=0:=by
 unfold dF at h
 split at h
 · rename_i h1
   split at h
   · rename_i h2;exact⟨h1,h2⟩
   · cases h
 · rename_i h1;exact absurd h h1
theorem mQ (h:dF d z ss=0):Jr (fF d z ss)/\et ss:=by
 obtain⟨h1,h2⟩:=n2 h
 obtain⟨ha,hf⟩:=ns h1
 have bv:=(tk ss).1 hf
 obtain⟨dW,lq,fV⟩:=ou ha
 have hi:z.toNat<d.ab.length:=by omega
 have h3:aX d z ss=kH d z.toNat ss:=if_pos h1
 have h4:∀ q,q<ss.length->ik d z.toNat ss q=0:=by
  rw[h3]at h2
  unfold kH at h2
  split at h2
  · rename_i k hk
    have h5:=List.find?_some hk
    exact absurd h2 (of_decide_eq_true h5)
  · rename_i hk
    intro q hq
    have h5:=List.find?_eq_none.1 hk q (mem_range.2 hq)
    simpa using h5
 have h5:(aX d z ss).1=dH d z.toNat ss ss.length:=by rw[h3,ph h4]
 have h6:=rl dW hi ss.length (λq hq=>h4 q hq)
 refine⟨⟨dW,hi,?_,λt ht e=>?_,?_,rfl⟩,bv⟩
 · show(aX d z ss).1.length=ss.length
   rw[h5,lk]
 · have ht:t∈dH d z.toNat ss ss.length:=by rw[<-h5];exact ht
   have:=(h6 t ht).1
   rw[e]at this;cases this
 · intro t ht
   have ht:t∈dH d z.toNat ss ss.length:=by rw[<-h5];exact ht
   exact zv dW hi bv ss.length aV t ht
end
def da (d:Db) (z:Int) (ss:List Stp) (c:cd):List Stp×Int:=
 if ¬ dF d z ss=0 then([],dF d z ss)else if ¬ c.dQ=1/\¬ c.dQ=2 then([],1)
 else if c.step<0∨(ss.length:Int)<=c.step then([],3)else if iO (fF d z ss) c=false then([],260)else(cu ss c,0)
instance instDecStpM:DecidableEq Stp:=λs t=>if h:s.ae=t.ae/\s.args=t.args then .isTrue (by cases s;cases t;simp_all)else .isFalse λe=>h (by rw[e];exact⟨rfl,rfl⟩)
section
variable {d:Db} {i n:Nat} {ss:List Stp} {s:Stp}
theorem vU (hn:n<=ss.length):∀ k,k<=n->dH d i (ss.take n++[s]) k=dH d i ss k
 | 0,_=>rfl
 | k+1,hk=>by
  have h1:G (ss.take n++[s]) k=G ss k:=by
   rw[vW (by rw[length_take];omega),tq oz]
  rw[dH,dH,vU hn k oz,h1]
theorem NM {α:Type} [Inhabited α] {a b:List α} {k:Nat} (h:a<+:b) (hk:k<a.length):G b k=G a k:=by
 obtain⟨r,rfl⟩:=h
 exact vW hk
theorem ED (hn:n<=ss.length):G (ss.take n++[s]) n=s:=by
 have h:=EC (l:=ss.take n) (x:=s)
 rwa [length_take,Nat.min_eq_left hn]at h
theorem VK (hn:n<=ss.length) (h:∀ q,q<n->ik d i ss q=0) (t:List BA):
 ((kH d i (ss.take n++[s])).1.length=n+1/\G (kH d i (ss.take n++[s])).1 n=t)↔cr d i s (dH d i ss n)=(t,0):=by
 have hl:(ss.take n++[s]).length=n+1:=by simp;omega
 have h1:∀ q,q<n->ik d i (ss.take n++[s]) q=0:=λq hq=>by
  rw[ik,vU hn q oz,vW (by rw[length_take];omega),tq hq]
  exact h q hq
 have h2:ik d i (ss.take n++[s]) n=(cr d i s (dH d i ss n)).2:=by rw[ik,vU hn n aV,ED hn]
 by_cases h3:(cr d i s (dH d i ss n)).2=0
 · have h4:∀ q,q< (ss.take n++[s]).length->ik d i (ss.take n++[s]) q=0:=λq hq=>by
    rw[hl]at hq
    rcases Nat.lt_or_ge q n with h5 | h5
    · exact h1 q h5
    · rw[show q=n by omega,h2];exact h3
   rw[ph h4,hl,lk]
   have h5:dH d i (ss.take n++[s]) (n+1)=dH d i ss n++[(cr d i s (dH d i ss n)).1]:=by rw[dH,vU hn n aV,ED hn]
   have h6:=EC (l:=dH d i ss n) (x:=(cr d i s (dH d i ss n)).1)
   rw[lk]at h6
   dsimp only
   rw[h5,h6]
   exact⟨λe=>Prod.ext e.2 h3,λe=>⟨rfl,by rw[e]⟩⟩
 · rw[B2 (k:=n) oz h1 (by rw[h2];exact h3),lk]
   exact⟨λe=>by have:=e.1;omega,λe=>absurd (by rw[e]) h3⟩
end
theorem Ra {ss:List Stp} (h:et ss) {n:Nat} (hn:n<ss.length) {s:Stp} (hs:s.args.length<=40/\∀ a∈s.args,0<=a/\a< (n:Int)):et (ss.take n++[s]):=by
 have h2:=h.2.1
 refine⟨by simp,by simp;omega,λi hi=>?_⟩
 have hi:i<=n:=by simp at hi;omega
 by_cases e:i=n
 · have h3:(ss.take n++[s])[i]=s:=by
    rw[List.getElem_append_right (by simp;omega)];simp
   rw[h3,e];exact hs
 · have h3:(ss.take n++[s])[i]=ss[i]'(by omega):=by
    rw[List.getElem_append_left (by simp;omega),List.getElem_take]
   rw[h3];exact h.2.2 i oz
theorem Ej {d:Db} {i:Nat} {ss:List Stp}:∀ k m,k<=m->dH d i ss k<+:dH d i ss m
 | k,0,h=>by rw[show k=0 by omega];exact prefix_refl _
 | k,m+1,h=>by
  rcases Nat.lt_or_ge m k with h1 | h1
  · rw[show k=m+1 by omega];exact prefix_refl _
  · exact(Ej k m h1).trans (by rw[dH];exact List.prefix_append _ _)
theorem TZ {d:Db} {z:Int} {ss:List Stp} (hr:dF d z ss=0) {k:Nat} (hk:k<z.toNat) {al:List Int} {step:Nat} (hl:al.length=(G d.ab k).aa.length) (hs:step<ss.length) (kT:∀ a∈al,0<=a/\a< (step:Int)):
 (dA d z (ss.take step++[⟨(G d.ab k).ae,al⟩])=0/\(aX d z (ss.take step++[⟨(G d.ab k).ae,al⟩])).1.length=step+1/\G (aX d z (ss.take step++[⟨(G d.ab k).ae,al⟩])).1 step=G (fF d z ss).ts step)↔fy (fF d z ss) (G d.ab k) al step=true:=by
 obtain⟨hj,bv⟩:=mQ hr
 have dW:dy d=0:=hj.pD
 have hi:z.toNat<d.ab.length:=hj.at'
 obtain⟨h1,h2⟩:=n2 hr
 obtain⟨ha,_⟩:=ns h1
 have EJ:=(tl (pE dW k oz)).1
 have hq:dA d z (ss.take step++[⟨(G d.ab k).ae,al⟩])=0:=by
  rw[dA,if_pos ha]
  exact(tk _).2 (Ra bv hs ⟨by show al.length<=40;omega,kT⟩)
 have h3:aX d z ss=kH d z.toNat ss:=if_pos h1
 have h4:∀ q,q<ss.length->ik d z.toNat ss q=0:=by
  rw[h3]at h2
  unfold kH at h2
  split at h2
  · rename_i k hk
    have h5:=List.find?_some hk
    exact absurd h2 (of_decide_eq_true h5)
  · rename_i hk
    intro q hq
    have h5:=List.find?_eq_none.1 hk q (mem_range.2 hq)
    simpa using h5
 have h5:(fF d z ss).ts=dH d z.toNat ss ss.length:=by show(aX d z ss).1=_;rw[h3,ph h4]
 have h6:=rl dW hi ss.length (λq hq=>h4 q hq)
 have h7:a8 (dH d z.toNat ss step) al=a8 (fF d z ss).ts al:=by
  refine List.map_congr_left λa ha=>?_
  rw[h5,NM (Ej step ss.length oz) (by rw[lk];have:=kT a ha;omega)]
 have h8:aX d z (ss.take step++[⟨(G d.ab k).ae,al⟩])=kH d z.toNat (ss.take step++[⟨(G d.ab k).ae,al⟩]):=if_pos hq
 rw[h8,NR (K4 dW _ (aC oz)) (by rw[h5];exact(h6 _ (aC (by rw[lk];exact hs))).2),decide_eq_true_eq]
 have h9:=VK (s:=⟨(G d.ab k).ae,al⟩) (Nat.le_of_lt hs) (λq hq=>h4 q oz) (G (fF d z ss).ts step)
 rw[Vj dW hi hk hl,h7]at h9
 exact⟨λe=>h9.1 e.2,λe=>⟨hq,h9.2 e⟩⟩
section
variable {ss:List Stp} {pre:List (Nat×Stp)} {x:Nat×Stp} {ys:List Bool}
theorem wV (hm:ys=iT ss pre.length) (_:pre.length<ss.length) (h2:x.1=ss.length-1-pre.length):lw ss ys x.1=iT ss (pre++[x]).length:=by
 rw[length_append,List.length_singleton,h2,hm];rfl
end
def jf {α:Type} (f:α->α) (l:List α) (q:Nat):List α:=(l.take q).map f++l.drop q
section
variable {α:Type} [Inhabited α] {f:α->α} {l:List α} {q:Nat}
omit [Inhabited α]in
theorem wU:jf f l 0=l:=by simp[jf]
omit [Inhabited α]in
theorem wS (h:q=l.length):jf f l q=l.map f:=by simp[jf,h]
omit [Inhabited α]in
theorem qf:(jf f l q).length=l.length:=by simp[jf];omega
theorem rP (h:q<l.length):G (jf f l q) q=G l q:=by
 have h1:((l.take q).map f).length=q:=by simp;omega
 simp only[G,jf,getD_eq_getElem?_getD]
 rw[List.getElem?_append_right oz,h1,Nat.sub_self,List.getElem?_drop,Nat.add_zero]
theorem qg (h:q<l.length):(jf f l q).set q (f (G l q))=jf f l (q+1):=by
 have h1:((l.take q).map f).length=q:=by simp;omega
 rw[jf,jf,List.set_append_right _ _ oz,h1,Nat.sub_self,List.drop_eq_getElem_cons h,List.set_cons_zero,dG h,List.map_append,append_assoc]
 rfl
theorem wT (h:q<l.length) (e:f (G l q)=G l q):jf f l q=jf f l (q+1):=by
 have h1:=qg (f:=f) h
 rw[<-h1,e,<-rP (f:=f) h,cV (by rw[qf];exact h),List.set_getElem_self]
end
def me (c:cd) (a:Int):Int:=if a=c.step then G c.args 0 else a
theorem Id (c:cd) (s:Stp):(⟨s.ae,s.args.map (me c)⟩:Stp)=jE c s:=rfl

section
variable {hs:List Hy} {M:BM} {p t p0 t0:List BA} {k:Nat}
theorem CR (f:ce hs M p0 t0=ce hs M (p.drop k) t) (hk:k<p.length) (h:(((aw M (G p k)).isSome&&decide (((((aw M (G p k)).getD default).length:Nat):Int)<=((t.length:Nat):Int)))&&decide (((aw M (G p k)).getD default)=t.take ((aw M (G p k)).getD default).length))=true):
 ce hs M p0 t0=ce hs M (p.drop (k+1)) (t.drop ((aw M (G p k)).getD default).length):=by
 simp only[Bool.and_eq_true,decide_eq_true_eq]at h
 obtain⟨⟨h1,h2⟩,h3⟩:=h
 obtain⟨y,hy⟩:=Option.isSome_iff_exists.1 h1
 rw[hy]at h2 h3 ⊢
 simp only[Option.getD_some]at h2 h3 ⊢
 exact JV f hk hy oz h3
theorem JR (f:ce hs M p0 t0=ce hs M (p.drop k) t) (hk:k<p.length) (h:(((aw M (G p k)).isSome&&decide (((((aw M (G p k)).getD default).length:Nat):Int)<=((t.length:Nat):Int)))&&decide (((aw M (G p k)).getD default)=t.take ((aw M (G p k)).getD default).length))=false) (fU:(aw M (G p k)).isSome=true):
 ce hs M p0 t0=(false,false):=by
 obtain⟨y,hy⟩:=Option.isSome_iff_exists.1 fU
 rw[hy]at h
 simp only[Option.isSome_some,Option.getD_some,Bool.true_and,Bool.and_eq_false_iff,decide_eq_false_iff_not]at h
 exact JX f hk hy λh9=>by rcases h with h | h;exact h oz;exact h h9.2
theorem JQ (f:ce hs M p0 t0=ce hs M (p.drop k) t) (hk:k<p.length) (fU:(aw M (G p k)).isSome=false) (hf:jd hs (G p k)=true):ce hs M p0 t0=(true,false):=
 JU f hk (by simpa using fU) hf
theorem JP (f:ce hs M p0 t0=ce hs M (p.drop k) t) (hk:k<p.length) (fU:(aw M (G p k)).isSome=false) (hf:jd hs (G p k)=false) (h:(decide (((t.length:Nat):Int)=(0:Int))|| !decide (G t 0=G p k))=true):ce hs M p0 t0=(false,false):=
 JW f hk (by simpa using fU) hf (by simp only[Bool.or_eq_true,decide_eq_true_eq,Bool.not_eq_true',decide_eq_false_iff_not]at h;rcases h with h | h;exact .inl oz;exact .inr h)
theorem CS (f:ce hs M p0 t0=ce hs M (p.drop k) t) (hk:k<p.length) (fU:(aw M (G p k)).isSome=false) (hf:jd hs (G p k)=false) (h:(decide (((t.length:Nat):Int)=(0:Int))|| !decide (G t 0=G p k))=false):ce hs M p0 t0=ce hs M (p.drop (k+1)) (t.drop 1):=
 JT f hk (by simpa using fU) hf (by simp only[Bool.or_eq_false_iff,decide_eq_false_iff_not,Bool.not_eq_false',decide_eq_true_eq]at h;rintro(h9 | h9);exact h.1 oz;exact h9 h.2)
end

section
variable {M:BM} {vis:List BA}
theorem Qm {k:BA} (h1:vis.Nodup) (h2:∀ q∈vis,q∈M.map (·.1)) (h3:k∉vis/\(aw M k).isSome=true):M.length-(vis++[k]).length<M.length-vis.length:=by
 have hk:k∈M.map (·.1):=by have:=h3.2;rw[lx]at this;simpa using this
 have hn:(vis++[k]).Nodup:=by
  rw[List.nodup_append]
  exact⟨h1,by simp,λx Z y hy e=>by rw[mem_singleton.1 hy]at e;subst e;exact h3.1 Z⟩
 have:=nV (ys:=M.map (·.1)) hn λx Z=>by
  rcases mem_append.1 Z with h | h
  · exact h2 x h
  · rw[mem_singleton.1 h];exact hk
 simp at this ⊢
 omega
theorem FQ (h1:vis.Nodup) (h2:∀ q∈vis,q∈M.map (·.1)):vis.length<=M.length:=by
 have:=nV (ys:=M.map (·.1)) h1 h2
 simpa using this
theorem Ql {s:BA} {t:List BA} (hn:(M.map Prod.fst).Nodup) (h:(s,t)∈M):aw M s=some t:=by
 induction M with
 | nil=>cases h
 | cons p M ih=>
  rw[List.map_cons,nodup_cons]at hn
  rw[l5]
  rcases mem_cons.1 h with e | h
  · rw[<-e];simp
  · rw[if_neg (λe=>hn.1 (by rw[<-e];exact List.mem_map_of_mem (f:=Prod.fst) h))]
    exact ih hn.2 h
theorem Qk (hn:(M.map Prod.fst).Nodup):M.map (λq=>(⟨q.1,q.2⟩:Bd))=(M.map Prod.fst).map λs=>(⟨s,(aw M s).getD default⟩:Bd):=by
 rw[map_map]
 refine List.map_congr_left λq hq=>?_
 show(⟨q.1,q.2⟩:Bd)=⟨q.1,(aw M q.1).getD default⟩
 rw[Ql hn (t:=q.2) hq];rfl
theorem Qn (hn:(M.map Prod.fst).Nodup) (h1:vis.Nodup) (h2:∀ q∈vis,q∈M.map (·.1)) (h3:∀ k,(aw M k).isSome=true->k∈vis):(vis.map λs=>(⟨s,(aw M s).getD default⟩:Bd)).Perm (M.map λq=>(⟨q.1,q.2⟩:Bd)):=by
 rw[Qk hn]
 refine List.Perm.map _ ?_
 refine List.perm_iff_count.2 λs=>?_
 have e1:=List.Nodup.count h1 (a:=s)
 have e2:=List.Nodup.count hn (a:=s)
 rw[e1,e2]
 have:s∈vis↔s∈M.map Prod.fst:=⟨h2 s,λh=>h3 s (by rw[lx];simpa using h)⟩
 simp only[this]
end

section
variable {j:Jb} {g:Fr} {al:List Int} {step k:Nat}
theorem NX (hk:k<g.aa.length) (h:fc g.aa (a8 j.ts al) 0 k=false):fy j g al step=false:=by
 have:(List.range g.aa.length).all (fc g.aa (a8 j.ts al) 0)=false:=by
  rw[List.all_eq_false]
  exact⟨k,mem_range.2 hk,by simp[h]⟩
 simp[fy,this]
theorem NW (hk:k<g.aa.length) (h:l1 g.aa (d6 g.aa (a8 j.ts al) g.aa.length) (a8 j.ts al) k=false):fy j g al step=false:=by
 have:(List.range g.aa.length).all (l1 g.aa (d6 g.aa (a8 j.ts al) g.aa.length) (a8 j.ts al))=false:=by
  rw[List.all_eq_false]
  exact⟨k,mem_range.2 hk,by simp[h]⟩
 simp[fy,this]
theorem NV (h:(ce g.aa (d6 g.aa (a8 j.ts al) g.aa.length) g.ac (G j.ts step)).1=false):fy j g al step=false:=by simp[fy,h]
theorem NY (h1:∀ k,k<g.aa.length->fc g.aa (a8 j.ts al) 0 k=true) (h2:∀ k,k<g.aa.length->l1 g.aa (d6 g.aa (a8 j.ts al) g.aa.length) (a8 j.ts al) k=true) (h3:(ce g.aa (d6 g.aa (a8 j.ts al) g.aa.length) g.ac (G j.ts step)).1=true):
 fy j g al step= !eL (bK (d6 g.aa (a8 j.ts al) g.aa.length)) g.apart j.d.vars (G j.d.ab j.i).wide:=by
 have e1:(List.range g.aa.length).all (fc g.aa (a8 j.ts al) 0)=true:=all_eq_true.2 λk hk=>h1 k (mem_range.1 hk)
 have e2:(List.range g.aa.length).all (l1 g.aa (d6 g.aa (a8 j.ts al) g.aa.length) (a8 j.ts al))=true:=all_eq_true.2 λk hk=>h2 k (mem_range.1 hk)
 simp[fy,e1,e2,h3]
theorem AQ {L:BM} {k:BA} {v:List BA} {q:BA×List BA} (h:q∈cl L k v):q∈L∨q.1=k/\q.2=v:=by
 induction L with
 | nil=>
  obtain rfl:=mem_singleton.1 h
  exact .inr ⟨rfl,rfl⟩
 | cons p L ih=>
  rw[cl]at h
  split at h
  · rename_i e
    rcases mem_cons.1 h with rfl | h
    · exact .inr ⟨e.symm,rfl⟩
    · exact .inl (mem_cons_of_mem _ h)
  · rcases mem_cons.1 h with rfl | h
    · exact .inl List.mem_cons_self
    · rcases ih h with h | h
      · exact .inl (mem_cons_of_mem _ h)
      · exact .inr h
theorem QK {L:BM} {k:BA} {v:List BA}:(cl L k v).length<=L.length+1:=by
 induction L with
 | nil=>simp[cl]
 | cons p L ih=>rw[cl];split<;>simp;omega
theorem zJ {hs:List Hy} {es:List (List BA)}:∀ k,(d6 hs es k).length<=k
 | 0=>Nat.le_refl _
 | k+1=>by
  have h1:=zJ (hs:=hs) (es:=es) k
  rw[d6];split
  · exact Nat.le_trans QK oz
  · omega
theorem zK {hs:List Hy} {es:List (List BA)} {p:List BA->Prop} (hp:∀ t∈es,p (t.drop 1)) (hl:es.length=hs.length):∀ k,k<=hs.length->∀ q∈d6 hs es k,p q.2/\∃ h∈hs,h.be=true/\q.1=G h.ac 1
 | 0,_,q,h=>by cases h
 | k+1,hk,q,h=>by
  rw[d6]at h
  split at h
  · rename_i hf
    rcases AQ h with h | ⟨h1,h2⟩
    · exact zK hp hl k oz q h
    · exact⟨by rw[h2];exact hp _ (aC oz),G hs k,aC oz,hf,h1⟩
  · exact zK hp hl k oz q h
theorem FS {M:BM} {p:List BA->Prop} (h:∀ q∈M,p q.2):∀ b∈bK M,p b.ac:=λb hb=>by
 obtain⟨q,hq,rfl⟩:=mem_map.1 ((AE M).mem_iff.1 hb)
 exact h q hq
end
end
end Go.Proofs.YtdfadihhfppjaaaGreatDoor
