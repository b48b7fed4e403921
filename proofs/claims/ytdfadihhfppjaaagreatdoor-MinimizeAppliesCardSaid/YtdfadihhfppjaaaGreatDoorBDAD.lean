/-
  Part of the proof that MinimizeApplies returns true. Conditions: none.
-/
import Derived.Test.YtdfadihhfppjaaaGreatDoorBDAC
namespace Go.Proofs.YtdfadihhfppjaaaGreatDoor
set_option maxRecDepth 100000
set_option maxHeartbeats 8000000
open Go.Proofs.Tryz
open List (length_map map_set mem_append_right)
section
def kt (j:Jb) (c:cd):Bool:=!(c.args.any (gT c))&&iR j c
section
variable {d:Db} {z:Int} {ss:List Stp} {ts:List (List BA)} {c:cd} {j:Jb} {k:Nat}
theorem JE (hk:k<c.args.length) (h:gT c (G c.args k)=true):c.args.any (gT c)=true:=List.any_eq_true.2 ⟨_,aC hk,h⟩
theorem JF (h:∀ j,j<c.args.length->gT c (G c.args j)=false):c.args.any (gT c)=false:=
 List.any_eq_false.2 λx Z=>by
  obtain⟨j,hj,rfl⟩:=ee Z
  rw[h j hj];simp
theorem MO (h:c.args.any (gT c)=true):kt j c=false:=by rw[kt,h];rfl
theorem vO (h:c.args.any (gT c)=false):kt j c=iR j c:=by rw[kt,h];rfl
theorem vP (h:c.args.any (gT c)=false) (h1:c.dQ=1):((decide ((c.args.length:Int)=(1:Int))&&decide (c.ae=(⟨#[]⟩:BA)))&&decide (G j.ts (G c.args 0).toNat=G j.ts c.step.toNat))=kt j c:=by
 rw[vO h,iR,if_pos h1,Bool.eq_iff_iff]
 simp only[Bool.and_eq_true,decide_eq_true_eq]
 exact⟨λe=>⟨e.1.2,oz,e.2⟩,λe=>⟨⟨oz,e.1⟩,e.2.2⟩⟩
theorem MP (h:c.args.any (gT c)=false) (h1:¬ c.dQ=1) (h2:bP j.d c.ae<0∨(j.i:Int)<=bP j.d c.ae∨ ¬ c.args.length=(G j.d.ab (bP j.d c.ae).toNat).aa.length):kt j c=false:=by
 rw[vO h,iR,if_neg h1]
 have e:¬ (0<=bP j.d c.ae/\bP j.d c.ae< (j.i:Int)/\c.args.length=(G j.d.ab (bP j.d c.ae).toNat).aa.length):=by omega
 rw[decide_eq_false e,Bool.false_and]
theorem MQ (hr:dF d z ss=0) (jT:ts=(aX d z ss).1) (h:c.args.any (gT c)=false) (Aa:¬ c.dQ=1) (gJ:0<=c.step) (fU:c.step< (ss.length:Int)) (h0:¬ bP d c.ae<0) (h1:bP d c.ae<z) (hl:c.args.length=(G d.ab (bP d c.ae).toNat).aa.length):
 kt (⟨d,z.toNat,ss,ts,[]⟩:Jb) c=pS d z ss c.step.toNat ⟨c.ae,c.args⟩ (G ts c.step.toNat):=by
 have gI:=tH h
 have hf:=oQ (p:=λf=>decide (f.ae=c.ae)) (xs:=d.ab) (by show ¬ bP d c.ae= -1;omega)
 have OK:(G d.ab (bP d c.ae).toNat).ae=c.ae:=of_decide_eq_true hf.2.2.1
 have h2:=TZ hr (k:=(bP d c.ae).toNat) oz (al:=c.args) (step:=c.step.toNat) hl oz (λa ha=>by have:=gI a ha;omega)
 rw[OK]at h2
 subst jT
 rw[vO h,iR,if_neg Aa]
 have e:0<=bP d c.ae/\bP d c.ae< ((z.toNat:Nat):Int)/\c.args.length=(G d.ab (bP d c.ae).toNat).aa.length:=⟨oz,oz,hl⟩
 rw[show decide (0<=bP (⟨d,z.toNat,ss,(aX d z ss).1,[]⟩:Jb).d c.ae/\bP (⟨d,z.toNat,ss,(aX d z ss).1,[]⟩:Jb).d c.ae< (((⟨d,z.toNat,ss,(aX d z ss).1,[]⟩:Jb).i:Nat):Int)/\c.args.length=(G (⟨d,z.toNat,ss,(aX d z ss).1,[]⟩:Jb).d.ab (bP (⟨d,z.toNat,ss,(aX d z ss).1,[]⟩:Jb).d c.ae).toNat).aa.length)=true from decide_eq_true e,Bool.true_and,Bool.eq_iff_iff,pS,decide_eq_true_eq]
 exact h2.symm
theorem MR (h:kt (⟨d,z.toNat,ss,(aX d z ss).1,[]⟩:Jb) c=false):iO (fF d z ss) c=false:=by
 cases ha:c.args.any (gT c)with
 | true=>exact Fb ha
 | false=>
  rw[vO ha]at h
  exact Ad h
theorem MS (h:kt (⟨d,z.toNat,ss,(aX d z ss).1,[]⟩:Jb) c=true):(∀ a∈c.args,0<=a/\a<c.step)/\(¬ c.dQ=1∨c.args.length=1)/\iO (fF d z ss) c=decide ((cu ss c).length<dr ss/\(dr ss:Int)=c.before/\((cu ss c).length:Int)=c.after):=by
 rw[kt,Bool.and_eq_true,Bool.not_eq_true']at h
 exact⟨tH h.1,FF h.2,Ae (j:=fF d z ss) h.1 h.2⟩
end
theorem Ge {α:Type} [DecidableEq α]:∀ {xs ys:List α},xs.Nodup->(∀ x∈xs,x∈ys)->xs.length<=ys.length
 | [],_,_,_=>by simp
 | x::xs,ys,h,hs=>by
  have h1:=List.nodup_cons.1 h
  have Z:=hs x yz
  have h2:xs.length<=(ys.erase x).length:=Ge h1.2 λy hy=>(List.mem_erase_of_ne (λe=>h1.1 (by rw[<-e];exact hy))).2 (hs y (by simp[hy]))
  rw[List.length_erase_of_mem Z]at h2
  have:=List.length_pos_of_mem Z
  simp only[List.length_cons];omega
theorem Dn {d:Db} (h:dy d=0):∀ f∈d.ab,f.apart.length<=100000:=by
 intro f hf
 obtain⟨k,hk,rfl⟩:=ee hf
 have h1:=pE h k hk
 have EJ:=(tl h1).1
 have hs:f4 d (G d.ab k)=true:=by
  unfold dB eZ at h1
  split at h1
  · cases h1
  split at h1
  · cases h1
  split at h1
  · cases h1
  split at h1
  · rename_i h2
    rw[h1]at h2
    simp at h2
  split at h1
  · cases h1
  split at h1
  · rename_i h2
    rw[h1]at h2
    simp at h2
  split at h1
  · cases h1
  · rename_i h3
    simpa using h3
 unfold f4 at hs
 simp only[Bool.and_eq_true,decide_eq_true_eq]at hs
 obtain⟨⟨⟨_,ht⟩,_⟩,hw,ha⟩:=hs
 have d7:(G d.ab k).wide.Nodup:=by
  have h2:=(FD _).1 hw
  exact h2.imp λh3 e=>by rw[e,wM]at h3;cases h3
 have Fh:(eG (G d.ab k).aa).length<=40:=by
  rw[eG,length_map]
  exact Nat.le_trans (List.length_filter_le _ _) EJ
 have h2:(G d.ab k).apart.length<=((eG (G d.ab k).aa).flatMap λa=>(eG (G d.ab k).aa).map λb=>(⟨a,b⟩:Pr)).length:=by
  refine Ge (by rw[ha];exact d7.filter _) λp hp=>?_
  rw[ha]at hp
  have h3:=(List.mem_filter.1 hp).2
  simp only[iQ,Bool.and_eq_true,decide_eq_true_eq]at h3
  have h4:=List.all_eq_true.1 ht
  exact List.mem_flatMap.2 ⟨p.a,of_decide_eq_true (h4 _ h3.1),List.mem_map.2 ⟨p.b,of_decide_eq_true (h4 _ h3.2),rfl⟩⟩
 have h5:((eG (G d.ab k).aa).flatMap λa=>(eG (G d.ab k).aa).map λb=>(⟨a,b⟩:Pr)).length=(eG (G d.ab k).aa).length*(eG (G d.ab k).aa).length:=by
  rw[List.length_flatMap]
  simp only[length_map,List.map_const',List.sum_replicate_nat]
 rw[h5]at h2
 have h6:=Nat.mul_le_mul Fh Fh
 omega
end
section
open Go.RowKit
section
variable {J:WP} (V:aS J)
include V
theorem Kx (ss:List Stp) (bv:et ss):Fn prog J 26 [.agg (bw ss)] (.int ((dr ss):Nat)):=by
 refine fE func26 λS w0 hS hJ0=>?_
 refine tw cc ?_
 have jR:=bv.1
 have cx:=bv.2.1
 refine au tb V [1000] [.ptr (bw ss),_] [0] [_] Y ⟨cW hS V,U⟩ ?_
 refine af (au tb V [0,1002] [_,.int (fm ss),_] [1] U2 Y ⟨bN hS V (KE V ss) (cO func52),U⟩ ?_)
 refine cj 1 ?_ ?_<;>intro hb1
 ·
  exact False.elim (by simp[(tk ss).2 bv]at hb1)
 ·
  refine aj (nx (au tb V [1002,1006,1008] (V3 [.int (ss.length:Nat),.int (ss.length-1:Nat),.agg (bw (gK ss (ss.length-1))),.rd (br (gK ss (ss.length-1))),.int ((gK ss (ss.length-1)).length:Nat),_]) [3,4,5,6,7] U3 Y ⟨aD ep,λ_ _ _ Z hl _=>qv (i:=ss.length) (j:=1) Y (hl.D 3 9 Y Y) (Rel.aG (.int .i64 1)) az az Z,bN hS V (vp V ss (ss.length-1) (by exact bv) oz) (cO func53),λ_ _ _ Z hl _=>Hr (c:=br (gK ss (ss.length-1))) DT Y (hl.D 5 11 Y Y) Z,aD ep,U⟩ ?_))
  refine ln 0 λcx=>?_
  refine ln 1 λ_=>?_
  exact bL 2 (hE:=eI (by rw[Av bv.1,Te]))
theorem Kw (d:Db) (z:Int) (ss:List Stp) (hw:∀ f∈d.ab,f.wide.length*32<=140737488351232):Fn prog J 36 [.agg (bZ d),.int z,.agg (bw ss)] (.bJ [.rd (ct (if dF d z ss=0 then(aX d z ss).1 else [])),.int (dF d z ss)]):=by
 refine fE func36 λS w0 hS hJ0=>?_
 refine tw cc (au tb V [1,1000,1001] [.ptr (bZ d),.ptr (bw ss),_,_] [0,1] U3 Y ⟨cW hS V,cW hS V,U⟩ ?_)
 refine af (au tb V [0,1,2,1004] (V3 [.int (dA d z ss),_]) [3] U4 Y ⟨bN hS V (C2 V d z ss (by exact λi hi=>hw _ (aC hi))) (cO func70),U⟩ ?_)
 refine ak tb V [0,1,2,3,1001] U2 U5 ?_
 refine cj 4 ?_ ?_<;>intro hb1<;>try simp at hb1
 ·
  have eR:dF d z ss=dA d z ss:=if_neg hb1
  have eT:(if dF d z ss=0 then(aX d z ss).1 else [])=[]:=if_neg (by rw[eR];exact hb1)
  refine ak tb V [1001,1002] U3 U2 ?_
  exact tw (λh=>gj h (m:=0) (s:=6) Y) (aZ (λa w h=>dX (m:=0) (k:=1) Y (d9 h) Y Y (congrArg (λz=>AV.rd (ct z)) (show([]:List (List BA))=(if dF d z ss=0 then(aX d z ss).1 else [])from by first | (rw[eT];done) | (rw[eR];done))) (eI (by first | (rw[eT];done) | (rw[eR];done)))))
 ·
  refine aj (nx (aL (ao 3 tb (env':=[(22,_),(21,_),(20,_),(1,_),(3,_),(5,_),(8,_),(17,_)]) Y (sy (.bJ [.rd (ct ((aX d z ss).1)),.agg (kL ((aX d z ss).2)),.int (dA d z ss)]) (λh=>cQ (C7 V d z ss (by exact λi hi=>hw _ (aC hi)) (by exact Dn (ou (ns hb1).1).1)) (cO func71) Y (aK hS _ h.keep h.x) (h.x.1) (aq (h.get 2 Y) (aq (h.get 1 Y) (aq (h.get 0 Y) aP))) (jo V h.x)) ?_))))
  refine ao 4 tb (env':=[(26,_),(25,_),(24,_),(19,_),(23,_),(22,_),(21,_),(20,_),(1,_),(3,_),(5,_),(8,_),(17,_)]) Y (cz sr V Y Y Y (lb Y) λb1=>?_)
  refine ao 1 tb (env':=[(9,_),(10,_),(26,_),(25,_),(24,_),(19,_),(23,_),(22,_),(21,_),(20,_),(1,_),(3,_),(5,_),(8,_),(17,_)]) Y (ck (b:=b1) (off:=0) (es:=U2) (news:=U2) V hJ0 lC Y Y Y (lb Y) Y (λa w h=>⟨(h.get 1 Y),(h.get 3 Y)⟩) ?_)
  refine ao 1 tb (env':=[(11,_),(9,_),(10,_),(26,_),(25,_),(24,_),(19,_),(23,_),(22,_),(21,_),(20,_),(1,_),(3,_),(5,_),(8,_),(17,_)]) Y (kw (λh=>fg hS h (m:=2) (s:=10) Y) ?_)
  refine aA [0,1,2,5] U4 Y (nx (ln 2 λcx=>?_))
  refine af (ak tb V [0,1,2,1001] U2 U4 ?_)
  refine cj 3 ?_ ?_<;>intro hb2
  ·
   exact False.elim (by simp[hb1]at hb2)
  ·
   refine aj (nx (af (ak tb V [2,1002] U3 U2 ?_)))
   refine cj 1 ?_ ?_<;>intro aE<;>try simp at aE
   ·
    have eR:dF d z ss=13:=by rw[dF,if_pos hb1,if_neg aE]
    have eT:(if dF d z ss=0 then(aX d z ss).1 else [])=[]:=if_neg (by rw[eR];decide)
    refine ak tb V [1000,1001] U2 U2 ?_
    exact tw (λh=>gj h (m:=0) (s:=6) Y) (aZ (λa w h=>dX (m:=0) (k:=1) Y (d9 h) Y Y (congrArg (λz=>AV.rd (ct z)) (show([]:List (List BA))=(if dF d z ss=0 then(aX d z ss).1 else [])from by first | (rw[eT];done) | (rw[eR];done))) (eI (by first | (rw[eT];done) | (rw[eR];done)))))
   ·
    have eR:dF d z ss=0:=by rw[dF,if_pos hb1,if_pos aE]
    have eT:(if dF d z ss=0 then(aX d z ss).1 else [])=(aX d z ss).1:=if_pos eR
    refine aj (nx (ak tb V [1001,1002] U3 U2 ?_))
    exact aZ (λa w h=>dX (m:=0) (k:=1) Y (d9 h) Y Y (congrArg (λz=>AV.rd (ct z)) (show((aX d z ss).1)=(if dF d z ss=0 then(aX d z ss).1 else [])from by first | (rw[eT];done) | (rw[eR];done))) (eI (by first | (rw[eT];done) | (rw[eR];done))))
theorem Dd (xs ys:List BA)  :Fn prog J 72 [.rd (ai xs),.rd (ai ys)] (.bool (decide (xs=ys))):=by
 refine fE func72 λS w0 hS hJ0=>?_
 clear hJ0
 refine ln 0 λ_=>?_
 refine ln 1 λ_=>?_
 refine qs tb V [0,1] [_] U2 ?_
 refine af (aJ tb V [0,1,1004] [_,.int (xs.length:Nat),_,.int (ys.length:Nat),_] [1,3] U3 Y ⟨aD b6,aD b6,U⟩ ?_)
 refine cj 2 ?_ ?_<;>intro hb1<;>try simp at hb1
 ·
  refine qs tb V [1000] [_] [_] ?_
  exact aU 0 (hE:=eB (by first | (have:=jN (xs:=xs) (ys:=ys) oz (λj hj=>ah j oz);simp[this];done) | (symm;rw[decide_eq_false_iff_not];intro e;subst e;simp_all;done)))
 ·
  refine aj (nx (af (qs tb V [0,1,1000] [_] U3 ?_)))
  refine ax (lp (ι:=Nat) (λk=>(k<=xs.length)/\(∀ j,j<k->G xs j=G ys j)) (λk=>[(5,.int (k:Nat))]) (λk=>xs.length-k) [0,1,2] U2 0 ⟨aI,λj hj=>by omega⟩ ?_)
  rintro k ⟨aQ,ah⟩
  refine af (aJ tb V [0,1,2,1003] [_,_,.int (xs.length:Nat),_] [2] U4 Y ⟨aD b6,U⟩ ?_)
  refine cj 3 ?_ ?_<;>intro hb2<;>try simp at hb2
  ·
   refine aj (nx (af (ax (aJ tb V [0,1,2,1008] [_,_,.ptr [lS (G xs k)],_,_,_,.ptr [lS (G ys k)],_,_] [2,6] U4 Y ⟨bn bx,bn bx,U⟩ ?_))))
   refine cj 3 ?_ ?_<;>intro aE<;>try simp at aE
   ·
    refine qs tb V [1000] [_] [_] ?_
    exact aU 0 (hE:=eB (by first | (have:=jN (xs:=xs) (ys:=ys) oz (λj hj=>ah j oz);simp[this];done) | (symm;rw[decide_eq_false_iff_not];intro e;subst e;simp_all;done)))
   ·
    refine aj (nx (dI tb V [0,1,1002] [_,.int (k+1:Nat),_] [1] U3 Y ⟨aM,U⟩ ?_))
    exact dO (k+1) [0,1,2] ⟨oz,cF ah (by simpa using aE)⟩
  ·
   refine aW (nx (qs tb V [1000] [_] [_] ?_))
   exact aU 0 (hE:=eB (by first | (have:=jN (xs:=xs) (ys:=ys) oz (λj hj=>ah j oz);simp[this];done) | (symm;rw[decide_eq_false_iff_not];intro e;subst e;simp_all;done)))
theorem KC (d:Db) (s:BA)  :Fn prog J 73 [.agg (bZ d),.str s] (.int (bP d s)):=by
 refine fE func73 λS w0 hS hJ0=>?_
 refine tw cc (au tb V [1,1000] [.ptr (bZ d),_] [0] U2 Y ⟨cW hS V,U⟩ ?_)
 refine af (ak tb V [0,1,1000] [_] U3 ?_)
 refine ax (lpo (ι:=Nat) (λk=>(k<=d.ab.length)/\(∀ j,j<k->decide ((G d.ab j).ae=s)=false)) (λ_=>[]) (λk=>[(5,.int (k:Nat))]) (λk=>d.ab.length-k) [0,1,2] U2 0 ⟨aI,λj hj=>by omega⟩ ?_)
 rintro k ⟨aQ,ah⟩
 refine af (au tb V [0,1,2,1002,1004] (V3 [.int (d.ab.length:Nat),_]) [3] U5 Y ⟨aD m8,U⟩ ?_)
 refine ln 3 λ_=>?_
 refine cj 4 ?_ ?_<;>intro hb1<;>try simp at hb1
 ·
  refine aj (nx (af (ax (au tb V [0,1,2,1007] (V3 [.ptr (aY (G d.ab k)),_,_,_,_]) [3] U4 Y ⟨bn fK,U⟩ ?_))))
  refine cj 3 ?_ ?_<;>intro hb2
  ·
   refine ak tb V [1001] U2 [_] ?_
   exact bL 0 (hE:=eI (by first | exact(jb hb1 hb2 ah).symm | exact(jc λj hj=>ah j oz).symm))
  ·
   refine aj (nx (aT tb V [0,1,1002] [_,.int (k+1:Nat),_] [1] U3 Y ⟨aM,U⟩ ?_))
   exact bq (k+1) [0,1,2] ⟨oz,cF ah hb2⟩
 ·
  refine aW (nx (ak tb V [1000] [_] [_] ?_))
  exact bL 0 (hE:=eI (by first | exact(jb hb1 hb2 ah).symm | exact(jc λj hj=>ah j oz).symm))
theorem KI (d:Db) (z:Int) (ss:List Stp) (n:Nat) (st:Stp) (tx:List BA) (hw:∀ f∈d.ab,f.wide.length*32<=140737488351232) (hap:∀ f∈d.ab,f.apart.length<=100000) (hn:n<=ss.length) (E7:ss.length<=2000):Fn prog J 74 [.agg (bZ d),.int z,.agg (bw ss),.int (n:Nat),.agg (bF st),.rd (ai tx)] (.bool (pS d z ss n st tx)):=by
 refine fE func74 λS w0 hS hJ0=>?_
 refine tw cc (ln 5 λcx=>?_)
 refine au tb V [1,3,5,1000,1001,1002] [.ptr (bZ d),.ptr (bw ss),.ptr (bF st),_] [0,1,2] U6 Y ⟨cW hS V,cW hS V,cW hS V,U⟩ ?_
 refine af (λa w h=>k6 [] (γ:=Value×Value×Value×Nat) (λix'=>([.any,.ptr (bw ss),.rd (br ss),.int (n:Nat),.rd (br (ss.take n)),.any,.agg (bF st),.rd (br ([st])),.rd (br ((ss.take n)++([st]))),.agg (bw ((ss.take n)++([st]))),.any,.any]:List AV).getD ix' .any) (λ_=>true) [(1,λ_=>.int z),(3,λ_=>.int (n:Nat)),(5,λ_=>.rd (ai tx)),(6,λ_=>.ptr (bZ d)),(13,λg=>.at g.2.2.2 0)] (λ(b:List Bool) (g:Value×Value×Value×Nat)=>(bif b.getD 4 false then [OB.var g.2.2.2 [br ((ss.take n)++([st]))]]else(bif b.getD 3 false then [OB.var g.2.2.2 [br ([]:List Stp)]]else []))++((bif b.getD 2 false then []else(bif b.getD 1 false then [OB.row g.2.1 88 2 ((ss.take n).map bF)]else(bif b.getD 0 false then [OB.row g.1 88 2 (([]:List Stp).map bF)]else [])))++([]))) (λk' g=>match k' with | 0=>g.1 | 1=>g.2.1 | 2=>g.2.2.1 | 3=>(.pointer (some ⟨g.2.2.2,0,none⟩)) | _=>undef) [0,5,8,10,11] (undef,undef,undef,0) (λ_=>Y) h V cP Y Y Y Y (λb g p hp=>(mem_append_right _ (mem_append_right _ hp))) ⟨bB Y,oX Y λZ hl=>ca il Y (hl.env 4 8 _ Y Y) Z,oX Y λZ hl=>bU iF Y (hl.D 1 18 Y Y) Z,oX Y λZ hl=>b8 Y (hl.env 1 3 _ Y Y) Z,?_,bB Y,oX Y λZ hl=>jB qX Y (hl.env 5 10 _ Y Y) aV Z,?_,bB Y,?_,bB Y,bB Y,U⟩ ⟨?ny,?pK,?y5,?LV,?LW,U⟩ ⟨.old 0 1 _,.old 1 3 _,.old 2 5 _,.old 3 6 _,.dZ 3 10 13 (λ(g:Value×Value×Value×Nat)=>(.pointer (some ⟨g.2.2.2,0,none⟩))) Y Y (λ_=>Y) (λ_=>True.intro),U⟩ ?tV)
 exact oX Y λZ hl=>iH (ys:=ss.take n) (lo:=0) (hi:=n) List.drop_zero ey (λ_=>Y) Y (hl.D 2 19 Y Y) Y (hl.D 3 20 Y Y) az az Z
 exact oY Y λhk Z hl=>mY ey Cf dz Y Y (hl.D 6 23 Y Y) (aK hS _ hk Z _ aV) (jo V Z)
 exact λ_ O' _=>⟨Y,λa _ _ Z hl _=>gd (us:=[a.eval (.tmp 25)]) vi Y yz (bX (hl.D 8 25 Y Y) cE) Y Z⟩
 case ny=>exact ew [[false,false,false,false,false],[false,false,false,true,false]] yq Y Y Y Y ⟨λg _ w hk Z _ _=>bC (vC ey V Y hk Z) λv w' hp=>⟨(v,g.2.1,g.2.2.1,g.2.2.2),dY,λ_=>rfl,True.intro,hp⟩,λg _ w hk Z _ _=>bC (vC ey V rfl hk Z) λv w' hp=>⟨(v,g.2.1,g.2.2.1,g.2.2.2),dY,λ_=>rfl,True.intro,kF (.refl _) (eE (A:=[OB.var g.2.2.2 [br ([]:List Stp)]])).symm hp⟩,U⟩
 case pK=>exact ew [[true,false,false,false,false],[true,false,false,true,false]] yq Y Y Y Y ⟨λg _ w hk Z hl hs=>bC (lj (f:=bF) ([]:List Stp) (ss.take n) (λ_=>rfl) ow V hJ0 Y hk Z (hs 0 0 _ 17 Y Y Y Y) (hl.D 4 21 Y Y) (by simp;omega) (by simp;omega)) λv w' hp=>⟨(g.1,v,g.2.2.1,g.2.2.2),dY,λ_=>rfl,True.intro,hp⟩,λg _ w hk Z hl hs=>bC (lj (f:=bF) ([]:List Stp) (ss.take n) (λ_=>rfl) ow V hJ0 Y hk (fI (eE (A:=[OB.var g.2.2.2 [br ([]:List Stp)]])) Z) (hs 0 0 _ 17 Y Y Y Y) ((hl.D 4 21 Y Y).sub λ_ _ hs=>hs.perm (eE (A:=[OB.var g.2.2.2 [br ([]:List Stp)]]))) (by simp;omega) (by simp;omega)) λv w' hp=>⟨(g.1,v,g.2.2.1,g.2.2.2),dY,λ_=>rfl,True.intro,kF (eE (A:=[OB.var g.2.2.2 [br ([]:List Stp)]])).symm (eE (A:=[OB.var g.2.2.2 [br ([]:List Stp)]])).symm hp⟩,U⟩
 case y5=>exact ew [[true,true,false,false,false],[true,true,false,true,false]] yq Y Y Y Y ⟨λg _ w hk Z hl hs=>bC (vB (f:=bF) (ss.take n) ([st]) (λ_=>rfl) ow hS V hJ0 Y hk Z (hs 1 5 _ 22 Y Y Y Y) (hl.D 7 24 Y Y) (by simp;omega) (by simp;omega)) λv w' ⟨hr,hp⟩=>⟨(g.1,g.2.1,v,g.2.2.2),dY,λ_=>rfl,hr,hp⟩,λg _ w hk Z hl hs=>bC (vB (f:=bF) (ss.take n) ([st]) (λ_=>rfl) ow hS V hJ0 Y hk (fI (eE (A:=[OB.var g.2.2.2 [br ([]:List Stp)]])) Z) (hs 1 5 _ 22 Y Y Y Y) ((hl.D 7 24 Y Y).sub λ_ _ hs=>hs.perm (eE (A:=[OB.var g.2.2.2 [br ([]:List Stp)]]))) (by simp;omega) (by simp;omega)) λv w' ⟨hr,hp⟩=>⟨(g.1,g.2.1,v,g.2.2.2),dY,λ_=>rfl,hr,kF (eE (A:=[OB.var g.2.2.2 [br ([]:List Stp)]])).symm (.refl _) hp⟩,U⟩
 case LV=>exact ew [[false,false,false,false,false],[true,false,false,false,false],[true,true,false,false,false],[true,true,true,false,false]] yq Y Y Y Y ⟨λg _ w hk Z _ _=>bC (gq jI V Y hk Z) λv w' ⟨b',hv,hp⟩=>⟨(g.1,g.2.1,g.2.2.1,b'),dY,λ_=>hv,True.intro,hp⟩,λg _ w hk Z _ _=>bC (gq jI V rfl hk Z) λv w' ⟨b',hv,hp⟩=>⟨(g.1,g.2.1,g.2.2.1,b'),dY,λ_=>hv,True.intro,hp⟩,λg _ w hk Z _ _=>bC (gq jI V rfl hk Z) λv w' ⟨b',hv,hp⟩=>⟨(g.1,g.2.1,g.2.2.1,b'),dY,λ_=>hv,True.intro,hp⟩,λg _ w hk Z _ _=>bC (gq jI V rfl hk Z) λv w' ⟨b',hv,hp⟩=>⟨(g.1,g.2.1,g.2.2.1,b'),dY,λ_=>hv,True.intro,hp⟩,U⟩
 case LW=>exact ew [[true,true,true,true,false]] yq Y Y Y Y ⟨λg _ w hk Z hl hs=>(by obtain⟨eJ,hv2,ed⟩:=jm (hl.D 9 26 Y Y);exact bC (ii (S':=S) (off:=0) (news:=[_]) (es:=[_]) (us:=eJ) V hJ0 fZ Y hk Z (kj (hs 3 10 _ 13 Y Y Y Y)) (by rw[hv2];rfl) ed (lb Y) Y) λv w' hp=>⟨g,λ_ _=>rfl,λe=>(by cases e),True.intro,hp⟩),U⟩
 clear a w h
 rintro⟨v1,v2,v3,b4⟩
 dsimp only[List.map]
 refine kw (λh=>fg hS h (m:=4) (s:=13) Y) (nx (aL ?_))
 refine ao 3 tb (env':=[(30,_),(29,_),(28,_),(13,_),(1,_),(3,_),(5,_),(6,_)]) Y (sy (.bJ [.rd (ct ((aX d z ((ss.take n)++([st]))).1)),.agg (kL ((aX d z ((ss.take n)++([st]))).2)),.int (dA d z ((ss.take n)++([st])))]) (λh=>cQ (C7 V d z ((ss.take n)++([st])) (by exact λi hi=>hw _ (aC hi)) (by exact hap)) (cO func71) Y (aK hS _ h.keep h.x) (h.x.1) (aq (h.get 2 Y) (aq (h.get 1 Y) (aq (h.get 0 Y) aP))) (jo V h.x)) ?_)
 refine ao 4 tb (env':=[(34,_),(33,_),(32,_),(27,_),(31,_),(30,_),(29,_),(28,_),(13,_),(1,_),(3,_),(5,_),(6,_)]) Y (cz sr V Y Y Y (lb Y) λb5=>?_)
 refine ao 1 tb (env':=[(14,_),(15,_),(34,_),(33,_),(32,_),(27,_),(31,_),(30,_),(29,_),(28,_),(13,_),(1,_),(3,_),(5,_),(6,_)]) Y (ck (b:=b5) (off:=0) (es:=U2) (news:=U2) V hJ0 lC Y Y Y (lb Y) Y (λa w h=>⟨(h.get 1 Y),(h.get 3 Y)⟩) ?_)
 refine ao 1 tb (env':=[(16,_),(14,_),(15,_),(34,_),(33,_),(32,_),(27,_),(31,_),(30,_),(29,_),(28,_),(13,_),(1,_),(3,_),(5,_),(6,_)]) Y (kw (λh=>fg hS h (m:=2) (s:=15) Y) ?_)
 refine aA [1,2,5,13,14] U5 Y (nx (ln 1 λhl2=>?_))
 refine au tb V [1017] (V4 [.int (((aX d z ((ss.take n)++([st]))).1).length:Nat),_,.int (n+1:Nat),_,_,_,_,_,.ptr [ai (G ((aX d z ((ss.take n)++([st]))).1) n)],_,_,.bool (decide ((G ((aX d z ((ss.take n)++([st]))).1) n)=tx)),_,_]) [4,6,12,15] [_] Y ⟨aD sn,λ_ _ _ Z hl hc=>qq (i:=(n:Int)) (j:=(1:Int)) Y (hl.D 5 40 Y hc) (Rel.aG (.int .i64 1)) (by have aF:((decide (dA d z ((ss.take n)++([st]))=(0:Int)))==true)=true:=hc;(try simp at aF);(first | omega | (simp;omega) | grind[aC])) (by have aF:((decide (dA d z ((ss.take n)++([st]))=(0:Int)))==true)=true:=hc;(try simp at aF);(first | omega | (simp;omega) | grind[aC])) Z,cN eC (hk:=λ(aF:(((decide (dA d z ((ss.take n)++([st]))=(0:Int)))&& (decide (((((aX d z ((ss.take n)++([st]))).1).length:Nat):Int)=((n+1:Nat):Int))))==true)=true)=>by(try simp at aF);first | omega | (simp;omega) | grind[aC]),bN hS V (Dd V (G ((aX d z ((ss.take n)++([st]))).1) n) tx) (cO func72),U⟩ ?_
 exact bL 0 (hE:=eB (by exact NU))
end
theorem Nd:c9 prog 31 0 0:=fO
theorem Ee:c9 prog 31 1 1:=fO
theorem Ef:c9 prog 31 2 2:=fO
theorem zq:c9 prog 31 3 3:=fO
theorem KM {J:WP} (V:aS J) (ss:List Stp) (z:Int) (bv:et ss) (lq:0<=z) (fV:z< (ss.length:Int)):Fn prog J 53 [.agg (bw ss),.int z] (.agg (bw (gK ss z.toNat))):=by
 obtain⟨n,rfl⟩:=Int.eq_ofNat_of_zero_le lq
 exact vp V ss n bv oz
theorem KA {J:WP} (V:aS J) (ss:List Stp) (c:cd) (bv:et ss) (gJ:0<=c.step) (fU:c.step< (ss.length:Int)) (jQ:∀ a∈c.args,0<=a/\a<c.step) (cY:c.args.length<=40) (hc1:c.dQ=2∨1<=c.args.length):Fn prog J 38 [.agg (bw ss),.agg (cw c)] (.agg (bw (cu ss c))):=by
 refine fE func38 λS w0 hS hJ0=>?_
 refine tw cc ?_
 have jR:=bv.1
 have cx:=bv.2.1
 have zR:=K3 bv jQ hc1
 refine aL (sy (.ptr (bw ss)) (λh=>gc Y (h.get 0 Y) (aK hS _ h.keep h.x _ aV) (jo V h.x)) ?_)
 refine sy (.ptr (cw c)) (λh=>gc Y (h.get 2 Y) (aK hS _ h.keep h.x _ aV) (jo V h.x)) ?_
 refine cz jI V Y Y Y (lb Y) λb1=>?_
 refine aA [0,1,2] U3 Y (nx (af (cG (ko ey V Y Y Y (lb Y) λv2=>?_))))
 refine ao 2 tb Y (fP (f:=bF) (m:=2) (s:=10) ([]:List Stp) ss (λ_=>Y) ow V hJ0 Y Y Y (lb Y) Y Y (λa w h=>(h.get 0 Y)) az az λv3=>?_)
 refine sq (.agg [.lit v3]) Y Y (lb Y) (λa _ h=>gd (us:=[a.eval (.tmp 13)]) vi Y yz (bX (h.get 0 Y) cE) Y h.x) ?_
 refine cz jI V Y Y Y (lb Y) λb4=>?_
 refine ck (b:=b4) (off:=0) (es:=[_]) (news:=[_]) V hJ0 fZ Y Y Y (lb Y) Y (λa w h=>⟨(h.get 0 Y),(h.get 1 Y)⟩) ?_
 refine aA [0,3,6,7,8] U5 Y (nx (ln 1 λcx=>?_))
 refine au tb V [0,2,3,1004] [_,_,.int (ss.length:Nat),.int (ss.length-1:Nat),_] [2,3] U4 Y ⟨aD ep,λ_ _ _ Z hl _=>qv (i:=ss.length) (j:=1) Y (hl.D 2 17 Y Y) (Rel.aG (.int .i64 1)) az az Z,U⟩ ?_
 refine af (ak tb V [0,1,2,3,1002] U3 U5 ?_)
 refine cj 4 ?_ ?_<;>intro hb1<;>try simp at hb1
 ·
  have e9:cu ss c=gK (ss.set c.step.toNat ⟨c.ae,c.args⟩) (ss.length-1):=by rw[<-zR,sO,if_pos hb1]
  refine af (tw bQ (λa w h=>k6 [OB.var b4 [.lit v3],OB.var b1 [br ([]:List Stp)]] (γ:=Value×Value×Value×Value) (λix'=>([.at b4 0,.lit v3,.ptr [lI c.step,lS c.ae,bS c.args,lI c.before,lI c.after],.int c.step,.ptr [lS c.ae,bS c.args,lI c.before,lI c.after],.str c.ae,.any,.ptr [bS c.args,lI c.before,lI c.after],.rd (bS c.args),.rd (bS c.args),.agg (bF (⟨c.ae,c.args⟩:Stp)),.lit (cA v3 (c.step.toNat*2)),.any]:List AV).getD ix' .any) (λ_=>true) [(5,λ_=>.at b4 0),(4,λ_=>.at b1 0),(6,λ_=>.int (ss.length-1:Nat))] (λ(b:List Bool) (g:Value×Value×Value×Value)=>(bif b.getD 2 false then []else(bif b.getD 1 false then [OB.row g.2.1 3 1 (([]:List Int).map bT)]else []))++((bif b.getD 4 false then [OB.row v3 88 2 (((([]:List Stp)++ss).set c.step.toNat (⟨c.ae,c.args⟩:Stp)).map bF)]else [OB.row v3 88 2 ((([]:List Stp)++ss).map bF)])++([OB.var b4 [.lit v3],OB.var b1 [br ([]:List Stp)]]))) (λk' g=>match k' with | 0=>g.1 | 1=>g.2.1 | 2=>g.2.2.1 | 3=>g.2.2.2 | _=>undef) [1,6,9,11,12] (undef,undef,undef,undef) (λ_=>Y) h V cP Y Y Y Y (λb g p hp=>(mem_append_right _ (mem_append_right _ hp))) ⟨oX Y λZ hl=>cv il Y (hl.env 0 5 _ Y Y) Z,bB Y,oX Y λZ hl=>ca Ee Y (hl.env 2 3 _ Y Y) Z,oX Y λZ hl=>bU fY Y (hl.D 2 24 Y Y) Z,oX Y λZ hl=>ca Ef Y (hl.env 2 3 _ Y Y) Z,oX Y λZ hl=>bU fd Y (hl.D 4 26 Y Y) Z,bB Y,oX Y λZ hl=>ca zq Y (hl.env 2 3 _ Y Y) Z,oX Y λZ hl=>bU iG Y (hl.D 7 29 Y Y) Z,bB Y,?_,bB Y,bB Y,U⟩ ⟨?y6,?y7,?L9,?Ma,?Mc,U⟩ ⟨.old 0 5 _,.old 1 4 _,.old 3 6 _,U⟩ ?QM))
  exact λ_ O' _=>⟨Y,λa _ _ Z hl _=>gd (us:=[a.eval (.tmp 27),a.eval (.tmp 31)]) q9 Y yz (bX (hl.D 5 27 Y Y) (bX (hl.D 9 31 Y Y) cE)) Y Z⟩
  case y6=>exact ew [[false,false,false,false,false],[false,true,false,false,false],[false,true,true,false,false]] yq Y Y Y Y ⟨λg _ w hk Z hl _=>bC (cg iF Y (aH Z (mo 1 Y)) (hl.D 0 22 Y Y) Y Z) λv w' hp=>⟨(v,g.2.1,g.2.2.1,g.2.2.2),dY,λ_=>rfl,hp.1,qH V hk Z hp.2.1⟩,λg _ w hk Z hl _=>bC (cg iF rfl (aH Z (mo 2 rfl)) (hl.D 0 22 rfl rfl) rfl Z) λv w' hp=>⟨(v,g.2.1,g.2.2.1,g.2.2.2),dY,λ_=>rfl,hp.1,qH V hk Z hp.2.1⟩,λg _ w hk Z hl _=>bC (cg iF rfl (aH Z (mo 1 rfl)) (hl.D 0 22 rfl rfl) rfl Z) λv w' hp=>⟨(v,g.2.1,g.2.2.1,g.2.2.2),dY,λ_=>rfl,hp.1,qH V hk Z hp.2.1⟩,U⟩
  case y7=>exact ew [[false,false,false,false,false],[true,false,false,false,false]] yq Y Y Y Y ⟨λg _ w hk Z _ _=>bC (vC dc V Y hk Z) λv w' hp=>⟨(g.1,v,g.2.2.1,g.2.2.2),dY,λ_=>rfl,True.intro,hp⟩,λg _ w hk Z _ _=>bC (vC dc V rfl hk Z) λv w' hp=>⟨(g.1,v,g.2.2.1,g.2.2.2),dY,λ_=>rfl,True.intro,hp⟩,U⟩
  case L9=>exact ew [[false,true,false,false,false],[true,true,false,false,false]] yq Y Y Y Y ⟨λg _ w hk Z hl hs=>bC (vB (f:=bT) ([]:List Int) c.args (λ_=>rfl) py hS V hJ0 Y hk Z (hs 1 6 _ 28 Y Y Y Y) (hl.D 8 30 Y Y) az az) λv w' ⟨hr,hp⟩=>⟨(g.1,g.2.1,v,g.2.2.2),dY,λ_=>rfl,hr,hp⟩,λg _ w hk Z hl hs=>bC (vB (f:=bT) ([]:List Int) c.args (λ_=>rfl) py hS V hJ0 Y hk Z (hs 1 6 _ 28 Y Y Y Y) (hl.D 8 30 Y Y) az az) λv w' ⟨hr,hp⟩=>⟨(g.1,g.2.1,v,g.2.2.2),dY,λ_=>rfl,hr,hp⟩,U⟩
  case Ma=>exact ew [[true,true,true,false,false]] yq Y Y Y Y ⟨λg _ w hk Z hl _=>bC (eQ (i:=c.step) ey Y (aH Z (mo 0 Y)) (hl.D 1 23 Y Y) (hl.D 3 25 Y Y) az (by rw[length_map];exact az) Z) λv w' hp=>⟨(g.1,g.2.1,g.2.2.1,v),dY,λ_=>rfl,hp.1,qH V hk Z hp.2.1⟩,U⟩
  case Mc=>exact ew [[true,true,true,true,false]] yq Y Y Y Y ⟨λg _ w hk Z hl _=>bC (DF (f:=bF) (xs:=([]:List Stp)++ss) (i:=c.step.toNat) (⟨c.ae,c.args⟩:Stp) V hJ0 n9 Y hk Z (hl.D 11 33 Y Y) (hl.D 10 32 Y Y) az Y) λv w' hp=>⟨g,λ_ _=>rfl,λe=>(by cases e),True.intro,hp⟩,U⟩
  clear a w h
  rintro⟨x5,v6,v7,x8⟩
  dsimp only[List.map]
  refine nx (tw bQ (tw bQ ?_))
  refine tw (λh=>mf (j:=0) (cs':=[br ((([]:List Stp)++ss).set c.step.toNat (⟨c.ae,c.args⟩:Stp))]) hS Y Y h) (aL ?_)
  refine sy (.agg (bw ((([]:List Stp)++ss).set c.step.toNat (⟨c.ae,c.args⟩:Stp)))) (λh=>iX (ds:=[br ((([]:List Stp)++ss).set c.step.toNat (⟨c.ae,c.args⟩:Stp))]) eY Y (aH h.x (mo 0 Y)) (h.get 0 Y) Y Y h.x) ?_
  refine ao 1 tb Y (sy (.agg (bw (gK ((([]:List Stp)++ss).set c.step.toNat (⟨c.ae,c.args⟩:Stp)) (ss.length-1)))) (λh=>cQ (vp V ((([]:List Stp)++ss).set c.step.toNat (⟨c.ae,c.args⟩:Stp)) (ss.length-1) (by first | exact ub bv (k:=c.step.toNat) (s:=⟨c.ae,c.args⟩) ⟨cY,λa ha=>by have:=jQ a ha;omega⟩ | (rw[e1];exact nR)) (by first | (show ss.length-1< (ss.set _ _).length;rw[List.length_set];omega) | (rw[e1,length_map];omega))) (cO func53) Y (aK hS _ h.keep h.x) (h.x.1) (aq (h.get 1 Y) (aq (h.get 0 Y) aP)) (jo V h.x)) ?_)
  refine kw bQ (ck (b:=b1) (off:=0) (es:=[_]) (news:=[_]) V hJ0 fZ Y Y Y (lb Y) Y (λa w h=>⟨(h.get 4 Y),(h.get 0 Y)⟩) ?_)
  exact aA [4] [_] Y (nx (aZ (λa w h=>jU (m:=0) Y eY h Y Y (show(_:List CD)=[br (cu ss c)]from by(first | (rw[e9];done) | (rw[e9];rfl) | rw[e9,<-e1])<;>rfl))))
 ·
  have h1:1<=c.args.length:=by rcases hc1 with h | h;exact absurd h hb1;exact h
  refine aj (nx (af (ak tb V [0,1,2,3,1003] U4 U5 ?_)))
  refine cj 4 ?_ ?_<;>intro hb2<;>try simp at hb2
  ·
   have hg:=jQ _ (aC (xs:=c.args) (k:=0) oz)
   have e9:cu ss c=gK ss (G c.args 0).toNat:=by rw[<-zR,sO,if_neg hb1,if_pos oz]
   refine tw bQ (tw (λh=>mf (j:=0) (cs':=[br (([]:List Stp)++ss)]) hS Y Y h) ?_)
   refine af (tw bQ (λa w h=>k6 [OB.var b4 [br (([]:List Stp)++ss)]] (γ:=Unit) (λix'=>([.agg (bw (([]:List Stp)++ss)),.ptr [bS c.args,lI c.before,lI c.after],.rd (bS c.args),.ptr [lI (G c.args 0)],.int (G c.args 0),.agg (bw (gK (([]:List Stp)++ss) (G c.args 0).toNat)),.any]:List AV).getD ix' .any) (λ_=>true) [(4,λ_=>.at b1 0)] (λ(b:List Bool) (g:Unit)=>(bif b.getD 0 false then [OB.var b1 [br (gK (([]:List Stp)++ss) (G c.args 0).toNat)]]else [OB.var b1 [br ([]:List Stp)]])++([OB.var b4 [br (([]:List Stp)++ss)]])) (λ_ _=>undef) [6] () (λ_=>Y) h V cP Y Y Y Y (λb g p hp=>(mem_append_right _ hp)) ⟨λ_ O' cf=>⟨Y,λ_ _ _ Z hl _=>iX (ds:=[br (([]:List Stp)++ss)]) eY Y (aH Z (cf _ (mo 0 Y))) (hl.env 0 5 _ Y Y) Y Y Z⟩,oX Y λZ hl=>ca zq Y (hl.env 2 3 _ Y Y) Z,oX Y λZ hl=>bU iG Y (hl.D 1 42 Y Y) Z,?_,oX Y λZ hl=>bU fY Y (hl.D 3 44 Y Y) Z,?_,bB Y,U⟩ ⟨?y8,U⟩ ⟨.old 1 4 _,U⟩ ?QO))
   exact oX Y λZ hl=>cb (i:=((0:Nat):Int)) dc Y (hl.D 2 43 Y Y) (Rel.aG (.int .i64 0)) bM (cq (xs:=c.args) (k:=0) az) Y Z
   exact oY Y λhk Z hl=>cQ (KM V (([]:List Stp)++ss) (G c.args 0) (by exact bv) oz (by show G c.args 0< (ss.length:Int);omega)) (cO func53) Y (aK hS _ hk Z) (Z.1) (aq (hl.D 0 41 Y Y) (aq (hl.D 4 45 Y Y) aP)) (jo V Z)
   case y8=>exact ew [[false]] yq Y Y Y Y ⟨λg _ w hk Z hl _=>(by obtain⟨eJ,hv2,ed⟩:=jm (hl.D 5 46 Y Y);exact bC (ii (off:=0) (news:=[_]) (es:=[_]) (us:=eJ) V hJ0 fZ Y hk Z (hl.env 1 4 _ Y Y) (by rw[hv2];rfl) ed (lb Y) Y) λv w' hp=>⟨g,λ_ _=>rfl,λe=>(by cases e),True.intro,hp⟩),U⟩
   clear a w h
   intro _
   dsimp only[List.map]
   exact nx (aZ (λa w h=>jU (m:=0) Y eY h Y Y (show(_:List CD)=[br (cu ss c)]from by(first | (rw[e9];done) | (rw[e9];rfl) | rw[e9,<-e1])<;>rfl)))
  ·
   have hg:=jQ _ (aC (xs:=c.args) (k:=0) oz)
   have nR:=Gp bv hg.1 hg.2
   refine aj (nx (af (ak tb V [0,1,2,3,1000] [_] U5 ?_)))
   refine ax (lpo (ι:=Nat×(List Stp)) (λ(k,out)=>(k<=ss.length)/\(out=jf (jE c) ss k)) (λ(_,out)=>[OB.var b4 [.lit v3],OB.row v3 88 2 (out.map bF),OB.var b1 [br ([]:List Stp)]]) (λ(k,_)=>[(7,.int (k:Nat))]) (λ(k,_)=>ss.length-k) (r5 []) U4 (0,([]:List Stp)++ss) ⟨aI,wU.symm⟩ ?_)
   rintro⟨k,out⟩ ⟨aQ,ah⟩
   refine af (lZ tb V (r5 [1004]) [_,.at b4 0,.lit v3,.int (out.length:Nat),_] [1,2,3] U6 Y ⟨λ_ _ _ Z hl _=>cv il Y (hl.env 0 5 _ Y Y) Z,λ_ _ _ Z hl _=>cg iF Y (ug Z (mo 0 Y)) (hl.D 1 48 Y Y) Y Z,λ_ _ _ Z hl _=>kh ep Y (kB hS Z (mo 1 Y) (hl.D 2 49 Y Y)) Z,U⟩ ?_)
   refine cj 5 ?_ ?_<;>intro aE<;>try simp at aE
   ·
    have e5:out.length=ss.length:=by rw[ah,qf]
    have e6:=wY bv (show k<ss.length by omega)
    have e8:G out k=G ss k:=by rw[ah,rP oz]
    have e7:(G out k).args.length<=40:=by rw[e8];exact e6
    refine aj (nx (af (ax (af (cG (ko dc V Y Y Y (lb Y) λv9=>?_))))))
    refine sy (.at b4 0) (λh=>cv il Y (h.get 1 Y) h.x) ?_
    refine sy (.lit v3) (λh=>cg iF Y (aH h.x (mo 1 Y)) (h.get 0 Y) Y h.x) ?_
    refine ao 1 tb Y (sy (.lit (cA v3 (k*2))) (λh=>eQ (i:=(k:Int)) ey Y (aH h.x (mo 2 Y)) (h.get 1 Y) (h.get 0 Y) bM (by rw[length_map];exact Int.ofNat_lt.2 az) h.x) ?_)
    refine sy (.lit (cA v3 (k*2+1))) (λh=>xf mC Y (aH h.x (mo 2 Y)) (by rw[length_map];exact Nat.lt_of_le_of_lt (Nat.zero_le k) az) (h.get 0 Y) h.x) ?_
    refine sy (.rd (bS ((G out k).args))) (λh=>HF (i:=k) (j:=1) iG Y (aH h.x (mo 2 Y)) (h.get 0 Y) (ir (xs:=out) (k:=k) az) Y h.x) ?_
    refine fP (f:=bT) (m:=6) (s:=54) ([]:List Int) ((G out k).args) (λ_=>Y) py V hJ0 Y Y Y (lb Y) Y Y (λa w h=>(h.get 0 Y)) az az λv10=>?_
    refine ao 1 tb Y (aA [0,2,9,10,11,12,13] U7 Y ?_)
    refine nx (ln 1 λhl2=>?_)
    refine af (ak tb V [0,2,3,4,5,6,1000] [_] U7 ?_)
    refine ax (lpo (ι:=Nat×(List Int)) (λ(q,nums)=>(q<=(G ss k).args.length)/\(nums=jf (me c) (G ss k).args q)) (λ(_,nums)=>[OB.row v10 3 1 (nums.map bT),OB.var b4 [.lit v3],OB.row v3 88 2 (out.map bF),OB.var b1 [br ([]:List Stp)]]) (λ(q,_)=>[(9,.int (q:Nat))]) (λ(q,_)=>(G ss k).args.length-q) (r7 []) U6 (0,([]:List Int)++((G out k).args)) ⟨aI,by show(G out k).args=_;rw[e8,wU]⟩ ?_)
    rintro⟨q,nums⟩ ⟨fx,bi⟩
    refine af (lZ tb V (r7 [1003]) [_,_,.int (nums.length:Nat),_] [2] U8 Y ⟨λ_ _ _ Z hl _=>kh eW Y (kB hS Z (mo 0 Y) (hl.D 1 63 Y Y)) Z,U⟩ ?_)
    refine cj 7 ?_ ?_<;>intro bh<;>try simp at bh
    ·
     have e4:nums.length=(G ss k).args.length:=by rw[bi,qf]
     have e10:G nums q=G (G ss k).args q:=by rw[bi,rP oz]
     refine aj (nx (af (ax (au tb V (r7 [1006]) [_,_,.lit (cA v10 (q*1)),.int (G nums q),_,_,_] [2,3] U8 Y ⟨λ_ _ _ Z hl _=>eQ (i:=(q:Int)) dc Y (aH Z (mo 0 Y)) (hl.D 0 68 Y Y) (hl.D 1 69 Y Y) bM (by rw[length_map];exact Int.ofNat_lt.2 az) Z,λ_ _ _ Z hl _=>mZ (i:=q) fY Y (aH Z (mo 0 Y)) (hl.D 2 70 Y Y) (ir (xs:=nums) (k:=q) az) Z,U⟩ ?_))))
     refine cj 7 ?_ ?_<;>intro bV<;>try simp at bV
     ·
      rw[e10]at bV
      refine cG (ao 4 tb Y (sy (.ptr [lI (G c.args 0)]) (λh=>cb (i:=((0:Nat):Int)) dc Y (h.get 0 Y) (Rel.aG (.int .i64 0)) bM (cq (xs:=c.args) (k:=0) az) Y h.x) ?_))
      refine ao 1 tb Y (sy (.lit (cA v10 (q*1))) (λh=>eQ (i:=(q:Int)) dc Y (aH h.x (mo 0 Y)) (h.get 5 Y) (h.get 4 Y) bM (by rw[length_map];exact Int.ofNat_lt.2 az) h.x) ?_)
      refine qF (i:=q) V hJ0 qA Y Y Y (by rw[length_map];exact az) (λa w h=>⟨(h.get 0 Y),(h.get 1 Y)⟩) ?_
      rw[show(nums.map bT).set q [lI (G c.args 0)]=(nums.set q (G c.args 0)).map bT from map_set.symm]
      refine aA [3,7,8,9,10,11,12,13] U8 Y (nx (ln 0 λhl3=>?_))
      refine aT tb V [1,2,3,4,5,6,1002] [_,.int (q+1:Nat),_] [1] U7 Y ⟨aM,U⟩ ?_
      exact bq (q+1,nums.set q (G c.args 0)) (r7 []) ⟨oz,by first | (rw[bi,<-qg (f:=me c) oz];simp[me,bV];done) | (rw[bi];exact wT oz (if_neg bV))⟩
     ·
      rw[e10]at bV
      refine aj (nx (aT tb V (r6 [1002]) [_,.int (q+1:Nat),_] [1] U7 Y ⟨aM,U⟩ ?_))
      exact bq (q+1,nums) (r7 []) ⟨oz,by first | (rw[bi,<-qg (f:=me c) oz];simp[me,bV];done) | (rw[bi];exact wT oz (if_neg bV))⟩
    ·
     have e4:nums.length=(G ss k).args.length:=by rw[bi,qf]
     refine aW (nx (tw (λh=>dV hS h (m:=0) (s:=8) Y) (cG (sq (.at b4 0) Y Y (lb Y) (λ_ _ h=>cv il Y (h.get 1 Y) h.x) ?_))))
     refine sy (.lit v3) (λh=>cg iF Y (aH h.x (mo 0 Y)) (h.get 0 Y) Y h.x) ?_
     refine ao 2 tb Y (sy (.lit (cA v3 (k*2))) (λh=>eQ (i:=(k:Int)) ey Y (aH h.x (mo 1 Y)) (h.get 2 Y) (h.get 1 Y) bM (by rw[length_map];exact Int.ofNat_lt.2 az) h.x) ?_)
     refine sy (.lit (cA v3 (k*2+1))) (λh=>xf mC Y (aH h.x (mo 1 Y)) (by rw[length_map];exact Nat.lt_of_le_of_lt (Nat.zero_le k) az) (h.get 0 Y) h.x) ?_
     refine kw bQ (UW (i:=k) (j:=1) (c:=bS nums) V hJ0 qz Y Y Y (ir (xs:=out) (k:=k) az) (lb Y) (λa w h=>⟨(h.get 0 Y),(h.get 2 Y)⟩) ?_)
     rw[show(out.map bF).set k ((bF (G out k)).set 1 (bS nums))=(out.set k (⟨(G out k).ae,nums⟩:Stp)).map bF from by rw[map_set];rfl]
     refine aA [2,6,7,8,9,10,11] U7 Y (nx (ln 0 λtF=>?_))
     refine aT tb V [2,3,4,5,1002] [_,.int (k+1:Nat),_] [1] U5 Y ⟨aM,U⟩ ?_
     refine kw dq (kw bQ ?_)
     exact kw dq (bq (k+1,out.set k (⟨(G out k).ae,nums⟩:Stp)) (r5 []) ⟨oz,by rw[ah,rP oz,bi,wS (l:=(G ss k).args) (q:=q) oz,Id,qg oz]⟩)
   ·
    have e5:out.length=ss.length:=by rw[ah,qf]
    have e1:out=ss.map (jE c):=by rw[ah,wS (l:=ss) (q:=k) oz]
    have e9:cu ss c=gK (ss.map (jE c)) (ss.length-1):=by rw[<-zR,sO,if_neg hb1,if_neg oz]
    refine aW (nx (tw bQ (tw (λh=>mf (j:=0) (cs':=[br out]) hS Y Y h) ?_)))
    refine aL (sy (.agg (bw out)) (λh=>iX (ds:=[br out]) eY Y (aH h.x (mo 0 Y)) (h.get 0 Y) Y Y h.x) ?_)
    refine ao 1 tb Y (sy (.agg (bw (gK out (ss.length-1)))) (λh=>cQ (vp V out (ss.length-1) (by first | exact ub bv (k:=c.step.toNat) (s:=⟨c.ae,c.args⟩) ⟨cY,λa ha=>by have:=jQ a ha;omega⟩ | (rw[e1];exact nR)) (by first | (show ss.length-1< (ss.set _ _).length;rw[List.length_set];omega) | (rw[e1,length_map];omega))) (cO func53) Y (aK hS _ h.keep h.x) (h.x.1) (aq (h.get 1 Y) (aq (h.get 0 Y) aP)) (jo V h.x)) ?_)
    refine kw bQ (ck (b:=b1) (off:=0) (es:=[_]) (news:=[_]) V hJ0 fZ Y Y Y (lb Y) Y (λa w h=>⟨(h.get 4 Y),(h.get 0 Y)⟩) ?_)
    exact aA [4] [_] Y (nx (aZ (λa w h=>jU (m:=0) Y eY h Y Y (show(_:List CD)=[br (cu ss c)]from by(first | (rw[e9];done) | (rw[e9];rfl) | rw[e9,<-e1])<;>rfl))))
theorem Jx:fR prog 31 6:=aO
theorem Nf:c9 prog 31 4 4:=fO
theorem Ng:c9 prog 31 5 5:=fO
section
variable {J:WP} (V:aS J)
include V
theorem KJ (d:Db) (z:Int) (ss:List Stp) (y:Int) (st:Stp) (tx:List BA) (hw:∀ f∈d.ab,f.wide.length*32<=140737488351232) (hap:∀ f∈d.ab,f.apart.length<=100000) (Pk:0<=y) (rK:y< (ss.length:Int)) (E7:ss.length<=2000):Fn prog J 74 [.agg (bZ d),.int z,.agg (bw ss),.int y,.agg (bF st),.rd (ai tx)] (.bool (pS d z ss y.toNat st tx)):=by
 obtain⟨n,rfl⟩:=Int.eq_ofNat_of_zero_le Pk
 exact KI V d z ss n st tx hw hap oz E7
theorem KD (d:Db) (z:Int) (ss:List Stp) (ts:List (List BA)) (c:cd) (hw:∀ f∈d.ab,f.wide.length*32<=140737488351232) (hr:dF d z ss=0) (jT:ts=(aX d z ss).1) (gJ:0<=c.step) (fU:c.step< (ss.length:Int)):Fn prog J 37 [.agg (bZ d),.int z,.agg (bw ss),.rd (ct ts),.agg (cw c)] (.bool (kt (⟨d,z.toNat,ss,ts,[]⟩:Jb) c)):=by
 refine fE func37 λS w0 hS hJ0=>?_
 refine tw cc (ln 3 λcx=>?_)
 have bv:=(mQ hr).2
 have hap:=Dn (mQ hr).1.pD
 have hlt:ts.length=ss.length:=by rw[jT];exact(mQ hr).1.len
 have cx:=bv.2.1
 have Xf:z.toNat<d.ab.length:=(mQ hr).1.at'
 have lq:=(ou (ns (n2 hr).1).1).2.1
 refine au tb V [1,3,1000,1001,1002] [.ptr (bZ d),.ptr (bw ss),.ptr (cw c),_] [0,1,2] U5 Y ⟨cW hS V,cW hS V,cW hS V,U⟩ ?_
 refine af (ak tb V (r5 [1000]) [_] U6 ?_)
 refine ax (lpo (ι:=Nat) (λk=>(k<=c.args.length)/\(∀ j,j<k->gT c (G c.args j)=false)) (λ_=>[]) (λk=>[(11,.int (k:Nat))]) (λk=>c.args.length-k) (r6 []) U5 0 ⟨aI,λj hj=>by omega⟩ ?_)
 rintro k ⟨aQ,ah⟩
 refine af (au tb V (r6 [1002,1004]) (V3 [.int (c.args.length:Nat),_]) [3] U8 Y ⟨aD eW,U⟩ ?_)
 refine ln 6 λ_=>?_
 refine cj 7 ?_ ?_<;>intro hb1<;>try simp at hb1
 ·
  refine aj (nx (af (ax (au tb V (r6 [1015]) (V3 [.ptr [lI (G c.args k)],_,_,_,_,_,_,.ptr [lI (G c.args k)],_,_,_,_,_]) [3,10] U7 Y ⟨bn dc,cN dc (hk:=λ(aF:((decide ((G c.args k)< (0:Int)))==false)=true)=>by(try simp at aF);first | omega | (simp;omega) | grind[aC]),U⟩ ?_))))
  refine cj 6 ?_ ?_<;>intro hb2
  ·
   have eF:kt (⟨d,z.toNat,ss,ts,[]⟩:Jb) c=false:=MO (JE (c:=c) (k:=k) oz hb2)
   refine ak tb V [1000] [_] [_] ?_
   exact bL 0 (hE:=eB (by first | (rw[eF];done) | exact vP (j:=(⟨d,z.toNat,ss,ts,[]⟩:Jb)) pV aE))
  ·
   refine aj (nx (aT tb V (r5 [1002]) [_,.int (k+1:Nat),_] [1] U6 Y ⟨aM,U⟩ ?_))
   exact bq (k+1) (r6 []) ⟨oz,cF ah hb2⟩
 ·
  have pV:c.args.any (gT c)=false:=JF λj hj=>ah j oz
  have gI:=tH pV
  refine aW (nx (af (ak tb V (r5 [1002]) U3 U6 ?_)))
  refine cj 5 ?_ ?_<;>intro aE<;>try simp at aE
  ·
   refine au tb V [1024] [_,_,.int (c.args.length:Nat),_,_,_,_,_,_,_,_,_,_,.ptr [lI (G c.args 0)],_,.ptr [ai (G ts (G c.args 0).toNat)],_,_,_,_,.ptr [ai (G ts c.step.toNat)],_,.bool (decide ((G ts (G c.args 0).toNat)=(G ts c.step.toNat))),_,_] [2,13,15,20,22] [_] Y ⟨aD eW,cN (k:=0) dc (hk:=λ(aF:(((decide ((c.args.length:Int)=(1:Int)))&& (decide (c.ae=(⟨#[]⟩:BA))))==true)=true)=>by(try simp at aF);first | omega | (simp;omega) | grind[aC]),λ_ _ _ Z hl hc=>cb (i:=(G c.args 0)) eC Y (hl.D 10 49 Y hc) (hl.D 14 53 Y hc) (by have aF:(((decide ((c.args.length:Int)=(1:Int)))&& (decide (c.ae=(⟨#[]⟩:BA))))==true)=true:=hc;(try simp at aF);(first | omega | (simp;omega) | grind[aC])) (n3 (xs:=ts) (i:=(G c.args 0)) (by have aF:(((decide ((c.args.length:Int)=(1:Int)))&& (decide (c.ae=(⟨#[]⟩:BA))))==true)=true:=hc;(try simp at aF);(first | omega | (simp;omega) | grind[aC])) (by have aF:(((decide ((c.args.length:Int)=(1:Int)))&& (decide (c.ae=(⟨#[]⟩:BA))))==true)=true:=hc;(try simp at aF);(first | omega | (simp;omega) | grind[aC]))) Y Z,λ_ _ _ Z hl hc=>cb (i:=c.step) eC Y (hl.D 17 56 Y hc) (hl.D 19 58 Y hc) (by have aF:(((decide ((c.args.length:Int)=(1:Int)))&& (decide (c.ae=(⟨#[]⟩:BA))))==true)=true:=hc;(try simp at aF);(first | omega | (simp;omega) | grind[aC])) (n3 (xs:=ts) (i:=c.step) (by have aF:(((decide ((c.args.length:Int)=(1:Int)))&& (decide (c.ae=(⟨#[]⟩:BA))))==true)=true:=hc;(try simp at aF);(first | omega | (simp;omega) | grind[aC])) (by have aF:(((decide ((c.args.length:Int)=(1:Int)))&& (decide (c.ae=(⟨#[]⟩:BA))))==true)=true:=hc;(try simp at aF);(first | omega | (simp;omega) | grind[aC]))) Y Z,bN hS V (Dd V (G ts (G c.args 0).toNat) (G ts c.step.toNat)) (cO func72),U⟩ ?_
   exact bL 0 (hE:=eB (by first | (rw[eF];done) | exact vP (j:=(⟨d,z.toNat,ss,ts,[]⟩:Jb)) pV aE))
  ·
   refine aj (nx (au tb V (r5 [1004]) (V3 [.int (bP d c.ae),_]) [3] U6 Y ⟨bN hS V (KC V d c.ae) (cO func73),U⟩ ?_))
   refine af (au tb V (r5 [1019]) (qU [.int (c.args.length:Nat),_,_,_,.ptr (aY (G d.ab (bP d c.ae).toNat)),_,_,.int (((G d.ab (bP d c.ae).toNat).aa).length:Nat),_,_]) [10,14,17] U6 Y ⟨aD eW,λ_ _ _ Z hl hc=>cb (i:=bP d c.ae) fK Y (hl.D 12 79 Y hc) (hl.D 13 80 Y hc) (by have aF:(((decide (bP d c.ae< (0:Int)))|| (decide (z<=bP d c.ae)))==false)=true:=hc;(try simp at aF);(first | omega | (simp;omega) | grind[aC])) (n3 (xs:=d.ab) (i:=bP d c.ae) (by have aF:(((decide (bP d c.ae< (0:Int)))|| (decide (z<=bP d c.ae)))==false)=true:=hc;(try simp at aF);(first | omega | (simp;omega) | grind[aC])) (by have aF:(((decide (bP d c.ae< (0:Int)))|| (decide (z<=bP d c.ae)))==false)=true:=hc;(try simp at aF);(first | omega | (simp;omega) | grind[aC]))) Y Z,aD cT,U⟩ ?_)
   refine cj 5 ?_ ?_<;>intro bh
   ·
    have eF:kt (⟨d,z.toNat,ss,ts,[]⟩:Jb) c=false:=MP pV aE (by simp only[Bool.or_eq_true,decide_eq_true_eq,Bool.not_eq_true',decide_eq_false_iff_not]at bh;(try dsimp only);omega)
    refine ak tb V [1000] [_] [_] ?_
    exact bL 0 (hE:=eB (by first | (rw[eF];done) | exact vP (j:=(⟨d,z.toNat,ss,ts,[]⟩:Jb)) pV aE))
   ·
    simp only[Bool.or_eq_false_iff,decide_eq_false_iff_not,Bool.not_eq_false',decide_eq_true_eq]at bh
    have eF:=MQ hr jT pV aE gJ fU oz oz oz
    refine aj (nx (au tb V [1014,1016] (V9 [.agg (bF (⟨c.ae,c.args⟩:Stp)),_,_,_,.ptr [ai (G ts c.step.toNat)],_,.bool (pS d z ss c.step.toNat (⟨c.ae,c.args⟩:Stp) (G ts c.step.toNat)),_]) [9,13,15] U2 Y ⟨λa _ _ Z hl _=>gd (us:=[a.eval (.tmp 93),a.eval (.tmp 95)]) q9 Y yz (bX (hl.D 6 93 Y Y) (bX (hl.D 8 95 Y Y) cE)) Y Z,wD eC,bN hS V (KJ V d z ss c.step (⟨c.ae,c.args⟩:Stp) (G ts c.step.toNat) (by exact hw) (by exact hap) (by exact gJ) (by exact fU) (by exact cx)) (cO func74),U⟩ ?_))
    refine ln 0 λ_=>?_
    exact bL 1 (hE:=eB (by first | (rw[eF];done) | exact vP (j:=(⟨d,z.toNat,ss,ts,[]⟩:Jb)) pV aE))
theorem Kl (d:Db) (z:Int) (ss:List Stp) (c:cd) (hw:∀ f∈d.ab,f.wide.length*32<=140737488351232) (cY:c.args.length<=40):Fn prog J 12 [.agg (bZ d),.int z,.agg (bw ss),.agg (cw c)] (.bJ [.agg (bw ((da d z ss c).1)),.int ((da d z ss c).2)]):=by
 refine fE func12 λS w0 hS hJ0=>?_
 refine tw cc (aL ?_)
 refine sy (.ptr (bZ d)) (λh=>gc Y (h.get 0 Y) (aK hS _ h.keep h.x _ aV) (jo V h.x)) ?_
 refine sy (.ptr (bw ss)) (λh=>gc Y (h.get 3 Y) (aK hS _ h.keep h.x _ aV) (jo V h.x)) ?_
 refine sy (.ptr (cw c)) (λh=>gc Y (h.get 5 Y) (aK hS _ h.keep h.x _ aV) (jo V h.x)) ?_
 refine cz jI V Y Y Y (lb Y) λb1=>?_
 refine ao 1 tb (env':=[(9,_),(8,_),(7,_),(6,_),(4,_),(0,_),(1,_),(2,_),(3,_)]) Y (aA [1,2,3,4,6] U5 Y ?_)
 refine nx (au tb V (r5 [1005,1007,1008]) (V3 [.bJ [.rd (ct (if dF d z ss=0 then(aX d z ss).1 else [])),.int (dF d z ss)],_,_,_,_,_]) [3] U8 Y ⟨bN hS V (Kw V d z ss (by exact hw)) (cO func36),U⟩ ?_)
 refine ln 5 λ_=>?_
 refine af (ak tb V (r5 [6,7,1001]) U2 U8 ?_)
 refine cj 7 ?_ ?_<;>intro hb1<;>try simp at hb1
 ·
  have eA:da d z ss c=([],dF d z ss):=if_pos hb1
  refine aL (sy (.agg (bw ([]:List Stp))) (λh=>gg (ps:=[]) (us:=[.slice none 0 0]) mw Y yz f9 Y (dP (.nil _ _ aI) cE) h.x) ?_)
  refine ao 1 tb (env':=[(23,_),(22,_),(8,_),(7,_),(6,_),(4,_),(1,_),(10,_),(11,_),(21,_)]) Y (ck (b:=b1) (off:=0) (es:=[_]) (news:=[_]) V hJ0 fZ Y Y Y (lb Y) Y (λa w h=>⟨(h.get 2 Y),(h.get 1 Y)⟩) ?_)
  refine ao 1 tb (env':=[(9,_),(23,_),(22,_),(8,_),(7,_),(6,_),(4,_),(1,_),(10,_),(11,_),(21,_)]) Y (aA [0,3] U2 Y ?_)
  exact nx (aZ (λa w h=>iS (m:=1) (q:=0) Y eY h Y Y (show(_:List CD)=[br ((da d z ss c).1)]from by(rw[eA])<;>rfl) Y (eI (by rw[eA]))))
 ·
  have jT:(if dF d z ss=0 then(aX d z ss).1 else [])=(aX d z ss).1:=if_pos hb1
  have bv:=(mQ hb1).2
  refine aj (nx (af (ak tb V (r6 [1007]) U8 U7 ?_)))
  refine cj 6 ?_ ?_<;>intro hb2
  ·
   have eA:da d z ss c=([],1):=by rw[da,if_neg (by simp[hb1]),if_pos (by simpa using hb2)]
   refine aL (sy (.agg (bw ([]:List Stp))) (λh=>gg (ps:=[]) (us:=[.slice none 0 0]) mw Y yz f9 Y (dP (.nil _ _ aI) cE) h.x) ?_)
   refine ck (b:=b1) (off:=0) (es:=[_]) (news:=[_]) V hJ0 fZ Y Y Y (lb Y) Y (λa w h=>⟨(h.get 1 Y),(h.get 0 Y)⟩) ?_
   refine ao 1 tb (env':=[(9,_),(32,_),(8,_),(7,_),(6,_),(4,_),(1,_),(10,_),(31,_)]) Y (aA [0,2] U2 Y ?_)
   exact nx (aZ (λa w h=>iS (m:=1) (q:=0) Y eY h Y Y (show(_:List CD)=[br ((da d z ss c).1)]from by(rw[eA])<;>rfl) Y (eI (by rw[eA]))))
  ·
   have oN:¬ (¬ c.dQ=1/\¬ c.dQ=2):=by simpa using hb2
   refine aj (nx (af (au tb V (r6 [1010]) (V8 [.int (ss.length:Nat),_,_]) [8] U7 Y ⟨aD ep,U⟩ ?_)))
   refine cj 6 ?_ ?_<;>intro aE
   ·
    have eA:da d z ss c=([],3):=by rw[da,if_neg (by simp[hb1]),if_neg oN,if_pos (by simpa using aE)]
    refine aL (sy (.agg (bw ([]:List Stp))) (λh=>gg (ps:=[]) (us:=[.slice none 0 0]) mw Y yz f9 Y (dP (.nil _ _ aI) cE) h.x) ?_)
    refine ck (b:=b1) (off:=0) (es:=[_]) (news:=[_]) V hJ0 fZ Y Y Y (lb Y) Y (λa w h=>⟨(h.get 1 Y),(h.get 0 Y)⟩) ?_
    refine ao 1 tb (env':=[(9,_),(44,_),(8,_),(7,_),(6,_),(4,_),(1,_),(10,_),(43,_)]) Y (aA [0,2] U2 Y ?_)
    exact nx (aZ (λa w h=>iS (m:=1) (q:=0) Y eY h Y Y (show(_:List CD)=[br ((da d z ss c).1)]from by(rw[eA])<;>rfl) Y (eI (by rw[eA]))))
   ·
    have gJ:0<=c.step/\c.step< (ss.length:Int):=by simpa using aE
    refine aj (nx (af (au tb V [0,1,2,1006] (V5 [.bool (kt (⟨d,z.toNat,ss,(if dF d z ss=0 then(aX d z ss).1 else []),[]⟩:Jb) c),_]) [5] U4 Y ⟨bN hS V (KD V d z ss (if dF d z ss=0 then(aX d z ss).1 else []) c (by exact hw) (by exact hb1) (by exact jT) (by exact gJ.1) (by exact gJ.2)) (cO func37),U⟩ ?_)))
    refine cj 3 ?_ ?_<;>intro bh
    ·
     rw[jT]at bh
     have eA:da d z ss c=([],260):=by rw[da,if_neg (by simp[hb1]),if_neg oN,if_neg oz,if_pos (MR (by simpa using bh))]
     refine aL (sy (.agg (bw ([]:List Stp))) (λh=>gg (ps:=[]) (us:=[.slice none 0 0]) mw Y yz f9 Y (dP (.nil _ _ aI) cE) h.x) ?_)
     refine ck (b:=b1) (off:=0) (es:=[_]) (news:=[_]) V hJ0 fZ Y Y Y (lb Y) Y (λa w h=>⟨(h.get 1 Y),(h.get 0 Y)⟩) ?_
     refine ao 1 tb (env':=[(9,_),(52,_),(8,_),(7,_),(6,_),(51,_)]) Y (aA [0,2] U2 Y ?_)
     exact nx (aZ (λa w h=>iS (m:=1) (q:=0) Y eY h Y Y (show(_:List CD)=[br ((da d z ss c).1)]from by(rw[eA])<;>rfl) Y (eI (by rw[eA]))))
    ·
     rw[jT]at bh
     have ja:=MS (by simpa using bh)
     have hc1:c.dQ=2∨1<=c.args.length:=by have:=ja.2.1;omega
     refine aj (nx (aL (ao 2 tb (env':=[(54,_),(53,_),(8,_),(7,_),(6,_),(51,_)]) Y (sy (.agg (bw (cu ss c))) (λh=>cQ (KA V ss c (by exact bv) (by exact gJ.1) (by exact gJ.2) (by exact ja.1) (by exact cY) (by exact hc1)) (cO func38) Y (aK hS _ h.keep h.x) (h.x.1) (aq (h.get 1 Y) (aq (h.get 0 Y) aP)) (jo V h.x)) ?_))))
     refine iJ (cs:=bw (cu ss c)) I7 Y Y Y (lb Y) Y Y Y dz (m:=0) Y Y (λa w h=>aK hS _ h.keep h.x _ aV) (λa w h w' hk'=>fi V _ _ hk' h.x) ?_
     refine aA [0,4,5,6] U4 Y (nx (af (au tb V [0,1,1019] (V3 [.int ((dr ss):Nat),_,_,_,_,_,_,.int ((cu ss c).length:Nat),_,_,_,_,_,_,_,_,_]) [3,10] U3 Y ⟨bN hS V (Kx V ss (by exact bv)) (cO func26),aD ep,U⟩ ?_)))
     refine cj 2 ?_ ?_<;>intro bV
     ·
      simp only[Bool.or_eq_true,Bool.not_eq_true',decide_eq_false_iff_not,decide_eq_true_eq]at bV
      have hh:iO (fF d z ss) c=false:=by rw[ja.2.2,decide_eq_false_iff_not];omega
      have eA:da d z ss c=([],260):=by rw[da,if_neg (by simp[hb1]),if_neg oN,if_neg oz,if_pos hh]
      refine aL (sy (.agg (bw ([]:List Stp))) (λh=>gg (ps:=[]) (us:=[.slice none 0 0]) mw Y yz f9 Y (dP (.nil _ _ aI) cE) h.x) ?_)
      refine ck (b:=b1) (off:=0) (es:=[_]) (news:=[_]) V hJ0 fZ Y Y Y (lb Y) Y (λa w h=>⟨(h.get 2 Y),(h.get 0 Y)⟩) ?_
      refine ao 1 tb (env':=[(9,_),(76,_),(12,_),(8,_),(75,_)]) Y (aA [0,3] U2 Y ?_)
      exact nx (aZ (λa w h=>iS (m:=1) (q:=0) Y eY h Y Y (show(_:List CD)=[br ((da d z ss c).1)]from by(rw[eA])<;>rfl) Y (eI (by rw[eA]))))
     ·
      simp only[Bool.or_eq_false_iff,Bool.not_eq_false',decide_eq_false_iff_not,decide_eq_true_eq]at bV
      have hh:iO (fF d z ss) c=true:=by rw[ja.2.2,decide_eq_true_eq];omega
      have eA:da d z ss c=(cu ss c,0):=by rw[da,if_neg (by simp[hb1]),if_neg oN,if_neg oz,if_neg (by simp[hh])]
      refine aj (nx (aL (ao 1 tb (env':=[(77,_),(12,_),(8,_),(75,_)]) Y (ck (b:=b1) (off:=0) (es:=[_]) (news:=[_]) V hJ0 fZ Y Y Y (lb Y) Y (λa w h=>⟨(h.get 2 Y),(h.get 0 Y)⟩) ?_))))
      refine ao 1 tb (env':=[(9,_),(77,_),(12,_),(8,_),(75,_)]) Y (aA [0,3] U2 Y ?_)
      exact nx (aZ (λa w h=>iS (m:=1) (q:=0) Y eY h Y Y (show(_:List CD)=[br ((da d z ss c).1)]from by(rw[eA])<;>rfl) Y (eI (by rw[eA]))))
end
end
section
open Go.RowKit
section
variable {J:WP} (V:aS J)
include V
theorem SL (a:Int) (c:cd)  :Fn prog J 66 [.int a,.ptr [lI c.dQ,lI c.step,lS c.ae,bS c.args,lI c.before,lI c.after]] (.bool (gT c a)):=by
 refine fE func66 λS w0 hS hJ0=>?_
 clear hJ0
 refine qs tb V [0,1] [_] U2 ?_
 refine qs tb V [1008] U9 [_] ?_
 exact aU 0 (hE:=eB (Y))
theorem SJ (d:Db) (i:Nat) (ss:List Stp) (ts:List (List BA)) (M:Nat) (mm:List (BA×Int)) (gf:Fr) (al:List Int) (z:Int) (hW:lG (⟨d,i,ss,ts,mm⟩:Jb)) (rB:gf∈d.ab) (lX:al.length=gf.aa.length) (gI:∀ a∈al,0<=a/\a<z) (lq:0<=z) (fV:z< (ss.length:Int)):Fn prog J 68 [.ptr (jC d i ss ts M),.agg (aY gf),.rd (bS al),.int z] (.bool (fy (⟨d,i,ss,ts,mm⟩:Jb) gf al z.toNat)):=by
 obtain⟨step,rfl⟩:=Int.eq_ofNat_of_zero_le lq
 have hl:ts.length=ss.length:=hW.len
 exact GS V d i ss ts M gf al step (hW.fl gf rB) hW.hi (λt ht=>(hW.ts t ht).1) (λj hj=>by have:=gI _ (aC hj);omega) lX oz (hW.gh gf rB) (λh hh=>(hW.tx gf rB h hh).2) hW.wd
theorem SK (d:Db) (i:Nat) (ss:List Stp) (ts:List (List BA)) (M:Nat) (mm:List (BA×Int)) (c:cd) (hW:lG (⟨d,i,ss,ts,mm⟩:Jb)) (gJ:0<=c.step) (fU:c.step< (ss.length:Int)) (cY:c.args.length<=40) (Fd:c.dQ=1∨c.dQ=2):Fn prog J 33 [.ptr (jC d i ss ts M),.agg (cw c)] (.bool (iO (⟨d,i,ss,ts,mm⟩:Jb) c)):=by
 refine fE func33 λS w0 hS hJ0=>?_
 refine tw cc (au tb V [0,1000] [.ptr (cw c),_] [0] U2 Y ⟨cW hS V,U⟩ ?_)
 refine af (au tb V [0,1,1001,1003] [_,_,.fn 66 [.ptr (cw c)],.bool (c.args.any (gT c))] [2,3] U4 Y ⟨λ_ _ _ Z hl _=>k5 (caps:=[(.tmp 3)]) Y (aq (hl.env 1 3 _ Y Y) aP) Z,λ_ _ hk Z hl _=>dE (GF V c.args 66 [.ptr (cw c)] [] (gT c) (λq'=>(SL V q' c).rr) ((cO func66))) (cO func65) Y (aK hS _ hk Z) (Z.1) b9 (aq (hl.D 1 9 Y Y) (aq (hl.D 2 10 Y Y) aP)) (jo V Z),U⟩ ?_)
 refine ln 2 λ_=>?_
 refine cj 3 ?_ ?_<;>intro hb1
 ·
  have eH:=Fb (j:=(⟨d,i,ss,ts,mm⟩:Jb)) (c:=c) hb1
  refine ak tb V [1000] [_] [_] ?_
  exact bL 0 (hE:=eB (by first | (rw[eH];done) | (rw[eH];exact tI)))
 ·
  have gI:=tH hb1
  have hlt:ts.length=ss.length:=hW.len
  have W5:i<d.ab.length:=hW.hi
  refine aj (nx (af (ak tb V [0,1,1002] U3 U3 ?_)))
  refine cj 2 ?_ ?_<;>intro hb2<;>try simp at hb2
  ·
   refine au tb V [0,1,1030] (V6 [.int (c.args.length:Nat),_,_,_,_,_,_,_,_,_,.ptr [lI (G c.args 0)],_,.ptr [ai (G ts (G c.args 0).toNat)],_,_,_,_,_,_,_,.ptr [ai (G ts c.step.toNat)],_,.bool (decide ((G ts (G c.args 0).toNat)=(G ts c.step.toNat))),_,_]) [6,16,18,26,28] U3 Y ⟨aD eW,cN (k:=0) dc (hk:=λ(aF:(((!decide (c.ae=(⟨#[]⟩:BA)))|| (!decide ((c.args.length:Int)=(1:Int))))==false)=true)=>by(try simp at aF);first | omega | (simp;omega) | grind[aC]),λ_ _ _ Z hl hc=>cb (i:=(G c.args 0)) eC Y (hl.D 13 28 Y hc) (hl.D 17 32 Y hc) (by have aF:(((!decide (c.ae=(⟨#[]⟩:BA)))|| (!decide ((c.args.length:Int)=(1:Int))))==false)=true:=hc;(try simp at aF);(first | omega | (simp;omega) | grind[aC])) (n3 (xs:=ts) (i:=(G c.args 0)) (by have aF:(((!decide (c.ae=(⟨#[]⟩:BA)))|| (!decide ((c.args.length:Int)=(1:Int))))==false)=true:=hc;(try simp at aF);(first | omega | (simp;omega) | grind[aC])) (by have aF:(((!decide (c.ae=(⟨#[]⟩:BA)))|| (!decide ((c.args.length:Int)=(1:Int))))==false)=true:=hc;(try simp at aF);(first | omega | (simp;omega) | grind[aC]))) Y Z,λ_ _ _ Z hl hc=>cb (i:=c.step) eC Y (hl.D 23 38 Y hc) (hl.D 25 40 Y hc) (by have aF:(((!decide (c.ae=(⟨#[]⟩:BA)))|| (!decide ((c.args.length:Int)=(1:Int))))==false)=true:=hc;(try simp at aF);(first | omega | (simp;omega) | grind[aC])) (n3 (xs:=ts) (i:=c.step) (by have aF:(((!decide (c.ae=(⟨#[]⟩:BA)))|| (!decide ((c.args.length:Int)=(1:Int))))==false)=true:=hc;(try simp at aF);(first | omega | (simp;omega) | grind[aC])) (by have aF:(((!decide (c.ae=(⟨#[]⟩:BA)))|| (!decide ((c.args.length:Int)=(1:Int))))==false)=true:=hc;(try simp at aF);(first | omega | (simp;omega) | grind[aC]))) Y Z,bN hS V (w6 V (G ts (G c.args 0).toNat) (G ts c.step.toNat)) (cO func58),U⟩ ?_
   refine cj 2 ?_ ?_<;>intro aE
   ·
    have eH:iO (⟨d,i,ss,ts,mm⟩:Jb) c=false:=Ad (by rw[iR,if_pos hb2,decide_eq_false_iff_not];rintro⟨h1,h2,h3⟩;dsimp only at h3;simp[h1,h2,h3]at aE)
    refine ak tb V [1000] [_] [_] ?_
    exact bL 0 (hE:=eB (by first | (rw[eH];done) | (rw[eH];exact tI)))
   ·
    simp only[Bool.or_eq_false_iff,Bool.not_eq_false',decide_eq_true_eq]at aE
    have hk3:iR (⟨d,i,ss,ts,mm⟩:Jb) c=true:=by rw[iR,if_pos hb2];exact decide_eq_true ⟨aE.1.1,oz,aE.2⟩
    have hc1:c.dQ=2∨1<=c.args.length:=.inr oz
    have eH:=Ae hb1 hk3
    refine aj (nx (aL (ao 2 tb Y (sy (.bJ [.agg (cw (gX ss c)),.bool (decide ((((cu ss c).length:Nat):Int)< ((dr ss:Nat):Int)))]) (λh=>cQ (Be V d i ss ts M c (by exact hW.ok) (by exact gJ) (by exact fU) (by exact gI) (by exact cY) (by exact hc1)) (cO func69) Y (aK hS _ h.keep h.x) (h.x.1) (aq (h.get 1 Y) (aq (h.get 0 Y) aP)) (jo V h.x)) ?_))))
    refine ao 3 tb Y (cz xV V Y Y Y (lb Y) λb1=>?_)
    refine ck (b:=b1) (off:=0) (es:=U6) (news:=U6) V hJ0 xt Y Y Y (lb Y) Y (λa w h=>⟨(h.get 0 Y),(h.get 2 Y)⟩) ?_
    refine ao 1 tb Y (aA [0,1,9] U3 Y ?_)
    refine nx (au tb V [1015] [_,_,.at b1 4,.int ((gX ss c).before),_,_,_,_,_,.at b1 5,.int ((gX ss c).after),_,_,_,_,_] [2,3,9,10] [_] Y ⟨λ_ _ _ Z hl _=>cv vS Y (hl.env 1 6 _ Y Y) Z,λ_ _ _ Z hl hc=>cg fY Y (aH Z (mo 0 Y)) (hl.D 2 104 Y hc) Y Z,λ_ _ _ Z hl _=>cv vT Y (hl.env 1 6 _ Y Y) Z,λ_ _ _ Z hl hc=>cg fY Y (aH Z (mo 0 Y)) (hl.D 9 111 Y hc) Y Z,U⟩ ?_)
    exact bL 0 (hE:=eB (by first | (rw[eH];done) | (rw[eH];exact tI)))
  ·
   refine au tb V [0,1,1007] (V6 [.int (bP d c.ae),_]) [6] U3 Y ⟨bN hS V (GG V d c.ae) (cO func67),U⟩ ?_
   refine au tb V [0,1,1042] (Jw [.int (c.args.length:Nat),_,_,_,_,_,_,.ptr (aY (G d.ab (bP d c.ae).toNat)),_,_,.int (((G d.ab (bP d c.ae).toNat).aa).length:Nat),_,_,_,_,_,_,_,_,_,_,.ptr (aY (G d.ab (bP d c.ae).toNat)),_,_,_,_,_,.bool (fy (⟨d,i,ss,ts,mm⟩:Jb) (G d.ab (bP d c.ae).toNat) c.args c.step.toNat),_,_]) [13,20,23,34,40] U3 Y ⟨aD eW,λ_ _ _ Z hl hc=>cb (i:=bP d c.ae) fK Y (hl.D 18 71 Y hc) (hl.D 19 72 Y hc) (by have aF:(((decide (bP d c.ae< (0:Int)))|| (decide ((i:Int)<=bP d c.ae)))==false)=true:=hc;(try simp at aF);(first | omega | (simp;omega) | grind[aC])) (n3 (xs:=d.ab) (i:=bP d c.ae) (by have aF:(((decide (bP d c.ae< (0:Int)))|| (decide ((i:Int)<=bP d c.ae)))==false)=true:=hc;(try simp at aF);(first | omega | (simp;omega) | grind[aC])) (by have aF:(((decide (bP d c.ae< (0:Int)))|| (decide ((i:Int)<=bP d c.ae)))==false)=true:=hc;(try simp at aF);(first | omega | (simp;omega) | grind[aC]))) Y Z,aD cT,λ_ _ _ Z hl hc=>cb (i:=bP d c.ae) fK Y (hl.D 32 85 Y hc) (hl.D 33 86 Y hc) (by have aF:((((decide (bP d c.ae< (0:Int)))|| (decide ((i:Int)<=bP d c.ae)))|| (!decide ((c.args.length:Int)=((((G d.ab (bP d c.ae).toNat).aa).length:Nat):Int))))==false)=true:=hc;(try simp at aF);(first | omega | (simp;omega) | grind[aC])) (n3 (xs:=d.ab) (i:=bP d c.ae) (by have aF:((((decide (bP d c.ae< (0:Int)))|| (decide ((i:Int)<=bP d c.ae)))|| (!decide ((c.args.length:Int)=((((G d.ab (bP d c.ae).toNat).aa).length:Nat):Int))))==false)=true:=hc;(try simp at aF);(first | omega | (simp;omega) | grind[aC])) (by have aF:((((decide (bP d c.ae< (0:Int)))|| (decide ((i:Int)<=bP d c.ae)))|| (!decide ((c.args.length:Int)=((((G d.ab (bP d c.ae).toNat).aa).length:Nat):Int))))==false)=true:=hc;(try simp at aF);(first | omega | (simp;omega) | grind[aC]))) Y Z,λ_ _ hk Z hl hc=>cQ (SJ V d i ss ts M mm (G d.ab (bP d c.ae).toNat) c.args c.step (by have aF:((((decide (bP d c.ae< (0:Int)))|| (decide ((i:Int)<=bP d c.ae)))|| (!decide ((c.args.length:Int)=((((G d.ab (bP d c.ae).toNat).aa).length:Nat):Int))))==false)=true:=hc;(try simp at aF);(exact hW)) (by have aF:((((decide (bP d c.ae< (0:Int)))|| (decide ((i:Int)<=bP d c.ae)))|| (!decide ((c.args.length:Int)=((((G d.ab (bP d c.ae).toNat).aa).length:Nat):Int))))==false)=true:=hc;(try simp at aF);(first | omega | (simp;omega) | grind[aC])) (by have aF:((((decide (bP d c.ae< (0:Int)))|| (decide ((i:Int)<=bP d c.ae)))|| (!decide ((c.args.length:Int)=((((G d.ab (bP d c.ae).toNat).aa).length:Nat):Int))))==false)=true:=hc;(try simp at aF);(first | omega | (simp;omega) | grind[aC])) (by have aF:((((decide (bP d c.ae< (0:Int)))|| (decide ((i:Int)<=bP d c.ae)))|| (!decide ((c.args.length:Int)=((((G d.ab (bP d c.ae).toNat).aa).length:Nat):Int))))==false)=true:=hc;(try simp at aF);(exact gI)) (by have aF:((((decide (bP d c.ae< (0:Int)))|| (decide ((i:Int)<=bP d c.ae)))|| (!decide ((c.args.length:Int)=((((G d.ab (bP d c.ae).toNat).aa).length:Nat):Int))))==false)=true:=hc;(try simp at aF);(exact gJ)) (by have aF:((((decide (bP d c.ae< (0:Int)))|| (decide ((i:Int)<=bP d c.ae)))|| (!decide ((c.args.length:Int)=((((G d.ab (bP d c.ae).toNat).aa).length:Nat):Int))))==false)=true:=hc;(try simp at aF);(exact fU))) (cO func68) Y (aK hS _ hk Z) (Z.1) (aq (hl.D 27 80 Y hc) (aq (hl.D 35 88 Y hc) (aq (hl.D 37 90 Y hc) (aq (hl.D 39 92 Y hc) aP)))) (jo V Z),U⟩ ?_
   refine cj 2 ?_ ?_<;>intro bh
   ·
    have eH:iO (⟨d,i,ss,ts,mm⟩:Jb) c=false:=Ad (Bool.eq_false_iff.2 λe=>by rw[iR,if_neg hb2,Bool.and_eq_true,decide_eq_true_eq]at e;obtain⟨⟨h1,h2,h3⟩,h4⟩:=e;dsimp only at h1 h2 h3 h4;simp[h3,h4]at bh;omega)
    refine ak tb V [1000] [_] [_] ?_
    exact bL 0 (hE:=eB (by first | (rw[eH];done) | (rw[eH];exact tI)))
   ·
    simp only[Bool.or_eq_false_iff,Bool.not_eq_false',decide_eq_true_eq,decide_eq_false_iff_not]at bh
    have hk4:iR (⟨d,i,ss,ts,mm⟩:Jb) c=true:=by rw[iR,if_neg hb2,Bool.and_eq_true,decide_eq_true_eq];refine⟨⟨?_,?_,?_⟩,bh.2⟩<;>(try dsimp only)<;>omega
    have hc1:c.dQ=2∨1<=c.args.length:=.inl oz
    have eH:=Ae hb1 hk4
    refine aj (nx (aL (ao 2 tb Y (sy (.bJ [.agg (cw (gX ss c)),.bool (decide ((((cu ss c).length:Nat):Int)< ((dr ss:Nat):Int)))]) (λh=>cQ (Be V d i ss ts M c (by exact hW.ok) (by exact gJ) (by exact fU) (by exact gI) (by exact cY) (by exact hc1)) (cO func69) Y (aK hS _ h.keep h.x) (h.x.1) (aq (h.get 1 Y) (aq (h.get 0 Y) aP)) (jo V h.x)) ?_))))
    refine ao 3 tb Y (cz xV V Y Y Y (lb Y) λb2=>?_)
    refine ck (b:=b2) (off:=0) (es:=U6) (news:=U6) V hJ0 xt Y Y Y (lb Y) Y (λa w h=>⟨(h.get 0 Y),(h.get 2 Y)⟩) ?_
    refine ao 1 tb Y (aA [0,1,9] U3 Y ?_)
    refine nx (au tb V [1015] [_,_,.at b2 4,.int ((gX ss c).before),_,_,_,_,_,.at b2 5,.int ((gX ss c).after),_,_,_,_,_] [2,3,9,10] [_] Y ⟨λ_ _ _ Z hl _=>cv vS Y (hl.env 1 6 _ Y Y) Z,λ_ _ _ Z hl hc=>cg fY Y (aH Z (mo 0 Y)) (hl.D 2 104 Y hc) Y Z,λ_ _ _ Z hl _=>cv vT Y (hl.env 1 6 _ Y Y) Z,λ_ _ _ Z hl hc=>cg fY Y (aH Z (mo 0 Y)) (hl.D 9 111 Y hc) Y Z,U⟩ ?_)
    exact bL 0 (hE:=eB (by first | (rw[eH];done) | (rw[eH];exact tI)))
end
section
variable {J:WP} (V:aS J)
include V
theorem RH (d:Db) (z:Int) (ss:List Stp) (c:cd) (hw:∀ f∈d.ab,f.wide.length*32<=140737488351232) (hG:iv J) (hr:¬ dF d z ss=0):Fn prog J 10 [.agg (bZ d),.int z,.agg (bw ss),.agg (cw c)] (.bJ [.agg (bw ([]:List Stp)),.int (dF d z ss)]):=by
 refine fE func10 λS w0 hS hJ0=>?_
 refine tw cc (aL ?_)
 refine sy (.ptr (bZ d)) (λh=>gc Y (h.get 0 Y) (aK hS _ h.keep h.x _ aV) (jo V h.x)) ?_
 refine sy (.ptr (bw ss)) (λh=>gc Y (h.get 3 Y) (aK hS _ h.keep h.x _ aV) (jo V h.x)) ?_
 refine sy (.ptr (cw c)) (λh=>gc Y (h.get 5 Y) (aK hS _ h.keep h.x _ aV) (jo V h.x)) ?_
 refine cz jI V Y Y Y (lb Y) λb1=>?_
 refine ao 1 tb Y (aA [1,2,3,4,6] U5 Y ?_)
 refine nx (au tb V [0,1,2,1007,1008] (V3 [.bJ [.rd (.lit (.pointer none)),.int (dF d z ss)],_,_,_,_,_]) [3] U5 Y ⟨bN hS V (SW V d z ss (by exact hw) (by exact hG) (by exact hr)) (cO func32),U⟩ ?_)
 refine af (ax (ak tb V (r5 [1002]) U3 U6 ?_))
 refine cj 5 ?_ ?_<;>intro hb1
 ·
  refine aL (sy (.agg (bw ([]:List Stp))) (λh=>gg (ps:=[]) (us:=[.slice none 0 0]) mw Y yz f9 Y (dP (.nil _ _ aI) cE) h.x) ?_)
  refine ao 1 tb Y (ck (b:=b1) (off:=0) (es:=[_]) (news:=[_]) V hJ0 fZ Y Y Y (lb Y) Y (λa w h=>⟨(h.get 2 Y),(h.get 1 Y)⟩) ?_)
  refine ao 1 tb Y (aA [0,3] U2 Y ?_)
  exact nx (aZ (λa w h=>iS (m:=1) (q:=0) Y eY h Y Y Y Y Y))
 ·
  exact False.elim (hr (by simpa using hb1))
theorem RI (d:Db) (z:Int) (ss:List Stp) (c:cd) (hw:∀ f∈d.ab,f.wide.length*32<=140737488351232) (hG:iv J) (hr:dF d z ss=0) (h16:ss.length<=16) (rA:d.ab.length<=16) (cY:c.args.length<=40):Fn prog J 10 [.agg (bZ d),.int z,.agg (bw ss),.agg (cw c)] (.bJ [.agg (bw ((da d z ss c).1)),.int ((da d z ss c).2)]):=by
 refine fE func10 λS w0 hS hJ0=>?_
 refine tw cc (aL ?_)
 refine sy (.ptr (bZ d)) (λh=>gc Y (h.get 0 Y) (aK hS _ h.keep h.x _ aV) (jo V h.x)) ?_
 refine sy (.ptr (bw ss)) (λh=>gc Y (h.get 3 Y) (aK hS _ h.keep h.x _ aV) (jo V h.x)) ?_
 refine sy (.ptr (cw c)) (λh=>gc Y (h.get 5 Y) (aK hS _ h.keep h.x _ aV) (jo V h.x)) ?_
 refine cz jI V Y Y Y (lb Y) λb1=>?_
 refine ao 1 tb (env':=[(9,_),(8,_),(7,_),(6,_),(4,_),(0,_),(1,_),(2,_),(3,_)]) Y (aA [1,2,3,4,6] U5 Y ?_)
 refine nx (aL (ao 3 tb (env':=[(15,_),(14,_),(13,_),(8,_),(7,_),(6,_),(4,_),(1,_)]) Y (iI (O:=[]) (R:=[OB.var b1 [br ([]:List Stp)]]) (GZ V d z ss (by exact hw) (by exact hG) (by exact hr)) (cO func32) Y Y Y (lb Y) hS hJ0 b9 (λa w h=>(aq (h.get 2 Y) (aq (h.get 1 Y) (aq (h.get 0 Y) aP)))) λz2=>?_)))
 refine ao 5 tb (env':=[(11,_),(10,_),(18,_),(17,_),(12,_),(16,_),(15,_),(14,_),(13,_),(8,_),(7,_),(6,_),(4,_),(1,_)]) Y (aA [0,1,9,10,11] U5 Y ?_)
 refine nx (af (ax (ak tb V (r5 [1002]) U3 U6 ?_)))
 refine cj 5 ?_ ?_<;>intro hb1
 ·
  exact False.elim (by simp at hb1)
 ·
  refine ak tb V [1,2,3,4,1008] U9 U5 ?_
  refine cj 4 ?_ ?_<;>intro hb2
  ·
   have eA:da d z ss c=([],1):=by rw[da,if_neg (by simp[hr]),if_pos (by simpa using hb2)]
   refine aL (sy (.agg (bw ([]:List Stp))) (λh=>gg (ps:=[]) (us:=[.slice none 0 0]) mw Y yz f9 Y (dP (.nil _ _ aI) cE) h.x) ?_)
   refine kw bQ (ck (b:=b1) (off:=0) (es:=[_]) (news:=[_]) V hJ0 fZ Y Y Y (lb Y) Y (λa w h=>⟨(h.get 2 Y),(h.get 0 Y)⟩) ?_)
   refine ao 1 tb (env':=[(9,_),(33,_),(10,_),(8,_),(7,_),(6,_),(24,_)]) Y (aA [0,3] U2 Y ?_)
   exact nx (aZ (λa w h=>iS (m:=1) (q:=0) Y eY h Y Y (show(_:List CD)=[br ((da d z ss c).1)]from by(rw[eA])<;>rfl) Y (eI (by rw[eA]))))
  ·
   have oN:¬ (¬ c.dQ=1/\¬ c.dQ=2):=by simpa using hb2
   have Fd:c.dQ=1∨c.dQ=2:=by omega
   refine au tb V [0,1,2,3,1011] (V8 [.int (ss.length:Nat),_,_,_]) [8] U5 Y ⟨aD ep,U⟩ ?_
   refine cj 4 ?_ ?_<;>intro aE
   ·
    have eA:da d z ss c=([],3):=by rw[da,if_neg (by simp[hr]),if_neg oN,if_pos (by simpa using aE)]
    refine aL (sy (.agg (bw ([]:List Stp))) (λh=>gg (ps:=[]) (us:=[.slice none 0 0]) mw Y yz f9 Y (dP (.nil _ _ aI) cE) h.x) ?_)
    refine kw bQ (ck (b:=b1) (off:=0) (es:=[_]) (news:=[_]) V hJ0 fZ Y Y Y (lb Y) Y (λa w h=>⟨(h.get 2 Y),(h.get 0 Y)⟩) ?_)
    refine ao 1 tb (env':=[(9,_),(46,_),(10,_),(8,_),(7,_),(6,_),(34,_)]) Y (aA [0,3] U2 Y ?_)
    exact nx (aZ (λa w h=>iS (m:=1) (q:=0) Y eY h Y Y (show(_:List CD)=[br ((da d z ss c).1)]from by(rw[eA])<;>rfl) Y (eI (by rw[eA]))))
   ·
    have gJ:0<=c.step/\c.step< (ss.length:Int):=by simpa using aE
    refine au tb V [1,2,3,1004] [_,_,.bool (iO (⟨d,z.toNat,ss,((aX d z ss).1),(gr (aX d z ss).1 (aX d z ss).1.length)⟩:Jb) c),_,_] [2] U4 Y ⟨bN hS V (SK V d z.toNat ss ((aX d z ss).1) z2 (gr (aX d z ss).1 (aX d z ss).1.length) c (by exact FC hr h16 rA hw) (by exact gJ.1) (by exact gJ.2) (by exact cY) (by exact Fd)) (cO func33),U⟩ ?_
    refine cj 3 ?_ ?_<;>intro bh
    ·
     have eA:da d z ss c=([],260):=by rw[da,if_neg (by simp[hr]),if_neg oN,if_neg oz,if_pos (show iO (fF d z ss) c=false by simpa [fF]using bh)]
     refine aL (sy (.agg (bw ([]:List Stp))) (λh=>gg (ps:=[]) (us:=[.slice none 0 0]) mw Y yz f9 Y (dP (.nil _ _ aI) cE) h.x) ?_)
     refine kw bQ (ck (b:=b1) (off:=0) (es:=[_]) (news:=[_]) V hJ0 fZ Y Y Y (lb Y) Y (λa w h=>⟨(h.get 1 Y),(h.get 0 Y)⟩) ?_)
     refine ao 1 tb (env':=[(9,_),(52,_),(8,_),(7,_),(6,_),(47,_)]) Y (aA [0,2] U2 Y ?_)
     exact nx (aZ (λa w h=>iS (m:=1) (q:=0) Y eY h Y Y (show(_:List CD)=[br ((da d z ss c).1)]from by(rw[eA])<;>rfl) Y (eI (by rw[eA]))))
    ·
     have hh:iO (fF d z ss) c=true:=by simpa [fF]using bh
     have E1:=OT hh
     have W8:=FF E1.2.1
     have hc1:c.dQ=2∨1<=c.args.length:=by omega
     have eA:da d z ss c=(cu ss c,0):=by rw[da,if_neg (by simp[hr]),if_neg oN,if_neg oz,if_neg (by simp[hh])]
     refine aj (nx (aL (ao 2 tb (env':=[(54,_),(53,_),(8,_),(7,_),(6,_),(47,_)]) Y (sy (.agg (bw (cu ss c))) (λh=>cQ (GM V ss c (by exact(mQ hr).2) (by exact gJ.1) (by exact gJ.2) (by exact E1.1) (by exact cY) (by exact hc1)) (cO func34) Y (aK hS _ h.keep h.x) (h.x.1) (aq (h.get 1 Y) (aq (h.get 0 Y) aP)) (jo V h.x)) ?_))))
     refine kw bQ (ck (b:=b1) (off:=0) (es:=[_]) (news:=[_]) V hJ0 fZ Y Y Y (lb Y) Y (λa w h=>⟨(h.get 3 Y),(h.get 0 Y)⟩) ?_)
     refine ao 1 tb (env':=[(9,_),(55,_),(54,_),(53,_),(8,_),(7,_),(6,_),(47,_)]) Y (aA [0,4] U2 Y ?_)
     exact nx (aZ (λa w h=>iS (m:=1) (q:=0) Y eY h Y Y (show(_:List CD)=[br ((da d z ss c).1)]from by(rw[eA])<;>rfl) Y (eI (by rw[eA]))))
theorem RG (d:Db) (z:Int) (ss:List Stp) (c:cd) (hw:∀ f∈d.ab,f.wide.length*32<=140737488351232) (hG:iv J) (h16:ss.length<=16) (rA:d.ab.length<=16) (cY:c.args.length<=40):Fn prog J 10 [.agg (bZ d),.int z,.agg (bw ss),.agg (cw c)] (.bJ [.agg (bw ((da d z ss c).1)),.int ((da d z ss c).2)]):=by
 by_cases hr:dF d z ss=0
 · exact RI V d z ss c hw hG hr h16 rA cY
 · have e:da d z ss c=([],dF d z ss):=if_pos hr
   rw[e]
   exact RH V d z ss c hw hG hr
end
theorem Ki:lE prog 37 6:=⟨#[.int .i64 0,.int .i64 0,.string ⟨#[]⟩,.slice none 0 0,.int .i64 0,.int .i64 0],Y,λi=>(#[(0,1),(1,1),(2,1),(3,1),(4,1),(5,1)]:Array (Nat×Nat))[i]?,λj hj=>by rcases j with _ | _ | _ | _ | _ | _ | j<;>first | rfl | omega,λparts=>by kernel_rfl⟩
theorem Wr {J:WP} (V:aS J) (c:cd) (cY:c.args.length<=40):Fn prog J 11 [.agg (cw c)] (.agg (cw c)):=by
 refine fE func11 λS w0 hS hJ0=>?_
 refine tw cc (aL ?_)
 refine sy (.ptr (cw c)) (λh=>gc Y (h.get 0 Y) (aK hS _ h.keep h.x _ aV) (jo V h.x)) ?_
 refine cz xV V Y Y Y (lb Y) λb1=>?_
 refine aA [0,1] U2 Y (nx (af (λa w h=>iq (γ:=Unit) (λix'=>([.ptr (cw c),.int c.dQ,.ptr [lI c.step,lS c.ae,bS c.args,lI c.before,lI c.after],.int c.step,.ptr [lS c.ae,bS c.args,lI c.before,lI c.after],.str c.ae,.ptr [bS c.args,lI c.before,lI c.after],.rd (bS c.args),.rd (bS c.args),.ptr [lI c.before,lI c.after],.int c.before,.ptr [lI c.after],.int c.after,.agg [lI c.dQ,lI c.step,lS c.ae,bS c.args,lI c.before,lI c.after],.any]:List AV).getD ix' .any) (λ_=>true) [(2,λ_=>.at b1 0)] (λj' _=>match j' with | 0=>[OB.var b1 [lI 0,lI 0,lS (⟨#[]⟩:BA),bS ([]:List Int),lI 0,lI 0]] | _=>[OB.var b1 (cw c)]) (λ_ _=>undef) [14] 0 () (λ_=>Y) h V cP Y Y Y Y Y Y hsb ⟨oX Y λZ hl=>ca Nd Y (hl.env 1 1 _ Y Y) Z,oX Y λZ hl=>bU fY Y (hl.D 0 3 Y Y) Z,oX Y λZ hl=>ca Ee Y (hl.env 1 1 _ Y Y) Z,oX Y λZ hl=>bU fY Y (hl.D 2 5 Y Y) Z,oX Y λZ hl=>ca Ef Y (hl.env 1 1 _ Y Y) Z,oX Y λZ hl=>bU fd Y (hl.D 4 7 Y Y) Z,oX Y λZ hl=>ca zq Y (hl.env 1 1 _ Y Y) Z,oX Y λZ hl=>bU iG Y (hl.D 6 9 Y Y) Z,?_,oX Y λZ hl=>ca Nf Y (hl.env 1 1 _ Y Y) Z,oX Y λZ hl=>bU fY Y (hl.D 9 12 Y Y) Z,oX Y λZ hl=>ca Ng Y (hl.env 1 1 _ Y Y) Z,oX Y λZ hl=>bU fY Y (hl.D 11 14 Y Y) Z,?_,bB Y,U⟩ ⟨?ny,U⟩ ⟨.old 0 2 _,U⟩ ?tV)))
 exact oY Y λhk Z hl=>cQ (GA V c.args oz) (cO func35) Y (aK hS _ hk Z) (Z.1) (aq (hl.D 7 10 Y Y) aP) (jo V Z)
 exact λ_ O' _=>⟨Y,λa _ _ Z hl _=>gd (us:=[a.eval (.tmp 4),a.eval (.tmp 6),a.eval (.tmp 8),a.eval (.tmp 11),a.eval (.tmp 13),a.eval (.tmp 15)]) Ki Y yz (bX (hl.D 1 4 Y Y) (bX (hl.D 3 6 Y Y) (bX (hl.D 5 8 Y Y) (bX (hl.D 8 11 Y Y) (bX (hl.D 10 13 Y Y) (bX (hl.D 12 15 Y Y) cE)))))) Y Z⟩
 case ny=>exact⟨_,Y,Y,Y,Y,λg _ w hk Z hl _=>(by obtain⟨eJ,hv2,ed⟩:=jm (hl.D 13 16 Y Y);exact bC (ii (off:=0) (news:=U6) (es:=U6) (us:=eJ) V hJ0 xt Y hk Z (hl.env 0 2 _ Y Y) (by rw[hv2];rfl) ed (lb Y) Y) λv w' hp=>⟨g,Y,λ_ _=>rfl,λe=>(by cases e),hp⟩)⟩
 clear a w h
 intro _
 dsimp only[List.map]
 exact nx (aZ (λa w h=>jU (m:=0) Y uV h Y Y Y))
theorem P5 {J:WP} (V:aS J) (d:Db) (z:Int) (ss:List Stp) (c:cd) (hw:∀ f∈d.ab,f.wide.length*32<=140737488351232) (hG:iv J):Fn prog J 3 [.agg (bZ d),.int z,.agg (bw ss),.agg (cw c)] (.bool true):=by
 refine fE func3 λS w0 hS hJ0=>?_
 refine tw cc (au tb V [1,1000,1001,1002] [.ptr (bZ d),.ptr (bw ss),.ptr (cw c),_] [0,1,2] U4 Y ⟨cW hS V,cW hS V,cW hS V,U⟩ ?_)
 refine af (au tb V [0,1,2,3,1009] [_,_,.bool (ta d ss),_,_,_,_,.int (c.args.length:Nat),_,_] [2,7] U5 Y ⟨bN hS V (Wt V d ss) (cO func8),aD eW,U⟩ ?_)
 refine cj 4 ?_ ?_<;>intro hb1
 ·
  refine au tb V [1001] [.bool true,_] [0] [_] Y ⟨bN hS V (I8 V  (by exact hG)) (cO func9),U⟩ ?_
  exact bL 0 (hE:=Y)
 ·
  have fa:=MH (show ta d ss=true by simpa using(Bool.or_eq_false_iff.1 hb1).1)
  have cY:c.args.length<=40:=by have:=(Bool.or_eq_false_iff.1 hb1).2;simp at this;omega
  refine aj (nx (af (λa w h=>k6 [] (γ:=Nat) (λix'=>([.agg (bZ d),.int z,.agg (bw ss),.agg (cw c),.agg (cw c),.bJ [.agg (bw ((da d z ss c).1)),.int ((da d z ss c).2)],.bJ [.agg (bw ((da d z ss c).1)),.int ((da d z ss c).2)],.agg (bw ((da d z ss c).1)),.int ((da d z ss c).2),.any,.any,.int ((da d z ss c).2)]:List AV).getD ix' .any) (λ_=>true) [(1,λ_=>.int z),(4,λ_=>.ptr (bZ d)),(6,λ_=>.ptr (bw ss)),(7,λ_=>.ptr (cw c)),(9,λg=>.at g 0),(10,λ_=>.int ((da d z ss c).2))] (λ(b:List Bool) (g:Nat)=>(bif b.getD 1 false then [OB.var g [br ((da d z ss c).1)]]else(bif b.getD 0 false then [OB.var g [br ([]:List Stp)]]else []))++([])) (λk' g=>match k' with | 0=>(.pointer (some ⟨g,0,none⟩)) | _=>undef) [9,10] 0 (λ_=>Y) h V cP Y Y Y Y (λb g p hp=>(mem_append_right _ hp)) ⟨oX Y λZ hl=>jB uU Y (hl.env 1 4 _ Y Y) aV Z,oX Y λZ hl=>b8 Y (hl.env 0 1 _ Y Y) Z,oX Y λZ hl=>jB eY Y (hl.env 2 6 _ Y Y) aV Z,oX Y λZ hl=>jB Jx Y (hl.env 3 7 _ Y Y) aV Z,?_,?_,oX Y λZ hl=>b8 Y (hl.D 5 30 Y Y) Z,oX Y λZ hl=>gi Y (hl.D 6 24 Y Y) Y Z,oX Y λZ hl=>gi Y (hl.D 6 24 Y Y) Y Z,bB Y,bB Y,oX Y λZ hl=>gO Y (hl.D 8 32 Y Y) Z,U⟩ ⟨?nA,?pM,U⟩ ⟨.old 0 1 _,.old 1 4 _,.old 2 6 _,.old 3 7 _,.dZ 0 9 9 (λ(g:Nat)=>(.pointer (some ⟨g,0,none⟩))) Y Y (λ_=>Y) (λ_=>True.intro),.new 11 10 _,U⟩ ?nU)))
  exact oY Y λhk Z hl=>cQ (Wr V c (by exact cY)) (cO func11) Y (aK hS _ hk Z) (Z.1) (aq (hl.D 3 28 Y Y) aP) (jo V Z)
  exact oY Y λhk Z hl=>cQ (RG V d z ss c (by exact hw) (by exact hG) (by exact fa.1) (by exact fa.2) (by exact cY)) (cO func10) Y (aK hS _ hk Z) (Z.1) (aq (hl.D 0 25 Y Y) (aq (hl.D 1 26 Y Y) (aq (hl.D 2 27 Y Y) (aq (hl.D 4 29 Y Y) aP)))) (jo V Z)
  case nA=>exact ew [[false,false]] yq Y Y Y Y ⟨λ_ _ w hk Z _ _=>bC (gq jI V Y hk Z) λv w' ⟨b',hv,hp⟩=>⟨b',dY,λ_=>hv,True.intro,hp⟩,U⟩
  case pM=>exact ew [[true,false]] yq Y Y Y Y ⟨λg _ w hk Z hl hs=>(by obtain⟨eJ,hv2,ed⟩:=jm (hl.D 7 31 Y Y);exact bC (ii (S':=S) (off:=0) (news:=[_]) (es:=[_]) (us:=eJ) V hJ0 fZ Y hk Z (kj (hs 0 9 _ 9 Y Y Y Y)) (by rw[hv2];rfl) ed (lb Y) Y) λv w' hp=>⟨g,λ_ _=>rfl,λe=>(by cases e),True.intro,hp⟩),U⟩
  clear a w h
  intro b1
  dsimp only[List.map]
  refine kw (λh=>fg hS h (m:=4) (s:=9) Y) (nx (aL ?_))
  refine ao 4 tb (env':=[(37,_),(36,_),(35,_),(34,_),(9,_),(1,_),(4,_),(6,_),(7,_),(10,_)]) Y (sy (.bJ [.agg (bw ((da d z ss c).1)),.int ((da d z ss c).2)]) (λh=>cQ (Kl V d z ss c (by exact hw) (by exact cY)) (cO func12) Y (aK hS _ h.keep h.x) (h.x.1) (aq (h.get 3 Y) (aq (h.get 2 Y) (aq (h.get 1 Y) (aq (h.get 0 Y) aP)))) (jo V h.x)) ?_)
  refine ao 3 tb (env':=[(40,_),(39,_),(33,_),(38,_),(37,_),(36,_),(35,_),(34,_),(9,_),(1,_),(4,_),(6,_),(7,_),(10,_)]) Y (iJ (cs:=bw ((da d z ss c).1)) I7 Y Y Y (lb Y) Y Y Y dz (m:=1) Y Y (λa w h=>aK hS _ h.keep h.x _ aV) (λa w h w' hk'=>fi V _ _ hk' h.x) ?_)
  refine ao 1 tb (env':=[(12,_),(11,_),(40,_),(39,_),(33,_),(38,_),(37,_),(36,_),(35,_),(34,_),(9,_),(1,_),(4,_),(6,_),(7,_),(10,_)]) Y (aA [0,1,10,15] U4 Y ?_)
  refine nx (au tb V [1011] [_,_,.bool true,_,_,_,_,_,_,.bool true,_,_] [2,9] [_] Y ⟨bN hS V (Wq V ((da d z ss c).1)) (cO func13),λ_ _ hk Z _ hc=>cQ (I8 V  (by have aF:((true&& (decide ((da d z ss c).2=(da d z ss c).2)))==true)=true:=hc;(try simp at aF);(exact hG))) (cO func9) Y (aK hS _ hk Z) (Z.1) aP (jo V Z),U⟩ ?_)
  exact bL 0 (hE:=eB (by first | rfl | simp))
end
end Go.Proofs.YtdfadihhfppjaaaGreatDoor
