/-
  CONTRACT: sizes.
  CONTRACT: Size.
-/
import Derived.Test.YtaigaoflehfdcaaGreatDoorZGAO
namespace Go.Proofs.YtaigaoflehfdcaaGreatDoor
open Go.RowKit
set_option maxHeartbeats 1000000 in
theorem Zmt (ss:List Stp) (v:Value) (w:World) (hv:IsProof All w v ss) (hok:Okay ss):
 Calls Tryz.prog 61 #[v] w fun e w'=>∃ nb,e= .returned (.slice (some ⟨nb,0,none⟩) ss.length ss.length)∧w.heap.size≤nb∧IsRow w' nb 3 (ints (Xb ss))∧Keeps All w w':=by
 obtain⟨u,rfl,hs⟩:=hv
 have hs':=hs
 obtain⟨a,cap,rfl,hl,h⟩:=hs
 rcases h with⟨rfl,_⟩ | ⟨b,off,rfl,hB,_,hc⟩
 · exact absurd hok.1 (by simp)
 have hlen:ss.length≤2000:=hok.2.1
 have hmk:=Zey ss.length hlen
 have Hc:=hid hc
 clear hc
 have l1:w.heap.size<w.heap.size+1:=by omega
 go_enter Tryz.func61,Tryz.ntmps61
 go_wp2
 go_loopw [4,5,7,15] (fun _ _ _ iv wr=>∃ k:Nat,k≤ss.length∧iv= .int .i64 k∧Keeps All w wr∧IsRow wr (w.heap.size+1) 3 (ints (Yc ss k++List.replicate (ss.length-k) 0))) (fun _ _ _ iv _=>ss.length-(intOf iv).toNat)
 case atStart=>exact⟨0,Nat.zero_le _,rfl,((Keeps.refl _ _).alloc _).alloc _,IsRow.newAt (by simp)⟩
 case round=>
  obtain⟨k,hk,rfl,hkw,hrow⟩:=hrel
  by_cases hlt:k<ss.length
  · obtain⟨c1,va,c2,hva⟩:=Hc.out k hlt
    have e1:wr.cell? ⟨b,off+k*2,none⟩=some (.string ss[k].label):=hkw.cell (p:=⟨b,off+k*2,none⟩) trivial c1
    have e2:wr.cell? ⟨b,off+k*2+1,none⟩=some va:=hkw.cell (p:=⟨b,off+k*2+1,none⟩) trivial c2
    clear c1 c2
    have hva2:=hva
    obtain⟨a2,cap2,rfl,hl2,_,h2⟩:=hva
    clear h2
    obtain⟨q,hq⟩:∃ q,ss.length-k=q+1:=⟨ss.length-k-1,by omega⟩
    rw[hq,List.replicate_succ]at hrow
    have hst:=Z0 ss k
    have f1:wr.cell? ⟨w.heap.size+1,k,none⟩=some (.int .i64 0):=by
     rw[hrow.cell,Q9,List.getElem?_append_right (by omega),hst,Nat.sub_self];rfl
    have f2:=hrow.frozen k
    have hlt2:=hrow.lt
    have Hq:=hid hq
    have Hst:=hid hst
    clear hq hst
    have hrow1:IsRow ((wr.setCell ⟨w.heap.size+1,k,none⟩ (.int .i64 1)).alloc (.cells #[.string ss[k].label,.slice a2 ss[k].args.length cap2] 69)) (w.heap.size+1) 3 (ints (Yc ss k++1::List.replicate q 0)):=by
     have h:=hrow.set k (.int .i64 1)
     rw[ZdS,List.set_append_right _ _ (by rw[Hst.out];omega),Hst.out,Nat.sub_self,List.set_cons_zero]at h
     exact h.alloc _
    have hkw1:Keeps All w ((wr.setCell ⟨w.heap.size+1,k,none⟩ (.int .i64 1)).alloc (.cells #[.string ss[k].label,.slice a2 ss[k].args.length cap2] 69)):=(hkw.setCell (fun(h:w.heap.size+1<_)=>absurd h (by omega)) _).alloc _
    go_wp2
    obtain⟨wo,rfl⟩:∃ wo:World,wo=wr:=⟨_,rfl⟩
    go_loopw [7,26] (fun _ iv wr=>∃(j:Nat) (acc:Int),j≤ss[k].args.length∧iv= .int .i64 j∧Keeps All w wr∧Hid (acc=(ss[k].args.take j).foldl (XD (Yc ss k)) 1)∧IsRow wr (w.heap.size+1) 3 (ints (Yc ss k++acc::List.replicate q 0))) (fun _ iv _=>ss[k].args.length-(intOf iv).toNat)
    case atStart=>exact⟨0,1,Nat.zero_le _,rfl,hkw1,rfl,hrow1⟩
    case round=>
     obtain⟨j,acc,hj,rfl,hkj,hacc,hrj⟩:=hrel
     by_cases hjl:j<ss[k].args.length
     · have hrange:=(hok.2.2 k hlt).2 _ (List.getElem_mem hjl)
       have hcell:∃ b off,a2=some ⟨b,off,none⟩∧wr.cell? ⟨b,off+j,none⟩=some (.int .i64 ss[k].args[j]):=by
        obtain⟨_,_,he,_,_,h⟩:=hva2
        cases he
        rcases h with⟨h,_⟩ | ⟨b,off,rfl,_,_,hcc⟩
        · rw[h]at hjl;simp at hjl
        · exact⟨b,off,rfl,hkj.cell (p:=⟨b,off+j,none⟩) trivial (hcc j hjl)⟩
       have hfold:Hid ((ss[k].args.take (j+1)).foldl (XD (Yc ss k)) 1=XD (Yc ss k) acc ss[k].args[j]):=by
        rw[hacc.out,List.take_succ_eq_append_getElem hjl,List.foldl_append];rfl
       have hab:0≤acc∧acc≤1000000000:=by rw[hacc.out];exact Zbv _ (Xv ss k) _ _ (by omega)
       have g1:wr.cell? ⟨w.heap.size+1,k,none⟩=some (.int .i64 acc):=by
        rw[hrj.cell,Q9,List.getElem?_append_right (by rw[Hst.out];omega),Hst.out,Nat.sub_self];rfl
       obtain⟨y,hy,g2⟩:∃ y,(Yc ss k).getD ss[k].args[j].toNat 0=y∧wr.cell? ⟨w.heap.size+1,ss[k].args[j].toNat,none⟩=some (.int .i64 y):=by
        refine⟨_,rfl,?_⟩
        have h1:ss[k].args[j].toNat< (Yc ss k).length:=by rw[Hst.out];omega
        rw[hrj.cell,Q9,List.getElem?_append_left h1,List.getElem?_eq_getElem h1,List.getD_eq_getElem?_getD,List.getElem?_eq_getElem h1];rfl
       have hyb:0≤y∧y≤1000000000:=by
        rw[←hy,List.getD_eq_getElem?_getD]
        cases hg:(Yc ss k)[ss[k].args[j].toNat]? with
        | none=>simp
        | some z=>exact Xv ss k z (List.mem_of_getElem? hg)
       have hadd:Hid (XD (Yc ss k) acc ss[k].args[j]=if acc+y<1000000000 then acc+y else 1000000000):=by rw[Hid,XD,hy]
       obtain⟨b2,off2,rfl,g3⟩:=hcell
       have g4:=hrj.frozen k
       have Hacc:=hid hacc
       obtain⟨q1,q2⟩:=hrange
       obtain⟨q3,q4⟩:=hab
       obtain⟨q5,q6⟩:=hyb
       clear hy hacc
       generalize ss[k].args[j]=z at*
       go_wp2
       go_region
       go_wp2
       go_roundw
       case rel=>
        refine⟨j+1,_,by omega,by go_num,(hkj.setCell (fun(h:w.heap.size+1<_)=>absurd h (by omega)) _).drew,hfold.out.symm,?_⟩
        have h:=hrj.set k (.int .i64 (XD (Yc ss k) acc z))
        rw[ZdS,List.set_append_right _ _ (by rw[Hst.out];omega),Hst.out,Nat.sub_self,List.set_cons_zero,hadd.out]at h
        rw[hadd.out]
        have hm:∀ x y:Int,min x y=if y<x then y else x:=fun x y=>by split<;>omega
        first | exact h.drew | (rw[hm];exact h.drew)
       case measure=>simp[intOf];omega
     · go_wp2
       go_roundw
       case rel=>
        refine⟨k+1,by omega,by go_num,hkj,?_⟩
        rw[hacc.out,List.take_of_length_le (by omega)]at hrj
        have hq:=Hq.out
        rw[show ss.length-(k+1)=q by omega]
        simp only[Yc,List.getElem?_eq_getElem hlt,Option.map_some,Option.getD_some,List.append_assoc,List.cons_append,List.nil_append]
        exact hrj
       case measure=>simp[intOf];omega
  · go_wp2
    go_ret
    obtain rfl:k=ss.length:=by omega
    simp only[Nat.sub_self,List.replicate_zero,List.append_nil]at hrow
    exact⟨w.heap.size+1,rfl,by omega,hrow,hkw⟩
end Go.Proofs.YtaigaoflehfdcaaGreatDoor
namespace Go.Proofs.YtaigaoflehfdcaaGreatDoor
open Go.RowKit Go.Shelf
attribute [local go_sem] Oper.semAt_some
structure SInv (w:World) (ps:Value) (pre:List Nat) (W:World):Prop where
 keep:Keeps All w W
 pbox:IsRow W w.heap.size 28 [ps]
 rbox:IsRow W (w.heap.size+1) 3 [.int .i64 (pre.length:Int)]
def ZuT (df:List Deferred) (n0 k n q:Nat) (ps:Value) (sz:List Int) (y:Int) (T:Array Value) (W0:World) (c:Nat→Bool) (a':Act) (w':World):Prop:=
 ∃ nb:Nat,a'=Act.mk (sIs T [(c 0,16,.int .i64 k),(c 1,17,.agg #[ps]),(c 2,18,.slice (some ⟨nb,0,none⟩) n n),(c 3,19,.pointer (some ⟨n0,0,none⟩)),(c 4,20,ps),(c 5,21,.int .i64 n),(c 6,22,.int .i64 q),
  (c 7,23,.pointer (some ⟨nb,q,none⟩)),(c 8,24,.int .i64 y),(c 10,3,.int .i64 y),(c 11,4,.int .i64 0)]) df∧
  Keeps (fun b=>b≠n0+1) W0 w'∧IsRow w' (n0+1) 3 [.int .i64 k]∧(c 2=true→W0.heap.size≤nb∧IsRow w' nb 3 (ints sz))∧(c 7=true→c 2=true)∧(c 8=true→c 7=true)
set_option maxHeartbeats 1000000 in
theorem ZoL (ss:List Stp) (v:Value) (w:World) (hv:IsProof All w v ss) (hok:Okay ss):
 Calls Tryz.prog 33 #[v] w fun e w'=>e= .returned (.tuple #[.int .i64 ((post ss).length:Int),.int .i64 ((Xb ss).getD (ss.length-1) 0),.int .i64 0])∧Keeps All w w':=by
 obtain⟨u,rfl,hs⟩:=hv
 have hs':=hs
 have hform:=ZnP ss (.agg #[u]) (((w.alloc (.cells #[u] 28)).alloc (.cells #[.int .i64 0] 3))) ⟨u,rfl,hs.keep (((Keeps.refl _ _).alloc _).alloc _) fun _ _ h=>h⟩
 rw[(Xy ss).2 hok]at hform
 obtain⟨a,cap,rfl,hl,h⟩:=hs
 clear h
 have hlen:ss.length≤2000:=hok.2.1
 refine(callsIn_wide (n:=5)).1 ?_
 refine callsIn_of_wp_marks Tryz.func33 rfl trivial ?_ rfl
 simp only[Tryz.ntmps33,List.size_toArray,List.length_cons,List.length_nil,Nat.reduceAdd,Nat.reduceSub,Array.replicate_succ,Array.replicate_zero,List.push_toArray,List.append_toArray,List.nil_append,List.cons_append]
 gi_wp2
 refine⟨trivial,?_⟩
 refine(callsIn_wide.2 hform).mono ?_
 clear hform
 rintro e w1 ⟨rfl,hk1⟩
 have hk0:Keeps All w w1:=(((Keeps.refl _ _).alloc _).alloc _).trans hk1
 have r0:IsRow w1 w.heap.size 28 [.slice a ss.length cap]:=IsRow.keep (S:=All) (by repeat (first | (refine IsRow.newAt ?_;(simp;done)) | refine IsRow.alloc ?_ _)) hk1 trivial
 have r1:IsRow w1 (w.heap.size+1) 3 [.int .i64 0]:=IsRow.keep (S:=All) (by repeat (first | (refine IsRow.newAt ?_;(simp;done)) | refine IsRow.alloc ?_ _)) hk1 trivial
 have hs1:=hk1.size
 simp at hs1
 obtain⟨c0,_⟩:=r0.one
 gi_wp2
 refine⟨trivial,?_⟩
 refine(callsIn_wide.2 (Zem _ _)).mono ?_
 rintro e w2 ⟨rfl,rfl⟩
 gi_wp2
 refine ZaL (fun T v=>T.setIfInBounds 13 v) (gf:=86) (lb:= #[.pointer (some ⟨w1.heap.size,0,none⟩)]) rfl Zcz
  (ZbJ ss hok w1.heap.size (fun k=>k<w.heap.size∨k=w1.heap.size) (Or.inr rfl) _ ?hP ?hd) rfl
  (SInv w (.slice a ss.length cap)) ?hI ?h0 ?assign ?body ?hProt ?done
 case hP=>intro k hk;simp;omega
 case hProt=>intro k hk;simp;omega
 case hd=>
  refine⟨.slice a ss.length cap,?_,?_⟩
  · exact(show IsRow _ w1.heap.size 28 [_]from IsRow.newAt (by simp)).cell 0
  · exact(hs'.move (hk0.alloc _) fun k hk _=>⟨trivial,Or.inl hk⟩)
 case hI=>
  intro pre A B h hA hk
  exact⟨h.keep.upto hk fun k hlt=>by simp;omega,h.pbox.keep hk (by simp;omega),h.rbox.keep hk (by simp;omega)⟩
 case h0=>exact⟨hk0.alloc _,r0.alloc _,r1.alloc _⟩
 case assign=>
  intro m l x W K hK
  gi_wp2
  exact hK
 case body=>
  intro m l pre x W hI hpre hsz
  have hpl:pre.length<2000:=by
   have h1:=hpre.length_le
   have h2:=Zaf hok
   simp at h1
   omega
  obtain⟨d0,d1⟩:=hI.rbox.one
  gi_wp2
  refine⟨⟨hI.keep.upto ((Keeps.refl (fun k=>k≠w.heap.size+1) _).setCell (fun _ hn=>hn rfl) _) fun k hk=>by omega,hI.pbox.other (by omega) _ _,?_⟩,?_⟩
  · have h:=hI.rbox.set 0 (.int .i64 ((pre.length:Int)+1))
    simpa using h
  · exact(Keeps.refl _ _).setCell (fun _ (h:(w.heap.size+1<w.heap.size∨w.heap.size+1=w1.heap.size)∨_)=>by simp at h;omega) _
 case done=>
  intro D W hD hI hdef
  gi_wp2
  have hrb:=hI.rbox
  have hpb:=hI.pbox
  have hn0:1≤ss.length:=hok.1
  simp at hD
  subst hD
  obtain⟨q,hq⟩:∃ q,q=ss.length-1:=⟨_,rfl⟩
  have hq1:q<ss.length:=by omega
  have hq2:Hid ((ss.length:Int)-1=q):=by show _=_;omega
  have hsl:(Xb ss).length=ss.length:=Z0 ss _
  obtain⟨y,hy⟩:∃ y,y=(Xb ss).getD q 0:=⟨_,rfl⟩
  have hyc:Hid ((Xb ss)[q]?=some y):=by
   show _=_
   rw[hy,List.getD_eq_getElem?_getD,List.getElem?_eq_getElem (by omega)];rfl
  have Hsl:=hid hsl
  have Hq:=hid hq
  have Hy:=hid hy
  clear hq hy hsl
  refine Y9 (ZuT [{ target:=Target.collected (w1.heap.size+1),args:= #[] }] w.heap.size (post ss).length ss.length q (.slice a ss.length cap) (Xb ss) y) mixed (by kernel_rfl) ?start ⟨?o0,?o1,?o2,?o3,?o4,?o5,?o6,?o7,?o8,?o9,?o10,?o11,trivial⟩ ?fin
  case start=>exact⟨0,by simp only[Zm,Zh,Zbo],(Keeps.refl _ _).drew,hrb,fun h=>(by cases h),fun h=>(by cases h),fun h=>(by cases h)⟩
  case o0=>
   rintro b' a' w' hb hd ⟨nb,rfl,hk,hr,hc,h72,h87⟩
   obtain⟨f1,_⟩:=hr.one
   simp only[Zm,Zh,Zv,Zg,Ze]
   gi_wp2
   exact⟨nb,by simp[Zm,Zh,Zv,Zg,Ze,mark],hk,hr,fun h=>hc (by simpa [mark]using h),fun h=>Zw _ (h72 (by simpa [mark]using h)),fun h=>Zw _ (h87 (by simpa [mark]using h))⟩
  case o1=>
   rintro b' a' w' hb hd ⟨nb,rfl,hk,hr,hc,h72,h87⟩
   obtain⟨f1,_⟩:=(hpb.keep hk (by omega)).one
   simp only[Zm,Zh,Zv,Zg,Ze]
   gi_wp2
   exact⟨nb,by simp[Zm,Zh,Zv,Zg,Ze,mark],hk,hr,fun h=>hc (by simpa [mark]using h),fun h=>Zw _ (h72 (by simpa [mark]using h)),fun h=>Zw _ (h87 (by simpa [mark]using h))⟩
  case o2=>
   rintro b' a' w' hb hd ⟨nb,rfl,hk,hr,hc,h72,h87⟩
   simp[Region.binds]at hd
   have hp:IsProof All w' (.agg #[.slice a ss.length cap]) ss:=⟨_,rfl,hs'.keep (hI.keep.upto hk fun k hk=>by omega) fun _ _ _=>trivial⟩
   have hcall:=Zmt ss (.agg #[.slice a ss.length cap]) w' hp hok
   simp only[Zm,Zh,Zv,Zg,Ze]
   gi_wp2
   refine⟨trivial,?_⟩
   refine(callsIn_wide.2 hcall).mono ?_
   clear hcall
   rintro e w3 ⟨nb',rfl,hnb,hrow,hk3⟩
   gi_wp2
   have h7:b' 7=false:=by
    cases h:b' 7 with
    | false=>rfl
    | true=>rw[h72 h]at hb;cases hb
   refine⟨nb',by simp[Zm,Zh,Zv,Zg,Ze,mark,hd,h7],hk.trans (hk3.sub fun _ _ _=>trivial),hr.keep hk3 trivial,fun _=>⟨Nat.le_trans hk.size hnb,hrow⟩,fun h=>by simp[mark,h7]at h,fun h=>Zw _ (h87 (by simpa [mark]using h))⟩
  case o3=>
   rintro b' a' w' hb hd ⟨nb,rfl,hk,hr,hc,h72,h87⟩
   simp only[Zm,Zh,Zv,Zg,Ze]
   gi_wp2
   exact⟨nb,by simp[Zm,Zh,Zv,Zg,Ze,mark],hk,hr,fun h=>hc (by simpa [mark]using h),fun h=>Zw _ (h72 (by simpa [mark]using h)),fun h=>Zw _ (h87 (by simpa [mark]using h))⟩
  case o4=>
   rintro b' a' w' hb hd ⟨nb,rfl,hk,hr,hc,h72,h87⟩
   simp[Region.binds]at hd
   obtain⟨f1,_⟩:=(hpb.keep hk (by omega)).one
   simp only[Zm,Zh,Zv,Zg,Ze]
   gi_wp2
   exact⟨nb,by simp[Zm,Zh,Zv,Zg,Ze,mark,hd],hk,hr,fun h=>hc (by simpa [mark]using h),fun h=>Zw _ (h72 (by simpa [mark]using h)),fun h=>Zw _ (h87 (by simpa [mark]using h))⟩
  case o5=>
   rintro b' a' w' hb hd ⟨nb,rfl,hk,hr,hc,h72,h87⟩
   simp[Region.binds]at hd
   simp only[Zm,Zh,Zv,Zg,Ze]
   gi_wp2
   exact⟨nb,by simp[Zm,Zh,Zv,Zg,Ze,mark,hd],hk,hr,fun h=>hc (by simpa [mark]using h),fun h=>Zw _ (h72 (by simpa [mark]using h)),fun h=>Zw _ (h87 (by simpa [mark]using h))⟩
  case o6=>
   rintro b' a' w' hb hd ⟨nb,rfl,hk,hr,hc,h72,h87⟩
   simp[Region.binds]at hd
   simp only[Zm,Zh,Zv,Zg,Ze]
   gi_wp2
   exact⟨nb,by simp[Zm,Zh,Zv,Zg,Ze,mark,hd];exact hq2.out,hk,hr,fun h=>hc (by simpa [mark]using h),fun h=>Zw _ (h72 (by simpa [mark]using h)),fun h=>Zw _ (h87 (by simpa [mark]using h))⟩
  case o7=>
   rintro b' a' w' hb hd ⟨nb,rfl,hk,hr,hc,h72,h87⟩
   simp[Region.binds]at hd
   simp only[Zm,Zh,Zv,Zg,Ze]
   gi_wp2
   exact⟨nb,by simp[Zm,Zh,Zv,Zg,Ze,mark,hd],hk,hr,fun h=>hc (by simpa [mark]using h),fun _=>Zw _ hd.1,fun h=>Zw _ (h87 (by simpa [mark]using h))⟩
  case o8=>
   rintro b' a' w' hb hd ⟨nb,rfl,hk,hr,hc,h72,h87⟩
   simp[Region.binds]at hd
   obtain⟨f0,f1⟩:=hc (h72 hd)
   have f2:w'.cell? ⟨nb,q,none⟩=some (.int .i64 y):=by rw[f1.cell,Q9,hyc.out];rfl
   simp only[Zm,Zh,Zv,Zg,Ze]
   gi_wp2
   exact⟨nb,by simp[Zm,Zh,Zv,Zg,Ze,mark,hd],hk,hr,fun h=>hc (by simpa [mark]using h),fun h=>Zw _ (h72 (by simpa [mark]using h)),fun _=>Zw _ hd⟩
  case o9=>
   rintro b' a' w' hb hd ⟨nb,rfl,hk,hr,hc,h72,h87⟩
   simp[Region.binds]at hd
   obtain⟨f1,f2⟩:=hr.one
   simp only[Zm,Zh,Zv,Zg,Ze]
   gi_wp2
   have hkw:Keeps (fun b=>b≠w.heap.size+1) w' (w'.setCell ⟨w.heap.size+1,0,none⟩ (.int .i64 (post ss).length)):=(Keeps.refl _ _).setCell (fun _ hn=>hn rfl) _
   have hlt:=hI.rbox.lt
   exact⟨nb,by simp[Zm,Zh,Zv,Zg,Ze,mark,hd],hk.trans hkw,hr.set 0 _,fun h=>by
    obtain⟨g1,g2⟩:=hc (by simpa [mark]using h)
    exact⟨g1,g2.keep hkw (by omega)⟩,fun h=>Zw _ (h72 (by simpa [mark]using h)),fun h=>Zw _ (h87 (by simpa [mark]using h))⟩
  case o10=>
   rintro b' a' w' hb hd ⟨nb,rfl,hk,hr,hc,h72,h87⟩
   simp[Region.binds]at hd
   simp only[Zm,Zh,Zv,Zg,Ze]
   gi_wp2
   exact⟨nb,by simp[Zm,Zh,Zv,Zg,Ze,mark,hd],hk,hr,fun h=>hc (by simpa [mark]using h),fun h=>Zw _ (h72 (by simpa [mark]using h)),fun h=>Zw _ (h87 (by simpa [mark]using h))⟩
  case o11=>
   rintro b' a' w' hb hd ⟨nb,rfl,hk,hr,hc,h72,h87⟩
   simp only[Zm,Zh,Zv,Zg,Ze]
   gi_wp2
   exact⟨nb,by simp[Zm,Zh,Zv,Zg,Ze,mark],hk,hr,fun h=>hc (by simpa [mark]using h),fun h=>Zw _ (h72 (by simpa [mark]using h)),fun h=>Zw _ (h87 (by simpa [mark]using h))⟩
  case fin=>
   rintro b' a' w' hb ⟨nb,rfl,hk,hr,hc,h72,h87⟩
   have e0:=hb 0 (by decide)
   have e1:=hb 1 (by decide)
   have e2:=hb 2 (by decide)
   have e3:=hb 3 (by decide)
   have e4:=hb 4 (by decide)
   have e5:=hb 5 (by decide)
   have e6:=hb 6 (by decide)
   have e7:=hb 7 (by decide)
   have e8:=hb 8 (by decide)
   have e10:=hb 10 (by decide)
   have e11:=hb 11 (by decide)
   clear hb
   simp only[Zm,Zh,Zv,Zg,Ze,e0,e1,e2,e3,e4,e5,e6,e7,e8,e10,e11,cond_true]
   obtain⟨f1,_⟩:=hr.one
   have hlt:=hI.rbox.lt
   have hdef':w'.heap[w1.heap.size+1]?=some (.deferred (some [])):=(hk.block _ (Array.getElem?_eq_some_iff.1 hdef).1 (by omega)).trans hdef
   have hcell:(w'.putObj (w1.heap.size+1) (.deferred none)).cell? ⟨w.heap.size+1,0,none⟩=some (.int .i64 (post ss).length):=
    (hr.keep (S:=fun k=>k≠w1.heap.size+1) (QQ (Keeps.refl _ _) (fun hn=>hn rfl) _) (by omega)).cell 0
   gi_wp2
   refine⟨by simp,.inl ⟨_,_,rfl,run_takeDeferred hdef',?_⟩⟩
   refine⟨.tuple #[.int .i64 (post ss).length,.int .i64 y,.int .i64 0],?_,?_,?_⟩
   · simp[results,Tryz.results33,go_sem,hcell]
   · rw[Hy.out,Hq.out]
   · exact(hI.keep.upto hk fun k hk=>by omega).upto (QQ (Keeps.refl (fun k=>k≠w1.heap.size+1) _) (fun hn=>hn rfl) _) fun k hk=>by omega
end Go.Proofs.YtaigaoflehfdcaaGreatDoor
