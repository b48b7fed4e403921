/-
  CONTRACT: share.
  CONTRACT: Share.
  A ROW OF STEPS OF THE CALL'S OWN, its Args in blocks that a predicate names; a row of integers of the call's own.
  CONTRACT: expand's writer: it appends the steps of a tree to what there is.
  CONTRACT: expand, Expand.
  CONTRACTS: slices.ContainsFunc at steps, Few, the reference's same and Equal.
  CONTRACT: awake: the example.
  THE OLD CONTRACT OF LAW 9's EXAMPLE, in the new engine's words.
  THE VERDICTS OF ALL ASSERTIONS; what a machine and the reference's run show (plain).
  THE LAW GraphProofs returns true.
-/
import Derived.Test.YtaigaoflehfdcaaGreatDoorZGAP
namespace Go.Proofs.YtaigaoflehfdcaaGreatDoor
open Go.RowKit Go.Shelf
attribute [local go_sem] Oper.semAt_some
structure HInv (ss:List Stp) (w:World) (ps:Value) (pre:List Nat) (W:World):Prop where
 keep:Keeps All w W
 size:w.heap.size+8≤W.heap.size
 pbox:IsRow W w.heap.size 28 [ps]
 rbox:IsRow W (w.heap.size+1) 28 [.slice none 0 0]
 xbox:IsRow W (w.heap.size+4) 133 [.pointer (some ⟨w.heap.size+3,0,none⟩)]
 nbox:IsRow W (w.heap.size+6) 67 [.slice (some ⟨w.heap.size+5,0,none⟩) ss.length ss.length]
 now:IsRow W (w.heap.size+5) 3 (ints (Yg ss pre).2)
 sh:∃ v,Sharer (w.heap.size+14) (w.heap.size+3) (w.heap.size+2) W v (Yg ss pre).1
theorem Sharer.keep {lo X M:Nat} {A B:World} {v:Value} {ss:List Stp} (h:Sharer lo X M A v ss) {S:Nat→Prop} (hk:Keeps S A B) (hX:S X) (hM:S M) (hS:∀ k,lo≤k→S k):Sharer lo X M B v ss:=
 ⟨h.1.keep hk hX,h.2.1.keep hk hM,h.2.2.keep hk hS⟩
theorem HInv.move {ss:List Stp} {w:World} {ps:Value} {pre:List Nat} {A B:World} (h:HInv ss w ps pre A) {S:Nat→Prop} (hk:Keeps S A B)
 (hS:∀ k,k<w.heap.size+8∨w.heap.size+14≤k→S k):HInv ss w ps pre B:=by
 obtain⟨v,h1⟩:=h.sh
 have:=h.size
 exact⟨h.keep.upto hk fun k hlt=>hS _ (by omega),by have:=hk.size;omega,h.pbox.keep hk (hS _ (by omega)),h.rbox.keep hk (hS _ (by omega)),h.xbox.keep hk (hS _ (by omega)),h.nbox.keep hk (hS _ (by omega)),h.now.keep hk (hS _ (by omega)),
  ⟨v,h1.keep hk (hS _ (by omega)) (hS _ (by omega)) fun k h=>hS _ (by omega)⟩⟩
structure ShInv (lo X M nw nb x:Nat) (oldv newv:Value) (olds:List Stp) (s:Stp) (L:List Int) (W0:World) (c:Nat→Bool) (w:World):Prop where
 ord:c 10=true→c 9=true
 ord12:c 12=true→c 10=true
 keep:Keeps (fun k=>k≠X∧k≠M∧k≠nw∧oldv.ownBlock≠some k) W0 w
 call:c 9=true→W0.heap.size≤nb∧IsRow w nb 3 (ints s.args)
 sh0:c 10=false→Sharer lo X M w oldv olds
 sh1:c 10=true→Sharer lo X M w newv (Zff olds s)
 row0:c 12=false→IsRow w nw 3 (ints L)
 row1:c 12=true→IsRow w nw 3 (ints (L.set x (ZaT olds s)))
theorem ShInv.same {lo X M nw nb x:Nat} {oldv newv:Value} {olds:List Stp} {s:Stp} {L:List Int} {W0:World} {c c':Nat→Bool} {w:World} (h:ShInv lo X M nw nb x oldv newv olds s L W0 c w)
 (h9:c' 9=c 9) (h10:c' 10=c 10) (h12:c' 12=c 12):ShInv lo X M nw nb x oldv newv olds s L W0 c' w:=by
 obtain⟨a0,a1,a2,a3,a4,a5,a6,a7⟩:=h
 exact⟨by rw[h10,h9];exact a0,by rw[h12,h10];exact a1,a2,by rw[h9];exact a3,by rw[h10];exact a4,by rw[h10];exact a5,by rw[h12];exact a6,by rw[h12];exact a7⟩
def ShReg (lo n0 x m:Nat) (lab:ByteArray) (ps nows va oldv:Value) (xa:Addr) (olds:List Stp) (s:Stp) (L:List Int) (T:Array Value) (W0:World) (c:Nat→Bool) (a':Act) (w':World):Prop:=
 ∃(nb:Nat) (newv:Value),a'=Act.mk (sIs T [(c 0,16,nows),(c 1,17,.int .i64 x),(c 2,18,.pointer (some ⟨n0+3,0,none⟩)),(c 3,19,.pointer (some ⟨n0,0,none⟩)),(c 4,20,ps),(c 5,21,.int .i64 x),(c 6,22,.pointer (some xa)),
  (c 7,23,.agg #[.string lab,va]),(c 8,24,nows),(c 9,25,.agg #[.string lab,.slice (some ⟨nb,0,none⟩) m m]),(c 10,26,.int .i64 (ZaT olds s)),(c 11,27,.pointer (some ⟨n0+5,x,none⟩))]) []∧
  ShInv lo (n0+3) (n0+2) (n0+5) nb x oldv newv olds s L W0 c w'
set_option maxHeartbeats 1000000 in
theorem Zs3 (ss:List Stp) (v:Value) (w:World) (hv:IsProof All w v ss) (hok:Okay ss) (htab:Tab w):
 Calls Tryz.prog 53 #[v] w fun e w'=>∃ vr,e= .returned vr∧IsProof (fun k=>w.heap.size≤k) w' vr (ZaN ss)∧Keeps All w w':=by
 obtain⟨u,rfl,hs⟩:=hv
 have hs':=hs
 obtain⟨a,cap,rfl,hl,h⟩:=hs
 rcases h with⟨rfl,_⟩ | ⟨b,off,rfl,hB,_,hc⟩
 · exact absurd hok.1 (by simp)
 have hlen:ss.length≤2000:=hok.2.1
 have hmk:=Zey ss.length hlen
 have hmm:=@run_makeMap Tryz.prog
 have Hc:=hid hc
 have Ht:=hid htab
 clear hc htab
 refine(callsIn_wide (n:=5)).1 ?_
 refine callsIn_of_wp_marks Tryz.func53 rfl trivial ?_ rfl
 simp only[Tryz.ntmps53,List.size_toArray,List.length_cons,List.length_nil,Nat.reduceAdd,Nat.reduceSub,Array.replicate_succ,Array.replicate_zero,List.push_toArray,List.append_toArray,List.nil_append,List.cons_append]
 have l0:w.heap.size<w.heap.size+1:=by omega
 have l1:w.heap.size<w.heap.size+1+1:=by omega
 have l2:w.heap.size<w.heap.size+1+1+1:=by omega
 have l3:w.heap.size<w.heap.size+1+1+1+1:=by omega
 have l4:w.heap.size<w.heap.size+1+1+1+1+1:=by omega
 have l5:w.heap.size<w.heap.size+1+1+1+1+1+1:=by omega
 gi_wp2
 refine⟨trivial,?_⟩
 refine(callsIn_wide.2 (Zem _ _)).mono ?_
 rintro e w2 ⟨rfl,rfl⟩
 gi_wp2
 refine ZaL (fun T v=>(T.setIfInBounds 15 v).setIfInBounds 5 v) (gf:=86) (lb:= #[.pointer (some ⟨w.heap.size+7,0,none⟩)]) rfl Zcz
  (ZbJ ss hok (w.heap.size+7) (fun k=>k<w.heap.size∨k=w.heap.size+7) (Or.inr rfl) _ ?hP ?hd) rfl
  (HInv ss w (.slice (some ⟨b,off,none⟩) ss.length cap)) ?hI ?h0 ?assign ?body ?hProt ?done
 case hP=>intro k hk;simp;omega
 case hProt=>intro k hk;simp;omega
 case hd=>
  refine⟨.slice (some ⟨b,off,none⟩) ss.length cap,?_,?_⟩
  · exact(show IsRow _ (w.heap.size+7) 28 [_]from IsRow.newAt (by simp)).cell 0
  · refine(hs'.move (S':=fun k=>k<w.heap.size∨k=w.heap.size+7) ?_ fun k hk _=>⟨(trivial:All k),Or.inl hk⟩)
    repeat (first | exact Keeps.refl _ _ | refine Keeps.alloc ?_ _ | refine Keeps.setCell ?_ (by simp) _)
 case hI=>
  intro pre A B h hA hk
  refine h.move hk fun k hk=>?_
  simp;omega
 case h0=>
  refine⟨by repeat (first | exact Keeps.refl _ _ | refine Keeps.alloc ?_ _),by simp,?_,?_,?_,?_,?_,.slice none 0 0,?_,?_,OwnSteps.nil _ _⟩
  any_goals (solve | repeat (first | (refine IsRow.newAt ?_;(simp;done)) | refine IsRow.alloc ?_ _))
  refine MapIdx.keep (S:=All) (w:=(w.alloc (.cells #[.slice (some ⟨b,off,none⟩) ss.length cap] 28)).alloc (.cells #[.slice none 0 0] 28) |>.alloc (.map #[] 0)) ?_ ?_ trivial
  · have h:=MapIdx.new ((w.alloc (.cells #[.slice (some ⟨b,off,none⟩) ss.length cap] 28)).alloc (.cells #[.slice none 0 0] 28))
    simpa [Yg]using h
  · repeat (first | exact Keeps.refl _ _ | refine Keeps.alloc ?_ _)
 case assign=>
  intro m l x W K hK
  gi_wp2
  exact hK
 case body=>
  intro m l pre x W hI hpre hsz
  obtain⟨hx,hxp,hkids⟩:=hok.round hpre
  obtain⟨oldv,hSh⟩:=hI.sh
  have hrn:=hI.now
  have hpl:pre.length<2000:=by
   have h1:=hpre.length_le
   have h2:=Zaf hok
   simp at h1
   omega
  obtain⟨hb1,hb2,hb3⟩:=ZbG ss pre
  have hnext:Yg ss (pre++[x])=Xr ss ((Yg ss pre).1,(Yg ss pre).2) x:=Zdl ss pre x
  generalize (Yg ss pre).1=olds at hSh hb1 hnext
  generalize (Yg ss pre).2=L at hrn hb2 hb3 hnext
  have hstp:ZaP ss L x=⟨ss[x].label,ss[x].args.map (ZaC L)⟩:=by simp[ZaP,hx]
  obtain⟨s,hs0⟩:∃ s,s=ZaP ss L x:=⟨_,rfl⟩
  have Hs:=hid hs0
  have Hstp:=hid hstp
  have Hnext:=hid hnext
  have Hb3:=hid hb3
  have Hk:=hid hkids
  have hsl:Hid (ss[x].label=s.label):=by show _=_;rw[hs0,hstp]
  have hsa:Hid (ss[x].args.map (ZaC L)=s.args):=by show _=_;rw[hs0,hstp]
  have hsn:Hid (ss[x].args.length=s.args.length):=by show _=_;rw[←hsa.out,List.length_map]
  clear hs0 hstp hnext hb3 hkids
  have hsz':w.heap.size+14≤W.heap.size:=by simp at hsz;omega
  have hxL:x<L.length:=by omega
  have hown:∀ k,k<w.heap.size+14→oldv.ownBlock≠some k:=fun k hk e=>by
   obtain⟨_,_,_,_,h,_⟩:=hSh
   have:=(h.lt k e).1
   omega
  have hownW:∀ k,oldv.ownBlock=some k→k<W.heap.size:=fun k e=>by
   obtain⟨_,_,_,_,h,_⟩:=hSh
   exact(h.lt k e).2
  have hS:∀ k,k<w.heap.size+14→k≠w.heap.size+3→k≠w.heap.size+2→k≠w.heap.size+5→k≠w.heap.size+3∧k≠w.heap.size+2∧k≠w.heap.size+5∧oldv.ownBlock≠some k:=
   fun k h1 h2 h3 h4=>⟨h2,h3,h4,hown k h1⟩
  have hst1:IsSteps (fun k=>k<w.heap.size) W (.slice (some ⟨b,off,none⟩) ss.length cap) ss:=hs'.move hI.keep fun k hk _=>⟨trivial,hk⟩
  obtain⟨e0,va,e1,hva⟩:W.cell? ⟨b,off+x*2,none⟩=some (.string ss[x].label)∧∃ va,W.cell? ⟨b,off+x*2+1,none⟩=some va∧IsInts (fun k=>k<w.heap.size) W va ss[x].args:=by
   obtain⟨_,_,he,_,h⟩:=hst1
   cases he
   rcases h with⟨h,_⟩ | ⟨b',off',h,_,_,hc⟩
   · exact absurd hx (by rw[h];simp)
   · cases h
     exact hc x hx
  have hva2:=hva
  obtain⟨a5,c5,rfl,_,_,h5⟩:=hva
  clear h5
  simp only[List.setIfInBounds_toArray,List.set_cons_succ,List.set_cons_zero]
  gi_wp2
  refine Y9 (ShReg (w.heap.size+14) w.heap.size x ss[x].args.length ss[x].label (.slice (some ⟨b,off,none⟩) ss.length cap) (.slice (some ⟨w.heap.size+5,0,none⟩) ss.length ss.length) (.slice a5 ss[x].args.length c5) oldv
   ⟨b,off+x*2,none⟩ olds s L) mixed (by kernel_rfl) ?start ⟨?o0,?o1,?o2,?o3,?o4,?o5,?o6,?o7,?o8,?o9,?o10,?o11,?o12,trivial⟩ ?fin
  case start=>
   refine⟨0,.bool false,by simp only[Zm,Zh,Zbo],⟨?_,?_,(Keeps.refl _ _).drew,?_,fun _=>hSh.keep ((Keeps.refl All _).drew) trivial trivial fun _ _=>trivial,?_,fun _=>hrn,?_⟩⟩
   all_goals (intro h;cases h)
  case o0=>
   rintro b' a' w' hb hd ⟨nb,nv,rfl,hR⟩
   have hR':=hR.same (c':=mark b' 0) (Zn _ (by decide)) (Zn _ (by decide)) (Zn _ (by decide))
   have f1:w'.cell? ⟨w.heap.size+6,0,none⟩=some (.slice (some ⟨w.heap.size+5,0,none⟩) ss.length ss.length):=hR.keep.cell (p:=⟨w.heap.size+6,0,none⟩) (hS _ (by show w.heap.size+6<_;omega) (by show w.heap.size+6≠_;omega) (by show w.heap.size+6≠_;omega) (by show w.heap.size+6≠_;omega)) (hI.nbox.cell 0)
   simp only[Zm,Zh,Zv,Zg,Ze]
   gi_wp2
   refine⟨nb,nv,?_,hR'⟩
   simp[Zm,Zh,Zv,Zg,Ze,mark]
  case o1=>
   rintro b' a' w' hb hd ⟨nb,nv,rfl,hR⟩
   have hR':=hR.same (c':=mark b' 1) (Zn _ (by decide)) (Zn _ (by decide)) (Zn _ (by decide))
   simp only[Zm,Zh,Zv,Zg,Ze]
   gi_wp2
   refine⟨nb,nv,?_,hR'⟩
   simp[Zm,Zh,Zv,Zg,Ze,mark]
  case o2=>
   rintro b' a' w' hb hd ⟨nb,nv,rfl,hR⟩
   have hR':=hR.same (c':=mark b' 2) (Zn _ (by decide)) (Zn _ (by decide)) (Zn _ (by decide))
   have f1:w'.cell? ⟨w.heap.size+4,0,none⟩=some (.pointer (some ⟨w.heap.size+3,0,none⟩)):=hR.keep.cell (p:=⟨w.heap.size+4,0,none⟩) (hS _ (by show w.heap.size+4<_;omega) (by show w.heap.size+4≠_;omega) (by show w.heap.size+4≠_;omega) (by show w.heap.size+4≠_;omega)) (hI.xbox.cell 0)
   simp only[Zm,Zh,Zv,Zg,Ze]
   gi_wp2
   refine⟨nb,nv,?_,hR'⟩
   simp[Zm,Zh,Zv,Zg,Ze,mark]
  case o3=>
   rintro b' a' w' hb hd ⟨nb,nv,rfl,hR⟩
   have hR':=hR.same (c':=mark b' 3) (Zn _ (by decide)) (Zn _ (by decide)) (Zn _ (by decide))
   simp only[Zm,Zh,Zv,Zg,Ze]
   gi_wp2
   refine⟨nb,nv,?_,hR'⟩
   simp[Zm,Zh,Zv,Zg,Ze,mark]
  case o4=>
   rintro b' a' w' hb hd ⟨nb,nv,rfl,hR⟩
   have hR':=hR.same (c':=mark b' 4) (Zn _ (by decide)) (Zn _ (by decide)) (Zn _ (by decide))
   simp[Region.binds]at hd
   have f1:w'.cell? ⟨w.heap.size,0,none⟩=some (.slice (some ⟨b,off,none⟩) ss.length cap):=hR.keep.cell (p:=⟨w.heap.size,0,none⟩) (hS _ (by show w.heap.size<_;omega) (by show w.heap.size≠_;omega) (by show w.heap.size≠_;omega) (by show w.heap.size≠_;omega)) (hI.pbox.cell 0)
   simp only[Zm,Zh,Zv,Zg,Ze]
   gi_wp2
   refine⟨nb,nv,?_,hR'⟩
   simp[Zm,Zh,Zv,Zg,Ze,mark,hd]
  case o5=>
   rintro b' a' w' hb hd ⟨nb,nv,rfl,hR⟩
   have hR':=hR.same (c':=mark b' 5) (Zn _ (by decide)) (Zn _ (by decide)) (Zn _ (by decide))
   simp only[Zm,Zh,Zv,Zg,Ze]
   gi_wp2
   refine⟨nb,nv,?_,hR'⟩
   simp[Zm,Zh,Zv,Zg,Ze,mark]
  case o6=>
   rintro b' a' w' hb hd ⟨nb,nv,rfl,hR⟩
   have hR':=hR.same (c':=mark b' 6) (Zn _ (by decide)) (Zn _ (by decide)) (Zn _ (by decide))
   simp[Region.binds]at hd
   simp only[Zm,Zh,Zv,Zg,Ze]
   gi_wp2
   refine⟨nb,nv,?_,hR'⟩
   simp[Zm,Zh,Zv,Zg,Ze,mark,hd]
  case o7=>
   rintro b' a' w' hb hd ⟨nb,nv,rfl,hR⟩
   have hR':=hR.same (c':=mark b' 7) (Zn _ (by decide)) (Zn _ (by decide)) (Zn _ (by decide))
   simp[Region.binds]at hd
   have f0:w'.cell? ⟨b,off+x*2,none⟩=some (.string ss[x].label):=hR.keep.cell (p:=⟨b,off+x*2,none⟩) (hS _ (by show b<_;omega) (by show b≠_;omega) (by show b≠_;omega) (by show b≠_;omega)) e0
   have f1:w'.cell? ⟨b,off+x*2+1,none⟩=some (.slice a5 ss[x].args.length c5):=hR.keep.cell (p:=⟨b,off+x*2+1,none⟩) (hS _ (by show b<_;omega) (by show b≠_;omega) (by show b≠_;omega) (by show b≠_;omega)) e1
   simp only[Zm,Zh,Zv,Zg,Ze]
   gi_wp2
   refine⟨nb,nv,?_,hR'⟩
   simp[Zm,Zh,Zv,Zg,Ze,mark,hd]
  case o8=>
   rintro b' a' w' hb hd ⟨nb,nv,rfl,hR⟩
   have hR':=hR.same (c':=mark b' 8) (Zn _ (by decide)) (Zn _ (by decide)) (Zn _ (by decide))
   have f1:w'.cell? ⟨w.heap.size+6,0,none⟩=some (.slice (some ⟨w.heap.size+5,0,none⟩) ss.length ss.length):=hR.keep.cell (p:=⟨w.heap.size+6,0,none⟩) (hS _ (by show w.heap.size+6<_;omega) (by show w.heap.size+6≠_;omega) (by show w.heap.size+6≠_;omega) (by show w.heap.size+6≠_;omega)) (hI.nbox.cell 0)
   simp only[Zm,Zh,Zv,Zg,Ze]
   gi_wp2
   refine⟨nb,nv,?_,hR'⟩
   simp[Zm,Zh,Zv,Zg,Ze,mark]
  case o11=>
   rintro b' a' w' hb hd ⟨nb,nv,rfl,hR⟩
   have hR':=hR.same (c':=mark b' 11) (Zn _ (by decide)) (Zn _ (by decide)) (Zn _ (by decide))
   simp[Region.binds]at hd
   simp only[Zm,Zh,Zv,Zg,Ze]
   gi_wp2
   refine⟨nb,nv,?_,hR'⟩
   simp[Zm,Zh,Zv,Zg,Ze,mark,hd]
  case o9=>
   rintro b' a' w' hb hd ⟨nb,nv,rfl,hR⟩
   simp[Region.binds]at hd
   have h10:b' 10=false:=by
    cases h:b' 10 with
    | false=>rfl
    | true=>rw[hR.ord h]at hb;cases hb
   have h12:b' 12=false:=by
    cases h:b' 12 with
    | false=>rfl
    | true=>rw[hR.ord12 h]at h10;cases h10
   have hcall:=Zhp ss[x] L (.agg #[.string ss[x].label,.slice a5 ss[x].args.length c5]) (.slice (some ⟨w.heap.size+5,0,none⟩) ss.length ss.length) w'
    ⟨_,rfl,?hv⟩ ?hn ((hok.2.2 x hx).1) ?ha
   case hv=>
    exact(hva2.keep hR.keep fun k _ hk=>hS k (by omega) (by omega) (by omega) (by omega)).sub fun _ _ _=>trivial
   case hn=>
    have h:=(hR.row0 h12).isInts All trivial (by omega) (fun y hy=>by have:=Hb3.out y hy;omega) ss.length
    rw[hb2]at h
    exact h
   case ha=>
    intro y hy
    have h:=(hok.2.2 x hx).2 y hy
    omega
   have HR:=hid hR
   clear hR
   simp only[Zm,Zh,Zv,Zg,Ze]
   gi_wp2
   refine⟨trivial,fun h=>by simp[Fence.wide]at h,?_⟩
   refine(CallsIn.inRound l (callsIn_wide.2 hcall)).mono ?_
   clear hcall
   rintro e w3 ⟨nb',rfl,hnb,hrow,hk3⟩
   gi_wp2
   refine⟨nb',nv,by simp[Zm,Zh,Zv,Zg,Ze,mark,hd,h10],?_⟩
   have hR:=HR.out
   refine⟨?_,?_,hR.keep.trans (hk3.sub fun _ _ _=>trivial),fun _=>⟨Nat.le_trans hR.keep.size hnb,?_⟩,fun _=>(hR.sh0 h10).keep hk3 trivial trivial fun _ _=>trivial,?_,fun _=>(hR.row0 h12).keep hk3 trivial,?_⟩
   · simp[mark,h10]
   · simp[mark,h12]
   · rw[←hsa.out];exact hrow
   · simp[mark,h10]
   · simp[mark,h12]
  case o10=>
   rintro b' a' w' hb hd ⟨nb,nv,rfl,hR⟩
   have hd2:b' 2=true:=hd { on:=2,ground:=Ground.data } (by simp) rfl
   have hd9:b' 9=true:=hd { on:=9,ground:=Ground.data } (by simp) rfl
   have h12:b' 12=false:=by
    cases h:b' 12 with
    | false=>rfl
    | true=>rw[hR.ord12 h]at hb;cases hb
   obtain⟨hnb,hrow⟩:=hR.call hd9
   have hks:=hR.keep.size
   have hcall:=add_c (w.heap.size+14) (w.heap.size+3) (w.heap.size+2) oldv olds s (.slice (some ⟨nb,0,none⟩) ss[x].args.length ss[x].args.length) w' (hR.sh0 hb) (by omega) (by omega) (by omega) (by omega) (by omega) ?ha
    (by rw[←hsn.out];exact(hok.2.2 x hx).1) ?ht
   case ha=>
    rw[hsn.out]
    refine hrow.isInts _ ⟨by omega,fun e=>absurd (hownW _ e) (by omega)⟩ (by rw[←hsn.out];have:=(hok.2.2 x hx).1;omega) ?_ _
    intro y hy
    rw[←hsa.out]at hy
    obtain⟨q,_,rfl⟩:=List.mem_map.1 hy
    unfold ZaC
    rw[List.getD_eq_getElem?_getD]
    cases hq:L[q.toNat]? with
    | none=>simp
    | some z=>have:=Hb3.out z (List.mem_of_getElem? hq);simp;omega
   case ht=>exact Ht.out.keep (hI.keep.upto hR.keep fun k hk=>hS k (by omega) (by omega) (by omega) (by omega))
   have HR:=hid hR
   clear hR
   rw[←hsl.out]at hcall
   simp only[Zm,Zh,Zv,Zg,Ze,hd2,hd9,cond_true]
   gi_wp2
   refine⟨trivial,fun h=>by simp[Fence.wide]at h,?_⟩
   refine(CallsIn.inRound l (callsIn_wide.2 hcall)).mono ?_
   clear hcall
   rintro e w3 ⟨rfl,v',hsh3,hk3⟩
   gi_wp2
   refine⟨nb,v',by simp[Zm,Zh,Zv,Zg,Ze,mark,hd2,hd9],?_⟩
   have hR:=HR.out
   refine⟨?_,?_,hR.keep.trans (hk3.sub fun k _ h=>⟨h.1,h.2.1,h.2.2.2⟩),fun _=>⟨hnb,hrow.keep hk3 ⟨by omega,by omega,fun e=>absurd (hownW _ e) (by omega)⟩⟩,?_,fun _=>hsh3,fun _=>(hR.row0 h12).keep hk3 ⟨by omega,by omega,hown _ (by omega)⟩,?_⟩
   · simp[mark,hd9]
   · simp[mark,h12]
   · simp[mark]
   · simp[mark,h12]
  case o12=>
   rintro b' a' w' hb hd ⟨nb,nv,rfl,hR⟩
   have hd10:b' 10=true:=hd { on:=10,ground:=Ground.data } (by simp) rfl
   have hd11:b' 11=true:=hd { on:=11,ground:=Ground.data } (by simp) rfl
   have hr0:=hR.row0 hb
   have f1:w'.cell? ⟨w.heap.size+5,x,none⟩=some (.int .i64 L[x]):=hr0.ints_cell hxL
   have f2:=hr0.frozen x
   have HR:=hid hR
   have Hr0:=hid hr0
   clear hR hd hr0
   generalize L[x]=y0 at f1
   simp only[Zm,Zh,Zv,Zg,Ze,hd10,hd11,cond_true]
   gi_wp2
   refine⟨nb,nv,?_,?_⟩
   · simp[Zm,Zh,Zv,Zg,Ze,mark,hd10,hd11]
   have hR:=HR.out
   have hd9:=hR.ord hd10
   obtain⟨q1,q2⟩:=hR.call hd9
   have hkw:Keeps (fun k=>k≠w.heap.size+5) w' (w'.setCell ⟨w.heap.size+5,x,none⟩ (.int .i64 (ZaT olds s))):=(Keeps.refl _ _).setCell (fun _ hn=>hn rfl) _
   refine⟨fun _=>Zw _ hd9,fun _=>Zw _ hd10,hR.keep.trans (hkw.sub fun k _ h=>h.2.2.1),fun _=>⟨q1,q2.keep hkw (by omega)⟩,?_,fun _=>(hR.sh1 hd10).keep hkw (by omega) (by omega) (fun k hk=>by omega),?_,fun _=>?_⟩
   · simp[mark,hd10]
   · simp[mark]
   · rw[←ZdS];exact Hr0.out.set _ _
  case fin=>
   rintro b' a' w' hb ⟨nb,nv,rfl,hR⟩
   have hfst:(Yg ss (pre++[x])).1=Zff olds s:=by rw[Hnext.out,Hs.out];rfl
   have hsnd:(Yg ss (pre++[x])).2=L.set x (ZaT olds s):=by rw[Hnext.out,Hs.out];rfl
   refine⟨⟨hI.keep.upto hR.keep fun k hk=>hS k (by omega) (by omega) (by omega) (by omega),by have:=hR.keep.size;omega,hI.pbox.keep hR.keep (hS _ (by omega) (by omega) (by omega) (by omega)),hI.rbox.keep hR.keep (hS _ (by omega) (by omega) (by omega) (by omega)),
    hI.xbox.keep hR.keep (hS _ (by omega) (by omega) (by omega) (by omega)),hI.nbox.keep hR.keep (hS _ (by omega) (by omega) (by omega) (by omega)),?_,nv,?_⟩,?_⟩
   · rw[hsnd];exact hR.row1 (hb 12 (by decide))
   · rw[hfst];exact hR.sh1 (hb 10 (by decide))
   · refine hR.keep.sub fun k _ hk=>?_
     simp at hk;exact hS k (by omega) (by omega) (by omega) (by omega)
 case done=>
  intro D W hD hI hdef
  obtain⟨v,hsh⟩:=hI.sh
  obtain⟨d0,d0',_⟩:=hsh.1.two
  obtain⟨d1,d2⟩:=hI.rbox.one
  obtain⟨d3,d4⟩:=hI.xbox.one
  have hv:∃ a n c,v= .slice a n c:=by
   obtain⟨_,_,vs,_,h,_⟩:=hsh
   rcases h.2 with⟨rfl,_⟩ | ⟨g,cap,cur,rfl,_⟩
   · exact⟨_,_,_,rfl⟩
   · exact⟨_,_,_,rfl⟩
  obtain⟨a3,n3,c3,rfl⟩:=hv
  have hlt:=hI.xbox.lt
  gi_wp2
  have hne:D≠w.heap.size+1:=by simp at hD;omega
  have hdef':(W.setCell ⟨w.heap.size+1,0,none⟩ (.slice a3 n3 c3)).heap[D]?=some (.deferred (some [])):=by
   rw[Below.heap_setCell _ _ _ _ hne];exact hdef
  have hkp:Keeps (fun k=>k≠D∧k≠w.heap.size+1) W ((W.setCell ⟨w.heap.size+1,0,none⟩ (.slice a3 n3 c3)).putObj D (.deferred none)):=
   QQ ((Keeps.refl _ _).setCell (fun _ (hn:w.heap.size+1≠D∧w.heap.size+1≠w.heap.size+1)=>hn.2 rfl) _) (fun hn=>hn.1 rfl) _
  have hcell:((W.setCell ⟨w.heap.size+1,0,none⟩ (.slice a3 n3 c3)).putObj D (.deferred none)).cell? ⟨w.heap.size+1,0,none⟩=some (.slice a3 n3 c3):=
   ((hI.rbox.set 0 (.slice a3 n3 c3)).keep (S:=fun k=>k≠D) (QQ (Keeps.refl _ _) (fun hn=>hn rfl) _) (fun e=>hne e.symm)).cell 0
  refine⟨by simp,.inl ⟨_,_,rfl,run_takeDeferred hdef',?_⟩⟩
  refine⟨.agg #[.slice a3 n3 c3],?_,_,rfl,?_,?_⟩
  · simp[results,Tryz.results53,go_sem,hcell]
  · obtain⟨hb1,_⟩:=ZbG ss (post ss)
    have hst:=(hsh.2.2.isSteps (by have:=Zaf hok;omega))
    exact⟨_,rfl,hst.move hkp fun k hlt hk=>⟨⟨by simp at hD;omega,by omega⟩,by omega⟩⟩
  · exact hI.keep.upto hkp fun k hlt=>⟨by simp at hD;omega,by omega⟩
end Go.Proofs.YtaigaoflehfdcaaGreatDoor
namespace Go.Proofs.YtaigaoflehfdcaaGreatDoor
open Go.RowKit Go.Shelf
attribute [local go_sem] Oper.semAt_some
theorem ZlP (ss:List Stp) (v:Value) (w:World) (hv:IsProof All w v ss) (hok:Okay ss) (htab:Tab w):
 Calls Tryz.prog 21 #[v] w fun e w'=>∃ vr,e= .returned (.tuple #[vr,.int .i64 0])∧IsProof All w' vr (ZaN ss)∧Keeps All w w':=by
 obtain⟨u,rfl,hs⟩:=hv
 have hform:=ZnP ss (.agg #[u]) (((w.alloc (.cells #[u] 28)).alloc (.cells #[.slice none 0 0] 28))) ⟨u,rfl,hs.keep (((Keeps.refl _ _).alloc _).alloc _) fun _ _ h=>h⟩
 rw[(Xy ss).2 hok]at hform
 have hsh:∀ W,Keeps All w W→Calls Tryz.prog 53 #[.agg #[u]] W fun e w'=>∃ vr,e= .returned vr∧IsProof (fun k=>W.heap.size≤k) w' vr (ZaN ss)∧Keeps All W w':=
  fun W hk=>Zs3 ss _ W ⟨u,rfl,hs.keep hk fun _ _ _=>trivial⟩ hok (htab.keep hk)
 obtain⟨a,cap,rfl,hl,h⟩:=hs
 clear h
 go_enter Tryz.func21,Tryz.ntmps21
 go_wp2_with (go_at_call 36;refine hform.mono ?_;clear hform;rintro e w1 ⟨rfl,hk1⟩;have hk0:Keeps All w w1:=(((Keeps.refl _ _).alloc _).alloc _).trans hk1;have r1:IsRow w1 (w.heap.size+1) 28 [.slice none 0 0]:=IsRow.keep (S:=All) (IsRow.newAt (by simp)) hk1 trivial;have r0:IsRow w1 w.heap.size 28 [.slice a ss.length cap]:=IsRow.keep (S:=All) ((IsRow.new _ _ _).alloc _) hk1 trivial;obtain⟨c1,c2⟩:=r1.one;obtain⟨c3,c4⟩:=r0.one;have hlt1:=r1.lt)
 go_wp2_with (go_at_call 53;refine(hsh _ hk0).mono ?_;clear hsh;rintro e w2 ⟨vr,rfl,⟨u2,rfl,hs2⟩,hk2⟩;have hs2':=hs2;obtain⟨a2,cap2,rfl,_,h⟩:=hs2';clear h;have r2:=r1.keep hk2 trivial;obtain⟨c5,c6⟩:=r2.one)
 have k2:=(r2.set 0 (.slice a2 (ZaN ss).length cap2)).one
 have hkw:Keeps (fun k=>k≠w.heap.size+1) w2 (w2.setCell ⟨w.heap.size+1,0,none⟩ (.slice a2 (ZaN ss).length cap2)):=(Keeps.refl _ _).setCell (fun _ hn=>hn rfl) _
 refine bodyPost_ret (v:=.tuple #[.agg #[.slice a2 (ZaN ss).length cap2],.int .i64 0]) (by simp[results,Tryz.results21,go_sem,k2]) rfl ⟨_,rfl,⟨_,rfl,?_⟩,?_⟩
 · exact hs2.move hkw fun k _ hk=>⟨by omega,trivial⟩
 · exact(hk0.trans hk2).upto hkw fun k hk=>by omega
end Go.Proofs.YtaigaoflehfdcaaGreatDoor
namespace Go.Proofs.YtaigaoflehfdcaaGreatDoor
open Go.RowKit
def OwnIn (S:Nat→Prop) (lo:Nat) (W:World) (v:Value) (ss:List Stp):Prop:=
 ∃ vs:List Value,∃ hl:vs.length=ss.length,W.ownsRow lo 69 2 v ss.length (Xe ss vs)∧
  ∀ i (h:i<ss.length),IsInts (fun k=>S k∧v.ownBlock≠some k) W (vs[i]'(by omega)) ss[i].args
theorem OwnIn.nil (S:Nat→Prop) (lo:Nat) (W:World):OwnIn S lo W (.slice none 0 0) []:=
 ⟨[],rfl,World.ownsRow_nil W lo _ _,fun i h=>by simp at h⟩
theorem Zcp {lo:Nat} {W W':World} {v:Value} {n:Nat} {xs:List Value} {e:TypeId} {size:Nat} {T:Nat→Prop} (h:W.ownsRow lo e size v n xs) (hk:Keeps T W W') (hv:∀ k,v.ownBlock=some k→T k):W'.ownsRow lo e size v n xs:=by
 refine⟨h.1,?_⟩
 rcases h.2 with hn | ⟨g,cap,cur,rfl,hb,hg,rest⟩
 · exact Or.inl hn
 · exact Or.inr ⟨g,cap,cur,rfl,hb,(hk.block g (Array.getElem?_eq_some_iff.1 hg).1 (hv g rfl)).trans hg,rest⟩
theorem OwnIn.keep {S T:Nat→Prop} {lo:Nat} {W W':World} {v:Value} {ss:List Stp} (h:OwnIn S lo W v ss) (hk:Keeps T W W') (hv:∀ k,v.ownBlock=some k→T k) (hs:∀ k,k<W.heap.size→S k→v.ownBlock≠some k→T k):OwnIn S lo W' v ss:=by
 obtain⟨vs,hl,ho,hi⟩:=h
 exact⟨vs,hl,Zcp ho hk hv,fun i h=>(hi i h).keep hk fun k hlt h=>hs k hlt h.1 h.2⟩
theorem OwnIn.sub {S S':Nat→Prop} {lo:Nat} {W:World} {v:Value} {ss:List Stp} (h:OwnIn S lo W v ss) (hs:∀ k,k<W.heap.size→S k→S' k):OwnIn S' lo W v ss:=by
 obtain⟨vs,hl,ho,hi⟩:=h
 exact⟨vs,hl,ho,fun i h=>(hi i h).sub fun k hlt h=>⟨hs k hlt h.1,h.2⟩⟩
theorem OwnIn.lt {S:Nat→Prop} {lo:Nat} {W:World} {v:Value} {ss:List Stp} (h:OwnIn S lo W v ss) {k:Nat} (hk:v.ownBlock=some k):lo≤k∧k<W.heap.size:=by
 obtain⟨vs,hl,ho,hi⟩:=h
 exact ho.lt k hk
theorem OwnIn.form {S:Nat→Prop} {lo:Nat} {W:World} {v:Value} {ss:List Stp} (h:OwnIn S lo W v ss):∃ a c,v= .slice a ss.length c:=by
 obtain⟨vs,hl,ho,hi⟩:=h
 rcases ho.2 with⟨rfl,h0⟩ | ⟨g,cap,cur,rfl,_⟩
 · rw[h0];exact⟨_,_,rfl⟩
 · exact⟨_,_,rfl⟩
theorem OwnIn.snoc {S:Nat→Prop} {lo:Nat} {W W':World} {v v':Value} {ss:List Stp} {s:Stp} {va:Value} {vs:List Value} (hl:vs.length=ss.length)
 (hi:∀ i (h:i<ss.length),IsInts (fun k=>S k∧v.ownBlock≠some k) W (vs[i]'(by omega)) ss[i].args)
 (ha:IsInts (fun k=>S k∧v.ownBlock≠some k) W va s.args)
 (ho':W'.ownsRow lo 69 2 v' (ss.length+1) (Xe ss vs++[.string s.label,va])) (hg:W.grownBy W' v.ownBlock)
 (hnew:v'.ownBlock=v.ownBlock∨ ∀ k,v'.ownBlock=some k→W.heap.size≤k):OwnIn S lo W' v' (ss++[s]):=by
 have hk:Keeps (fun k=>v.ownBlock≠some k) W W':=⟨hg.os,hg.tape,hg.output,hg.size,fun k hk hs=>hg.block k hk (fun e=>hs e.symm)⟩
 have hsub:∀ k,k<W.heap.size→(S k∧v.ownBlock≠some k)→v.ownBlock≠some k∧(S k∧v'.ownBlock≠some k):=fun k hlt hk=>⟨hk.2,hk.1,by
  rcases hnew with h | h
  · rw[h];exact hk.2
  · intro e;have:=h k e;omega⟩
 refine⟨vs++[va],by simp[hl],?_,?_⟩
 · rw[Zae _ _ _ _ hl,List.length_append];exact ho'
 · intro i h
   by_cases hlt:i<ss.length
   · have h1:=(hi i hlt).move hk hsub
     simp only[List.getElem_append_left (show i<vs.length by omega),List.getElem_append_left hlt]
     exact h1
   · have h2:i=ss.length:=by simp at h;omega
     subst h2
     have h1:=ha.move hk hsub
     simp only[List.getElem_append_right (show vs.length≤ss.length by omega),List.getElem_append_right (Nat.le_refl _),Nat.sub_self,hl,List.getElem_cons_zero]
     exact h1
theorem OwnIn.toSteps {lo:Nat} {W:World} {v:Value} {ss:List Stp} (h:OwnIn (fun k=>lo≤k) lo W v ss):OwnSteps lo W v ss:=h
theorem Zp0 {W:World} {lo:Nat} {v:Value} {xs:List Int} (h:W.ownsRow lo 3 1 v xs.length (ints xs)) (hl:xs.length≤140737488351232) (hx:∀ x∈xs, -9223372036854775808≤x∧x≤9223372036854775807)
 (S:Nat→Prop) (hS:∀ k,v.ownBlock=some k→S k):IsInts S W v xs:=by
 rcases h.2 with⟨rfl,h0⟩ | ⟨g,cap,cur,rfl,hb,hg,_⟩
 · have:xs=[]:=List.eq_nil_of_length_eq_zero h0
   subst this
   exact⟨none,0,rfl,hl,hx,Or.inl ⟨rfl,trivial⟩⟩
 · refine⟨_,cap,rfl,hl,hx,Or.inr ⟨g,0,rfl,(Array.getElem?_eq_some_iff.1 hg).1,hS g rfl,fun i hi=>?_⟩⟩
   have hc:=h.cells (g:=g) rfl
   have hadd:∀ j,(⟨g,0,none⟩:Addr).add j=⟨g,j,none⟩:=fun j=>by unfold Addr.add;split<;>simp_all
   have:=hc i (.int .i64 xs[i]) (by rw[Q9,List.getElem?_eq_getElem hi];rfl)
   rw[hadd]at this
   simpa using this
end Go.Proofs.YtaigaoflehfdcaaGreatDoor
namespace Go.Proofs.YtaigaoflehfdcaaGreatDoor
open Go.RowKit
attribute [local go_sem] Oper.semAt_some
structure EState (S:Nat→Prop) (ss:List Stp) (lo pb wb ob:Nat) (ps:Value) (Prot:Nat→Prop) (W:World) (v:Value) (outs:List Stp):Prop where
 size:lo≤W.heap.size
 pbox:IsRow W pb 28 [ps]
 psteps:IsSteps Prot W ps ss
 wbox:IsRow W wb 111 [.func (.func 67) #[] #[.pointer (some ⟨pb,0,none⟩),.pointer (some ⟨wb,0,none⟩),.pointer (some ⟨ob,0,none⟩)]]
 obox:IsRow W ob 28 [v]
 out:OwnIn S lo W v outs
theorem EState.keep {S:Nat→Prop} {ss:List Stp} {lo pb wb ob:Nat} {ps:Value} {Prot:Nat→Prop} {A B:World} {v:Value} {outs:List Stp} (h:EState S ss lo pb wb ob ps Prot A v outs) {T:Nat→Prop} (hk:Keeps T A B)
 (hp:T pb) (hw:T wb) (ho:T ob) (hP:∀ k,Prot k→T k) (hv:∀ k,v.ownBlock=some k→T k) (hs:∀ k,k<A.heap.size→S k→v.ownBlock≠some k→T k):EState S ss lo pb wb ob ps Prot B v outs:=
 ⟨Nat.le_trans h.size hk.size,h.pbox.keep hk hp,h.psteps.keep hk fun k _ h=>hP k h,h.wbox.keep hk hw,h.obox.keep hk ho,h.out.keep hk hv hs⟩
theorem EState.sub {S S':Nat→Prop} {ss:List Stp} {lo pb wb ob:Nat} {ps:Value} {Prot:Nat→Prop} {A:World} {v:Value} {outs:List Stp} (h:EState S ss lo pb wb ob ps Prot A v outs) (hs:∀ k,k<A.heap.size→S k→S' k):EState S' ss lo pb wb ob ps Prot A v outs:=
 ⟨h.size,h.pbox,h.psteps,h.wbox,h.obox,h.out.sub hs⟩
def SX (S:Nat→Prop) (sb:Nat) (sv:Value) (q:Nat):Prop:=S q∧q≠sb∧sv.ownBlock≠some q
def EPost (S:Nat→Prop) (ss:List Stp) (lo pb wb ob:Nat) (ps:Value) (Prot:Nat→Prop) (W:World) (v:Value) (outs:List Stp) (w':World):Prop:=
 ∃ v',EState S ss lo pb wb ob ps Prot w' v' outs∧Keeps (fun k=>k≠ob∧v.ownBlock≠some k) W w'∧(v'.ownBlock=v.ownBlock∨ ∀ k,v'.ownBlock=some k→W.heap.size≤k)
structure WrInv (S:Nat→Prop) (ss:List Stp) (lo pb wb ob sb tb:Nat) (ps:Value) (Prot:Nat→Prop) (v1 v2 sv sv':Value) (outs outs2:List Stp) (nums:List Int) (r:Int) (lab:ByteArray) (W0:World) (c:Nat→Bool) (w:World):Prop where
 ord1:c 6=true→c 1=true
 ord5:c 5=true→c 4=true
 ord6:c 6=true→c 5=true
 ord8:c 8=true→c 6=true
 keep:Keeps (fun k=>k≠ob∧v1.ownBlock≠some k∧k≠sb∧sv.ownBlock≠some k) W0 w
 st0:c 4=false→EState S ss lo pb wb ob ps Prot w v1 outs
 st1:c 4=true→EState S ss lo pb wb ob ps Prot w v2 outs2
 wh:c 4=true→v2.ownBlock=v1.ownBlock∨ ∀ k,v2.ownBlock=some k→W0.heap.size≤k
 tmp:c 5=true→c 6=false→IsRow w tb 3 [.int .i64 r]
 row0:c 6=false→w.ownsRow (sb+1) 3 1 sv nums.length (ints nums)
 row1:c 6=true→w.ownsRow (sb+1) 3 1 sv' (nums.length+1) (ints (nums++[r]))
 dis1:c 6=true→(∀ k,sv'.ownBlock=some k→v2.ownBlock≠some k)∧(sv'.ownBlock=sv.ownBlock∨ ∀ k,k<W0.heap.size→sv'.ownBlock≠some k)∧OwnIn (fun k=>S k∧sv'.ownBlock≠some k) lo w v2 outs2
 box0:c 8=false→IsRow w sb 69 [.string lab,sv]
 box1:c 8=true→IsRow w sb 69 [.string lab,sv']
theorem WrInv.same {S:Nat→Prop} {ss:List Stp} {lo pb wb ob sb tb:Nat} {ps:Value} {Prot:Nat→Prop} {v1 v2 sv sv':Value} {outs outs2:List Stp} {nums:List Int} {r:Int} {lab:ByteArray} {W0:World} {c c':Nat→Bool} {w:World}
 (h:WrInv S ss lo pb wb ob sb tb ps Prot v1 v2 sv sv' outs outs2 nums r lab W0 c w) (h1:c 1=true→c' 1=true) (h4:c' 4=c 4) (h5:c' 5=c 5) (h6:c' 6=c 6) (h8:c' 8=c 8):
 WrInv S ss lo pb wb ob sb tb ps Prot v1 v2 sv sv' outs outs2 nums r lab W0 c' w:=by
 obtain⟨a0,a1,a2,a3,a4,a5,a6,a7,a8,a9,a10,a11,a12,a13⟩:=h
 exact⟨by rw[h6];exact fun h=>h1 (a0 h),by rw[h5,h4];exact a1,by rw[h6,h5];exact a2,by rw[h8,h6];exact a3,a4,by rw[h4];exact a5,by rw[h4];exact a6,by rw[h4];exact a7,by rw[h5,h6];exact a8,by rw[h6];exact a9,by rw[h6];exact a10,by rw[h6];exact a11,by rw[h8];exact a12,by rw[h8];exact a13⟩
def WrReg (S:Nat→Prop) (ss:List Stp) (lo pb wb ob sb:Nat) (ps:Value) (Prot:Nat→Prop) (v1:Value) (a3:Option Addr) (k c3:Nat) (outs outs2:List Stp) (nums:List Int) (r:Int) (z:Int) (lab:ByteArray) (T:Array Value) (W0:World) (c:Nat→Bool) (a':Act) (w':World):Prop:=
 ∃(tb:Nat) (v2:Value) (a4:Option Addr) (c4:Nat),a'=Act.mk (sIs T [(c 0,27,.pointer (some ⟨sb,1,none⟩)),(c 1,28,.slice a3 k c3),
  (c 2,29,.func (.func 67) #[] #[.pointer (some ⟨pb,0,none⟩),.pointer (some ⟨wb,0,none⟩),.pointer (some ⟨ob,0,none⟩)]),(c 3,30,.int .i64 z),(c 4,31,.int .i64 r),(c 5,32,.slice (some ⟨tb,0,none⟩) 1 1),
  (c 6,33,.slice a4 (k+1) c4),(c 7,34,.pointer (some ⟨sb,1,none⟩))]) []∧
  WrInv S ss lo pb wb ob sb tb ps Prot v1 v2 (.slice a3 k c3) (.slice a4 (k+1) c4) outs outs2 nums r lab W0 c w'
set_option maxHeartbeats 2000000 in
theorem Zn2 (ss:List Stp) (hok:Okay ss) (lo pb wb ob:Nat) (ps:Value) (Prot:Nat→Prop) (hP:∀ k,Prot k→k<lo∧k≠ob) (hpl:pb<lo∧pb≠ob) (hwl:wb<lo∧wb≠ob) (hol:ob<lo):
 ∀(f i:Nat) (S:Nat→Prop) (v:Value) (outs:List Stp) (W:World),i<f→i<ss.length→EState S ss lo pb wb ob ps Prot W v outs→(∀ k,W.heap.size≤k→S k)→(∀ k,S k→lo≤k)→outs.length+tsize (treeAt ss i)≤2000→
  Calls Tryz.prog 67 #[.int .i64 (i:Int),.pointer (some ⟨pb,0,none⟩),.pointer (some ⟨wb,0,none⟩),.pointer (some ⟨ob,0,none⟩)] W fun e w'=>
   e= .returned (.int .i64 (((outs.length+tsize (treeAt ss i):Nat):Int)-1))∧EPost S ss lo pb wb ob ps Prot W v (outs++flat (treeAt ss i) outs.length) w':=by
 intro f
 induction f with
 | zero=>intro i S v outs W hi;omega
 | succ f ih=>
  intro i S v outs W hi hil hE hS hSlo hlen
  have hE':=hE
  have hc:=hE.psteps
  obtain⟨a,cap,hps,_,hc⟩:=hc
  subst hps
  rcases hc with⟨hu,_⟩ | ⟨b,off,rfl,hB,hPb,hc⟩
  · rw[hu]at hil;simp at hil
  obtain⟨d0,va,d1,hva⟩:=hc i hil
  clear hc
  have hva':=hva
  obtain⟨a2,cap2,rfl,hl2,hx2,h2⟩:=hva'
  clear h2 hx2
  obtain⟨p0,_⟩:=hE.pbox.one
  have hpb1:pb<W.heap.size:=by have:=hE.size;omega
  have hB1:b<W.heap.size:=hB
  obtain⟨trees,htr⟩:∃ trees,trees=ss[i].args.map (fun a=>treeAt ss a.toNat):=⟨_,rfl⟩
  have hT:treeAt ss i= .node ss[i].label trees:=by rw[hok.treeAt hil,htr]
  rw[hT]at hlen
  simp only[hT,tsize,flat]at hlen ⊢
  have htl:trees.length=ss[i].args.length:=by rw[htr,List.length_map]
  have Htr:=hid htr
  have Htl:=hid htl
  have HS:=hid hS
  have HSlo:=hid hSlo
  have HP:=hid hP
  have HI:=hid ih
  have hvlt:=hid (fun k (h:v.ownBlock=some k)=>hE.out.lt h)
  have hsize:=hE.size
  clear hS hSlo hP ih hT htr htl
  refine(callsIn_wide (n:=5)).1 ?_
  refine callsIn_of_wp Tryz.func67 rfl trivial ?_ rfl
  simp only[Tryz.ntmps67,List.size_toArray,List.length_cons,List.length_nil,Nat.reduceAdd,Nat.reduceSub,Array.replicate_succ,Array.replicate_zero,List.push_toArray,List.append_toArray,List.nil_append,List.cons_append]
  gi_wp2
  gi_loopw [8,23] (fun i8 iv wr=>∃(k:Nat) (v1:Value) (a3:Option Addr) (c3:Nat),k≤ss[i].args.length∧iv= .int .i64 k∧
   EState (SX S W.heap.size (.slice a3 k c3)) ss lo pb wb ob (.slice (some ⟨b,off,none⟩) ss.length cap) Prot wr v1 (outs++(flats (trees.take k) outs.length).1)∧
   wr.ownsRow (W.heap.size+1) 3 1 (.slice a3 k c3) k (ints (flats (trees.take k) outs.length).2)∧IsRow wr W.heap.size 69 [.string ss[i].label,.slice a3 k c3]∧
   Keeps (fun q=>q≠ob∧v.ownBlock≠some q) W wr∧Hid (v1.ownBlock=v.ownBlock∨ ∀ q,v1.ownBlock=some q→W.heap.size+1≤q)∧Hid (∀ q,(Value.slice a3 k c3).ownBlock=some q→v1.ownBlock≠some q)) (fun _ iv _=>ss[i].args.length-(intOf iv).toNat)
  case atStart=>
   have hk0:Keeps All W (W.alloc (.cells #[.string ss[i].label,.slice none 0 0] 69)):=(Keeps.refl _ _).alloc _
   refine⟨0,v,none,0,Nat.zero_le _,rfl,?_,?_,IsRow.newAt rfl,hk0.sub fun _ _ _=>trivial,Or.inl rfl,fun q h=>by cases h⟩
   · have h1:=(hE'.sub (S':=SX S W.heap.size (.slice none 0 0)) fun q hq h=>⟨h,by omega,fun e=>by cases e⟩).keep hk0 trivial trivial trivial (fun _ _=>trivial) (fun _ _=>trivial) (fun _ _ _ _=>trivial)
     simpa [flats]using h1
   · exact World.ownsRow_nil _ _ _ _
  case round=>
   obtain⟨k,v1,a3,c3,hk,rfl,hE1,hrow,hsb,hkp,hwh,hdis⟩:=hrel
   by_cases hlt:k<ss[i].args.length
   · have hcell:∃ b off,a2=some ⟨b,off,none⟩∧wr.cell? ⟨b,off+k,none⟩=some (.int .i64 ss[i].args[k]):=by
      have hva2:=hva.keep hkp fun q _ hq=>⟨(HP.out q hq).2,fun e=>by have:=hvlt.out q e;have:=HP.out q hq;omega⟩
      obtain⟨_,_,he,_,_,h⟩:=hva2
      cases he
      rcases h with⟨h,_⟩ | ⟨b,off,rfl,_,_,hcc⟩
      · rw[h]at hlt;simp at hlt
      · exact⟨b,off,rfl,hcc k hlt⟩
     obtain⟨b2,off2,rfl,c7⟩:=hcell
     obtain⟨z,hz,hzc⟩:∃ z:Nat,ss[i].args[k]=(z:Int)∧z<i:=by
      have h1:=(hok.2.2 i hil).2 _ (List.getElem_mem hlt)
      exact⟨ss[i].args[k].toNat,by omega,by omega⟩
     rw[hz]at c7
     have hkt:k<trees.length:=by rw[Htl.out];exact hlt
     have htk:trees[k]=treeAt ss z:=by simp only[Htr.out,List.getElem_map,hz,Int.toNat_natCast]
     have hsnoc:=Zc9 (treeAt ss z) (trees.take k) outs.length
     rw[←htk,←List.take_succ_eq_append_getElem hkt,htk]at hsnoc
     have hsum:(flats (trees.take k) outs.length).1.length+tsize (treeAt ss z)≤tsizes trees:=by
      have h1:trees=trees.take (k+1)++trees.drop (k+1):=(List.take_append_drop _ _).symm
      have h2:=congrArg tsizes h1
      rw[X3,List.take_succ_eq_append_getElem hkt,htk,X3,tsizes,tsizes]at h2
      rw[flats_length];omega
     have hcount:(flats (trees.take k) outs.length).2.length=k:=by rw[QV,List.length_take];omega
     obtain⟨outs1,ho1⟩:∃ o,o=outs++(flats (trees.take k) outs.length).1:=⟨_,rfl⟩
     obtain⟨nums,hnm⟩:∃ o,o=(flats (trees.take k) outs.length).2:=⟨_,rfl⟩
     have hol1:outs1.length=outs.length+(flats (trees.take k) outs.length).1.length:=by rw[ho1,List.length_append]
     have hn1:outs++(flats (trees.take (k+1)) outs.length).1=outs1++flat (treeAt ss z) outs1.length:=by rw[hsnoc,←List.append_assoc,←ho1,hol1]
     obtain⟨r,hr⟩:∃ r:Int,r=((outs1.length+tsize (treeAt ss z):Nat):Int)-1:=⟨_,rfl⟩
     have hn2:(flats (trees.take (k+1)) outs.length).2=nums++[r]:=by rw[hsnoc,←hnm,hr,hol1]
     rw[←ho1]at hE1
     rw[←hnm]at hrow
     rw[←hnm]at hcount
     have hlen1:outs1.length+tsize (treeAt ss z)≤2000:=by omega
     have hrlen:nums.length≤2000:=by have:=(hok.2.2 i hil).1;omega
     have Hn1:=hid hn1
     have Hn2:=hid hn2
     have Hr:=hid hr
     have Hc:=hid hcount
     clear hn1 hn2 hr hcount ho1 hnm hsnoc htk hsum hol1
     have hkz:=hkp.size
     have hsvl:Hid (∀ q,(Value.slice a3 k c3).ownBlock=some q→W.heap.size+1≤q∧q<wr.heap.size):=fun q e=>hrow.lt q e
     have hv1l:Hid (∀ q,v1.ownBlock=some q→lo≤q∧q<wr.heap.size∧q≠W.heap.size):=fun q e=>by
      have h1:=hE1.out.lt e
      rcases hwh.out with h | h
      · rw[h]at e;have:=hvlt.out q e;omega
      · have:=h q e;omega
     have hszr:W.heap.size<wr.heap.size:=hsb.lt
     gi_wp2
     refine Y9 (WrReg (SX S W.heap.size (.slice a3 k c3)) ss lo pb wb ob W.heap.size (.slice (some ⟨b,off,none⟩) ss.length cap) Prot v1 a3 k c3 outs1 (outs1++flat (treeAt ss z) outs1.length) nums r z ss[i].label) mixed (by kernel_rfl) ?start
      ⟨?o0,?o1,?o2,?o3,?o4,?o5,?o6,?o7,?o8,trivial⟩ ?fin
     case start=>
      refine⟨0,.bool false,none,0,by simp only[Zm,Zh,Zbo],?_⟩
      have hk0:Keeps All wr wr.drew:=(Keeps.refl _ _).drew
      refine⟨?_,?_,?_,?_,(Keeps.refl _ _).drew,fun _=>hE1.keep hk0 trivial trivial trivial (fun _ _=>trivial) (fun _ _=>trivial) (fun _ _ _ _=>trivial),?_,?_,?_,fun _=>by rw[Hc.out];exact hrow,?_,?_,fun _=>hsb,?_⟩
      all_goals (intro h;cases h)
     case o0=>
      rintro b' a' w' hb hd ⟨tb,v2,a4,c4,rfl,hR⟩
      have hR':=hR.same (c':=mark b' 0) (Zw _) (Zn _ (by decide)) (Zn _ (by decide)) (Zn _ (by decide)) (Zn _ (by decide))
      simp only[Zm,Zh,Zv,Zg,Ze]
      gi_wp2
      refine⟨tb,v2,a4,c4,?_,hR'⟩
      simp[Zm,Zh,Zv,Zg,Ze,mark]
     case o1=>
      rintro b' a' w' hb hd ⟨tb,v2,a4,c4,rfl,hR⟩
      have hR':=hR.same (c':=mark b' 1) (Zw _) (Zn _ (by decide)) (Zn _ (by decide)) (Zn _ (by decide)) (Zn _ (by decide))
      simp[Region.binds]at hd
      have h8:b' 8=false:=by
       cases h:b' 8 with
       | false=>rfl
       | true=>rw[hR.ord1 (hR.ord8 h)]at hb;cases hb
      obtain⟨_,_,f1,_⟩:=(hR.box0 h8).two
      simp only[Zm,Zh,Zv,Zg,Ze]
      gi_wp2
      refine⟨tb,v2,a4,c4,?_,hR'⟩
      simp[Zm,Zh,Zv,Zg,Ze,mark,hd]
     case o2=>
      rintro b' a' w' hb hd ⟨tb,v2,a4,c4,rfl,hR⟩
      have hR':=hR.same (c':=mark b' 2) (Zw _) (Zn _ (by decide)) (Zn _ (by decide)) (Zn _ (by decide)) (Zn _ (by decide))
      obtain⟨f1,_⟩:w'.cell? ⟨wb,0,none⟩=some (.func (.func 67) #[] #[.pointer (some ⟨pb,0,none⟩),.pointer (some ⟨wb,0,none⟩),.pointer (some ⟨ob,0,none⟩)])∧True:=by
       refine⟨?_,trivial⟩
       cases h:b' 4 with
       | false=>exact(hR.st0 h).wbox.cell 0
       | true=>exact(hR.st1 h).wbox.cell 0
      simp only[Zm,Zh,Zv,Zg,Ze]
      gi_wp2
      refine⟨tb,v2,a4,c4,?_,hR'⟩
      simp[Zm,Zh,Zv,Zg,Ze,mark]
     case o3=>
      rintro b' a' w' hb hd ⟨tb,v2,a4,c4,rfl,hR⟩
      have hR':=hR.same (c':=mark b' 3) (Zw _) (Zn _ (by decide)) (Zn _ (by decide)) (Zn _ (by decide)) (Zn _ (by decide))
      simp only[Zm,Zh,Zv,Zg,Ze]
      gi_wp2
      refine⟨tb,v2,a4,c4,?_,hR'⟩
      simp[Zm,Zh,Zv,Zg,Ze,mark]
     case o7=>
      rintro b' a' w' hb hd ⟨tb,v2,a4,c4,rfl,hR⟩
      have hR':=hR.same (c':=mark b' 7) (Zw _) (Zn _ (by decide)) (Zn _ (by decide)) (Zn _ (by decide)) (Zn _ (by decide))
      simp only[Zm,Zh,Zv,Zg,Ze]
      gi_wp2
      refine⟨tb,v2,a4,c4,?_,hR'⟩
      simp[Zm,Zh,Zv,Zg,Ze,mark]
     case o4=>
      rintro b' a' w' hb hd ⟨tb,v2,a4,c4,rfl,hR⟩
      have hd2:b' 2=true:=hd { on:=2,ground:=Ground.data } (by simp) rfl
      have hd3:b' 3=true:=hd { on:=3,ground:=Ground.data } (by simp) rfl
      have h5:b' 5=false:=by
       cases h:b' 5 with
       | false=>rfl
       | true=>rw[hR.ord5 h]at hb;cases hb
      have h6:b' 6=false:=by
       cases h:b' 6 with
       | false=>rfl
       | true=>rw[hR.ord6 h]at h5;cases h5
      have h8:b' 8=false:=by
       cases h:b' 8 with
       | false=>rfl
       | true=>rw[hR.ord8 h]at h6;cases h6
      have hks:=hR.keep.size
      have hcall:=HI.out z (SX S W.heap.size (.slice a3 k c3)) v1 outs1 w' (by omega) (by omega) (hR.st0 hb) (fun q hq=>⟨HS.out q (by omega),by omega,fun e=>by have:=hsvl.out q e;omega⟩) (fun q hq=>HSlo.out q hq.1) hlen1
      rw[←Hr.out]at hcall
      have HR:=hid hR
      clear hR
      simp only[Zm,Zh,Zv,Zg,Ze,hd2,hd3,cond_true]
      gi_wp2
      refine⟨trivial,?_⟩
      refine(callsIn_wide.2 hcall).mono ?_
      clear hcall
      rintro e w3 ⟨rfl,v2',hE3,hk3,hw3⟩
      gi_wp2
      have hR:=HR.out
      refine⟨tb,v2',a4,c4,by simp[Zm,Zh,Zv,Zg,Ze,mark,hd2,hd3,h5,h6],?_⟩
      refine⟨?_,fun _=>Znh _ _,?_,?_,hR.keep.trans (hk3.sub fun _ _ h=>⟨h.1,h.2.1⟩),?_,fun _=>hE3,fun _=>?_,?_,fun _=>?_,?_,?_,fun _=>?_,?_⟩
      · simp[mark,h6]
      · simp[mark,h6]
      · simp[mark,h8]
      · simp[mark]
      · rcases hw3 with h | h
        · exact Or.inl h
        · exact Or.inr fun q e=>by have:=h q e;omega
      · simp[mark,h5]
      · exact Zcp (hR.row0 h6) hk3 fun q e=>⟨by have:=hsvl.out q e;omega,fun e1=>hdis.out q e e1⟩
      · simp[mark,h6]
      · simp[mark,h6]
      · exact(hR.box0 h8).keep hk3 ⟨by omega,fun e=>(hv1l.out _ e).2.2 rfl⟩
      · simp[mark,h8]
     case o5=>
      rintro b' a' w' hb hd ⟨tb,v2,a4,c4,rfl,hR⟩
      have hd4:b' 4=true:=hd { on:=4,ground:=Ground.data } (by simp) rfl
      have h6:b' 6=false:=by
       cases h:b' 6 with
       | false=>rfl
       | true=>rw[hR.ord6 h]at hb;cases hb
      have h8:b' 8=false:=by
       cases h:b' 8 with
       | false=>rfl
       | true=>rw[hR.ord8 h]at h6;cases h6
      have HR:=hid hR
      clear hR
      simp only[Zm,Zh,Zv,Zg,Ze,hd4,cond_true]
      gi_wp2
      have hR:=HR.out
      have hk0:Keeps All w' (w'.alloc (.cells #[.int .i64 r] 3)):=(Keeps.refl _ _).alloc _
      refine⟨w'.heap.size,v2,a4,c4,by simp[Zm,Zh,Zv,Zg,Ze,mark,hd4,h6],?_⟩
      refine⟨?_,fun _=>Zw _ hd4,?_,?_,hR.keep.alloc _,?_,fun _=>(hR.st1 hd4).keep hk0 trivial trivial trivial (fun _ _=>trivial) (fun _ _=>trivial) (fun _ _ _ _=>trivial),fun _=>hR.wh hd4,fun _ _=>IsRow.new _ _ _,fun _=>Zcp (hR.row0 h6) hk0 fun _ _=>trivial,?_,?_,fun _=>(hR.box0 h8).alloc _,?_⟩
      · simp[mark,h6]
      · simp[mark]
      · simp[mark,h8]
      · simp[mark,hd4]
      · simp[mark,h6]
      · simp[mark,h6]
      · simp[mark,h8]
     case o6=>
      rintro b' a' w' hb hd ⟨tb,v2,a4,c4,rfl,hR⟩
      have hd1:b' 1=true:=hd { on:=1,ground:=Ground.data } (by simp) rfl
      have hd5:b' 5=true:=hd { on:=5,ground:=Ground.data } (by simp) rfl
      have hd4:=hR.ord5 hd5
      have h8:b' 8=false:=by
       cases h:b' 8 with
       | false=>rfl
       | true=>rw[hR.ord8 h]at hb;cases hb
      obtain⟨t0,_⟩:=(hR.tmp hd5 hb).one
      have hrow1:=hR.row0 hb
      obtain⟨i0,hi0,hz0,hz1,hz2⟩:=info_parts Zj9
      have hks:=hR.keep.size
      have HR:=hid hR
      clear hR hd
      simp only[Zm,Zh,Zv,Zg,Ze,hd1,hd5,cond_true]
      rw[Hc.out]at hrow1
      refine Xn _ rfl (.tmp 28) (.tmp 32) 67 rfl (W.heap.size+1) 3 i0 _ 1 8 Tryz.underlying67 hi0 hz0 hz1 hz2 rfl (by decide) _ _ _ rfl hrow1 ⟨tb,0,none⟩ 1 1 [.int .i64 r] rfl rfl ?c1 ?c2 ?c3 ?c4 ?c5 ?_
      case c1=>
       intro j u hu
       have hadd:(⟨tb,0,none⟩:Addr).add j=⟨tb,j,none⟩:=by unfold Addr.add;split<;>simp_all
       rw[hadd]
       rcases j with _ | j
       · simp at hu;subst hu;exact t0
       · simp at hu
      case c2=>intro u hu;simp at hu;subst hu;rfl
      case c3=>have:=Hc.out;unfold maxLen;omega
      case c4=>have:=Hc.out;omega
      case c5=>omega
      intro v' w3 hown3 hg3 hw3
      obtain⟨g',cap',rfl⟩:=ownsRow_succ hown3
      refine⟨tb,v2,some ⟨g',0,none⟩,cap',?_,?_⟩
      · simp[Act.put,Zm,Zh,Zv,Zg,Ze,mark,hd1,hd5]
      have hR:=HR.out
      have hkw:Keeps (fun q=>(Value.slice a3 k c3).ownBlock≠some q) w' w3:=⟨hg3.os,hg3.tape,hg3.output,hg3.size,fun q hlt hs=>hg3.block q hlt (fun e=>hs e.symm)⟩
      have hE2:=hR.st1 hd4
      have hv2:∀ q,v2.ownBlock=some q→(Value.slice a3 k c3).ownBlock≠some q:=fun q e e1=>by
       rcases hR.wh hd4 with h | h
       · rw[h]at e;exact hdis.out q e1 e
       · have:=h q e;have:=hsvl.out q e1;omega
      have hlow:∀ q,q<lo→(Value.slice a3 k c3).ownBlock≠some q:=fun q hq e=>by have:=hsvl.out q e;omega
      have hsb':(Value.slice a3 k c3).ownBlock≠some W.heap.size:=fun e=>by have:=hsvl.out _ e;omega
      have hnew:∀ q,q<w'.heap.size→(Value.slice a3 k c3).ownBlock≠some q→(Value.slice (some ⟨g',0,none⟩) (k+1) cap').ownBlock≠some q:=fun q hq hne e=>by
       rcases hw3 with h | h
       · rw[h]at e;exact hne e
       · rw[h]at e;cases e;omega
      refine⟨fun _=>Zw _ hd1,?_,fun _=>Zw _ hd5,?_,hR.keep.trans (hkw.sub fun _ _ h=>h.2.2.2),?_,fun _=>hE2.keep hkw (hlow _ (by omega)) (hlow _ (by omega)) (hlow _ (by omega)) (fun q hq=>hlow q (HP.out q hq).1) hv2 (fun q _ hq _=>hq.2.2),fun _=>hR.wh hd4,?_,?_,fun _=>?_,fun _=>⟨?_,?_,?_⟩,fun _=>(hR.box0 h8).keep hkw hsb',?_⟩
      · simp[mark,hd4]
      · simp[mark]
      · simp[mark,hd4]
      · simp[mark]
      · simp[mark]
      · rw[Hc.out];simpa [ints]using hown3
      · intro q e e2
        exact hnew q (hE2.out.lt e2).2 (hv2 q e2) e
      · rcases hw3 with h | h
        · exact Or.inl h
        · exact Or.inr fun q hq e=>by rw[h]at e;cases e;omega
      · have h1:=hE2.out.sub (S':=fun q=>SX S W.heap.size (.slice a3 k c3) q∧(Value.slice (some ⟨g',0,none⟩) (k+1) cap').ownBlock≠some q) fun q hq h=>⟨h,hnew q hq h.2.2⟩
        exact h1.keep hkw hv2 fun q _ hq _=>hq.1.2.2
      · simp[mark,h8]
     case o8=>
      rintro b' a' w' hb hd ⟨tb,v2,a4,c4,rfl,hR⟩
      have hd6:b' 6=true:=hd { on:=6,ground:=Ground.data } (by simp) rfl
      have hd7:b' 7=true:=hd { on:=7,ground:=Ground.data } (by simp) rfl
      have hd5:=hR.ord6 hd6
      have hd4:=hR.ord5 hd5
      have hd1:=hR.ord1 hd6
      obtain⟨_,_,f1,f2⟩:=(hR.box0 hb).two
      have HR:=hid hR
      clear hR hd
      simp only[Zm,Zh,Zv,Zg,Ze,hd6,hd7,cond_true]
      gi_wp2
      have hR:=HR.out
      have hkw:Keeps (fun q=>q≠W.heap.size) w' (w'.setCell ⟨W.heap.size,1,none⟩ (.slice a4 (k+1) c4)):=(Keeps.refl _ _).setCell (fun _ hn=>hn rfl) _
      have hE2:=hR.st1 hd4
      have hv2:∀ q,v2.ownBlock=some q→q≠W.heap.size:=fun q e=>by
       rcases hR.wh hd4 with h | h
       · rw[h]at e;exact(hv1l.out q e).2.2
       · have:=h q e;omega
      have hrow2:=hR.row1 hd6
      obtain⟨q1,q2,q3⟩:=hR.dis1 hd6
      refine⟨tb,v2,a4,c4,?_,?_⟩
      · simp[Zm,Zh,Zv,Zg,Ze,mark,hd6,hd7]
      refine⟨fun _=>Zw _ hd1,fun _=>Zw _ hd4,fun _=>Zw _ hd5,fun _=>Zw _ hd6,hR.keep.trans (hkw.sub fun _ _ h=>h.2.2.1),?_,fun _=>hE2.keep hkw (by omega) (by omega) (by omega) (fun q hq=>by have:=(HP.out q hq).1;omega) hv2 (fun q _ hq _=>hq.2.1),fun _=>hR.wh hd4,?_,?_,fun _=>Zcp hrow2 hkw (fun q e=>by have:=(hrow2.lt q e).1;omega),fun _=>⟨q1,q2,q3.keep hkw hv2 fun q _ hq _=>hq.1.2.1⟩,?_,fun _=>(hR.box0 hb).set 1 _⟩
      · simp[mark,hd4]
      · simp[mark,hd6]
      · simp[mark,hd6]
      · simp[mark]
     case fin=>
      rintro b' a' w' hb ⟨tb,v2,a4,c4,rfl,hR⟩
      have e0:=hb 0 (by decide)
      have e1:=hb 1 (by decide)
      have e2:=hb 2 (by decide)
      have e3:=hb 3 (by decide)
      have e4:=hb 4 (by decide)
      have e5:=hb 5 (by decide)
      have e6:=hb 6 (by decide)
      have e7:=hb 7 (by decide)
      have hE2:=hR.st1 e4
      have hrow2:=hR.row1 e6
      obtain⟨q1,q2,q3⟩:=hR.dis1 e6
      have hbox:=hR.box1 (hb 8 (by decide))
      have hw2:=hid (hR.wh e4)
      have hkeep:=hR.keep
      clear hb hR
      simp only[Zm,Zh,Zv,Zg,Ze,e0,e1,e2,e3,e4,e5,e6,e7,cond_true]
      gi_wp2
      go_roundw
      case rel=>
       refine⟨k+1,v2,a4,c4,by omega,by go_num,?_,?_,hbox,?_,?_,q1⟩
       · rw[Hn1.out]
         exact⟨hE2.size,hE2.pbox,hE2.psteps,hE2.wbox,hE2.obox,q3.sub fun q _ h=>⟨h.1.1,h.1.2.1,h.2⟩⟩
       · rw[Hn2.out];rw[Hc.out]at hrow2;exact hrow2
       · refine⟨hkeep.os.trans hkp.os,hkeep.tape.trans hkp.tape,hkeep.output.trans hkp.output,Nat.le_trans hkp.size hkeep.size,fun q hq h=>(hkeep.block q (by omega) ⟨h.1,fun e=>?_,by omega,fun e=>?_⟩).trans (hkp.block q hq h)⟩
         · rcases hwh.out with h2 | h2
           · rw[h2]at e;exact h.2 e
           · have:=h2 q e;omega
         · have:=hsvl.out q e;omega
       · rcases hw2.out with h | h
         · rcases hwh.out with h2 | h2
           · exact Or.inl (h.trans h2)
           · exact Or.inr fun q e=>h2 q (by rw[←h];exact e)
         · exact Or.inr fun q e=>by have:=h q e;omega
      case measure=>simp[intOf];omega
   · obtain rfl:k=ss[i].args.length:=by omega
     have hall:trees.take ss[i].args.length=trees:=List.take_of_length_le (by rw[Htl.out];exact Nat.le_refl _)
     rw[hall]at hE1 hrow
     have hfl:=flats_length trees outs.length
     have hcount:(flats trees outs.length).2.length=ss[i].args.length:=by rw[QV,Htl.out]
     have hargl:=(hok.2.2 i hil).1
     have hints:=Zp0 (v:=.slice a3 ss[i].args.length c3) (xs:=(flats trees outs.length).2) (by rw[hcount];exact hrow) (by rw[hcount];omega) (fun x hx=>by have:=Zb2 trees outs.length x hx;omega)
      (fun q=>S q∧v1.ownBlock≠some q) fun q e=>⟨HS.out q (by have:=(hrow.lt q e).1;omega),hdis.out q e⟩
     have hol1:(outs++(flats trees outs.length).1).length=outs.length+tsizes trees:=by rw[List.length_append,hfl]
     obtain⟨nums,hnm⟩:∃ o,o=(flats trees outs.length).2:=⟨_,rfl⟩
     rw[←hnm]at hints hcount
     obtain⟨outs1,ho1⟩:∃ o,o=outs++(flats trees outs.length).1:=⟨_,rfl⟩
     rw[←ho1]at hE1 hol1
     obtain⟨a1,c1,rfl⟩:=hE1.out.form
     obtain⟨f1,f1'⟩:=hE1.obox.one
     obtain⟨f2,_,f3,_⟩:=hsb.two
     have hol1':Hid (outs1.length=outs.length+tsizes trees):=hol1
     have hlow1:Hid (∀ q,(Value.slice a1 outs1.length c1).ownBlock=some q→lo≤q∧q<wr.heap.size):=fun q e=>hE1.out.lt e
     obtain⟨i0,hi0,hz0,hz1,hz2⟩:=info_parts ZhO
     have hsblt:=hsb.lt
     have Ho1:=hid ho1
     have Hnm:=hid hnm
     clear hall hfl hnm ho1 hol1 hrow
     gi_wp2_with (gi_at_builtin;refine Hid.out ?_)
     refine hid ?_
     have hk0:Keeps All wr (wr.alloc (.cells #[.string ss[i].label,.slice a3 ss[i].args.length c3] 69)):=(Keeps.refl _ _).alloc _
     obtain⟨vs,hvl,hown',hvi⟩:=hE1.out.keep hk0 (fun _ _=>trivial) (fun _ _ _ _=>trivial)
     have rt:IsRow (wr.alloc (.cells #[.string ss[i].label,.slice a3 ss[i].args.length c3] 69)) wr.heap.size 69 [.string ss[i].label,.slice a3 ss[i].args.length c3]:=IsRow.new _ _ _
     obtain⟨t0,t1,_,_⟩:=rt.two
     have hE2:=hE1.keep hk0 trivial trivial trivial (fun _ _=>trivial) (fun _ _=>trivial) (fun _ _ _ _=>trivial)
     have hints2:=hints.keep hk0 fun _ _ _=>trivial
     obtain⟨W1,hW1⟩:∃ W1,wr.alloc (.cells #[.string ss[i].label,.slice a3 ss[i].args.length c3] 69)=W1:=⟨_,rfl⟩
     have hW1s:W1.heap.size=wr.heap.size+1:=by rw[←hW1];simp
     rw[hW1]at hown' hvi t0 t1 hE2 hk0 hints2 ⊢
     have Hvi:=hid hvi
     clear hvi
     refine Xn _ rfl (.tmp 37) (.tmp 39) 26 rfl lo 69 i0 _ 2 40 Tryz.underlying26 hi0 hz0 hz1 hz2 rfl (by decide) _ _ _ rfl hown' ⟨wr.heap.size,0,none⟩ 1 1 [.string ss[i].label,.slice a3 ss[i].args.length c3] rfl rfl ?c1 ?c2 ?c3 ?c4 ?c5 ?_
     case c1=>
      intro j u hu
      have hadd:(⟨wr.heap.size,0,none⟩:Addr).add j=⟨wr.heap.size,j,none⟩:=by unfold Addr.add;split<;>simp_all
      rw[hadd]
      rcases j with _ | _ | j
      · simp at hu;subst hu;exact t0
      · simp at hu;subst hu;exact t1
      · simp at hu
     case c2=>intro u hu;simp at hu;rcases hu with rfl | rfl<;>rfl
     case c3=>have:=hol1'.out;unfold maxLen;omega
     case c4=>have:=hol1'.out;omega
     case c5=>have:=hE2.size;omega
     intro v' w3 hown3 hg3 hw3
     obtain⟨g',cap',rfl⟩:=ownsRow_succ hown3
     have hkw:Keeps (fun q=>(Value.slice a1 outs1.length c1).ownBlock≠some q) W1 w3:=⟨hg3.os,hg3.tape,hg3.output,hg3.size,fun q hlt hs=>hg3.block q hlt (fun e=>hs e.symm)⟩
     have hlow:∀ q,q<lo→(Value.slice a1 outs1.length c1).ownBlock≠some q:=fun q hq e=>by have:=hlow1.out q e;omega
     have hout3:OwnIn S lo w3 (.slice (some ⟨g',0,none⟩) (outs1.length+1) cap') (outs1++[⟨ss[i].label,nums⟩]):=
      OwnIn.snoc (va:=.slice a3 ss[i].args.length c3) (vs:=vs) hvl (fun q h=>(Hvi.out q h).sub fun _ _ h=>⟨h.1.1,h.2⟩) hints2 hown3 hg3 (by
       rcases hw3 with h | h
       · exact Or.inl h
       · exact Or.inr fun q hq=>by rw[h]at hq;cases hq;omega)
     have rb3:=hE2.obox.keep hkw (hlow _ hol)
     obtain⟨g1,g2⟩:=rb3.one
     obtain⟨g3,_⟩:=(rb3.set 0 (.slice (some ⟨g',0,none⟩) (outs1.length+1) cap')).one
     simp only[Act.put,List.setIfInBounds_toArray,List.set_cons_succ,List.set_cons_zero]
     have hol2:outs1.length≤2000:=by have:=hol1'.out;omega
     gi_wp2
     go_ret
     have hkb:Keeps (fun q=>q≠ob) w3 (w3.setCell ⟨ob,0,none⟩ (.slice (some ⟨g',0,none⟩) (outs1.length+1) cap')):=(Keeps.refl _ _).setCell (fun _ hn=>hn rfl) _
     have hfin:outs++((flats trees outs.length).1++[⟨ss[i].label,(flats trees outs.length).2⟩])=outs1++[⟨ss[i].label,nums⟩]:=by rw[Ho1.out,Hnm.out,List.append_assoc]
     rw[hfin]
     have hge:∀ q,lo≤q→q≠ob:=fun q h=>by omega
     refine⟨ZcW (by have:=hol1'.out;omega),_,⟨?_,?_,?_,?_,rb3.set 0 _,hout3.keep hkb (fun q e=>hge q (hout3.lt e).1) fun q _ h _=>hge q (HSlo.out q h)⟩,?_,?_⟩
     · have:=hkw.size;have:=hkb.size;have:=hE2.size;omega
     · exact(hE2.pbox.keep hkw (hlow _ hpl.1)).keep hkb hpl.2
     · exact(hE2.psteps.keep hkw fun q _ h=>hlow q (HP.out q h).1).keep hkb fun q _ h=>(HP.out q h).2
     · exact(hE2.wbox.keep hkw (hlow _ hwl.1)).keep hkb hwl.2
     · have hk1:Keeps (fun q=>q≠ob∧v.ownBlock≠some q) W W1:=hkp.trans (hk0.sub fun _ _ _=>trivial)
       refine⟨(hkb.os.trans hkw.os).trans hk1.os,(hkb.tape.trans hkw.tape).trans hk1.tape,(hkb.output.trans hkw.output).trans hk1.output,Nat.le_trans hk1.size (Nat.le_trans hkw.size hkb.size),fun q hq h=>?_⟩
       have hs1:=hk1.size
       have hs2:=hkw.size
       refine((hkb.block q (by omega) h.1).trans (hkw.block q (by omega) fun e=>?_)).trans (hk1.block q hq h)
       rcases hwh.out with h2 | h2
       · rw[h2]at e;exact h.2 e
       · have:=h2 q e;omega
     · rcases hw3 with h | h
       · rcases hwh.out with h2 | h2
         · exact Or.inl (h.trans h2)
         · exact Or.inr fun q e=>by rw[h]at e;have:=h2 q e;omega
       · exact Or.inr fun q e=>by rw[h]at e;cases e;have:=hkp.size;omega
end Go.Proofs.YtaigaoflehfdcaaGreatDoor
namespace Go.Proofs.YtaigaoflehfdcaaGreatDoor
open Go.RowKit Go.Shelf
attribute [local go_sem] Oper.semAt_some
theorem Znq {ss:List Stp} (hok:Okay ss):∃ y:Int,(ints (Xb ss))[ss.length-1]?=some (.int .i64 y)∧y=((min (tsize (Zav ss)) 1000000000:Nat):Int):=by
 have hn0:1≤ss.length:=hok.1
 refine⟨_,?_,rfl⟩
 rw[Q9]
 have h1:ss.length-1< (Xb ss).length:=by rw[show(Xb ss).length=ss.length from Z0 ss _];omega
 have:=ZbS hok
 rw[List.getD_eq_getElem?_getD,List.getElem?_eq_getElem h1,Option.getD_some]at this
 rw[List.getElem?_eq_getElem h1,this]
 rfl
theorem ZiZ (ss:List Stp) (v:Value) (most:Int) (w:World) (hv:IsProof All w v ss) (hok:Okay ss) (h1:1≤most) (h2:most≤2000) (hbig:tsize (Zav ss)≤most):
 Calls Tryz.prog 39 #[v,.int .i64 most] w fun e w'=>∃ vr,e= .returned (.tuple #[vr,.int .i64 0])∧IsProof (fun k=>w.heap.size+2≤k) w' vr (ZL ss)∧Keeps All w w':=by
 obtain⟨u,rfl,hs⟩:=hv
 have hs':=hs
 have hsz:=Zmt ss (.agg #[u]) ((w.alloc (.cells #[u] 28)).alloc (.cells #[.slice none 0 0] 28)) ⟨u,rfl,hs.keep (((Keeps.refl _ _).alloc _).alloc _) fun _ _ h=>h⟩ hok
 obtain⟨a,cap,rfl,hl,h⟩:=hs
 clear h
 have hn0:1≤ss.length:=hok.1
 have hn1:ss.length≤2000:=hok.2.1
 obtain⟨y,hy1,hy2⟩:=Znq hok
 have hyb:y≤most:=by rw[hy2];omega
 have hbig':=hid hbig
 clear hy2 hbig
 have hcast:Hid ((ss.length:Int)-1=((ss.length-1:Nat):Int)):=by show _=_;omega
 go_enter Tryz.func39,Tryz.ntmps39
 go_wp2_with (go_at_call 61;refine Hid.out ?_)
 refine hid ?_
 refine hsz.mono ?_
 clear hsz
 rintro e w1 ⟨nb,rfl,hnb,hrow,hk1⟩
 have f2:w1.cell? ⟨nb,ss.length-1,none⟩=some (.int .i64 y):=by rw[hrow.cell,hy1]
 have r0:IsRow w1 w.heap.size 28 [.slice a ss.length cap]:=IsRow.keep (S:=All) ((IsRow.new _ _ _).alloc _) hk1 trivial
 have r1:IsRow w1 (w.heap.size+1) 28 [.slice none 0 0]:=IsRow.keep (S:=All) (IsRow.newAt (by simp)) hk1 trivial
 obtain⟨c1,c2⟩:=r1.one
 have hk0:Keeps All w w1:=(((Keeps.refl _ _).alloc _).alloc _).trans hk1
 have hlt:=r1.lt
 have l1:w1.heap.size<w1.heap.size+1:=by omega
 clear hy1 hrow
 go_wp2_with (go_at_call 67;refine Hid.out ?_)
 refine hid ?_
 obtain⟨W2,hW2⟩:∃ W2,(w1.alloc (.cells #[.slice none 0 0] 28)).alloc (.cells #[.func (.func 67) #[] #[.pointer (some ⟨w.heap.size,0,none⟩),.pointer (some ⟨w1.heap.size+1,0,none⟩),.pointer (some ⟨w1.heap.size,0,none⟩)]] 111)=W2:=⟨_,rfl⟩
 have hk2:Keeps All w1 W2:=by rw[←hW2];exact((Keeps.refl _ _).alloc _).alloc _
 have hs2:W2.heap.size=w1.heap.size+2:=by rw[←hW2];simp
 have hE:EState (fun k=>w1.heap.size+2≤k) ss (w1.heap.size+2) w.heap.size (w1.heap.size+1) w1.heap.size (.slice a ss.length cap) (· <w.heap.size) W2 (.slice none 0 0) []:=by
  refine⟨by omega,r0.keep hk2 trivial,hs'.move (hk0.trans hk2) (fun k h _=>⟨trivial,h⟩),?_,?_,OwnIn.nil _ _ _⟩
  · rw[←hW2];exact IsRow.newAt (by simp)
  · rw[←hW2];exact(IsRow.new _ _ _).alloc _
 have hcall:=Zn2 ss hok (w1.heap.size+2) w.heap.size (w1.heap.size+1) w1.heap.size (.slice a ss.length cap) (· <w.heap.size) (fun k h=>by omega) (by omega) (by omega) (by omega) ss.length (ss.length-1) (fun k=>w1.heap.size+2≤k) (.slice none 0 0) [] W2 (by omega) (by omega) hE (fun k h=>by omega) (fun k h=>h) (by have:=hbig'.out;unfold Zav at this;simp only[List.length_nil];omega)
 rw[hW2]
 rw[←hcast.out]at hcall
 refine hcall.mono ?_
 clear hcall
 rintro e w3 ⟨rfl,v2,hE2,hk3,hwh⟩
 have hcast2:=hcast
 obtain⟨a2,c3,rfl⟩:=hE2.out.form
 obtain⟨f3,_⟩:=hE2.obox.one
 have r3:=(r1.keep hk2 trivial).keep hk3 ⟨by omega,fun e=>by cases e⟩
 obtain⟨c4,c5⟩:=r3.one
 have hst:=hE2.out.toSteps.isSteps (by have:=hbig'.out;unfold Zav at this;simp[flat_length];omega)
 obtain⟨outs,ho⟩:∃ o,o=[]++flat (treeAt ss (ss.length-1)) ([]:List Stp).length:=⟨_,rfl⟩
 rw[←ho]at hst f3
 have Ho:=hid ho
 clear ho hE2
 go_wp2
 have k2:=(r3.set 0 (.slice a2 outs.length c3)).one
 have hkw:Keeps (fun k=>k≠w.heap.size+1) w3 (w3.setCell ⟨w.heap.size+1,0,none⟩ (.slice a2 outs.length c3)):=(Keeps.refl _ _).setCell (fun _ hn=>hn rfl) _
 refine bodyPost_ret (v:=.tuple #[.agg #[.slice a2 outs.length c3],.int .i64 0]) (by simp[results,Tryz.results39,go_sem,k2]) rfl ⟨_,rfl,⟨_,rfl,?_⟩,?_⟩
 · have he:ZL ss=outs:=by rw[Ho.out];rfl
   rw[he]
   exact hst.move hkw fun k _ hk=>⟨by omega,by omega⟩
 · have h3:Keeps All w w3:=(hk0.trans hk2).upto hk3 fun k hk=>⟨by omega,fun e=>by cases e⟩
   exact h3.upto hkw fun k hk=>by omega
theorem Zjr (ss:List Stp) (v:Value) (most:Int) (w:World) (hv:IsProof All w v ss) (hok:Okay ss) (h1:1≤most) (h2:most≤9223372036854775807) (hbig:tsize (Zav ss)≤min most 2000):
 Calls Tryz.prog 34 #[v,.int .i64 most] w fun e w'=>∃ vr,e= .returned (.tuple #[vr,.int .i64 0])∧IsProof All w' vr (ZL ss)∧Keeps All w w':=by
 obtain⟨u,rfl,hs⟩:=hv
 have hform:=ZnP ss (.agg #[u]) (((w.alloc (.cells #[u] 28)).alloc (.cells #[.slice none 0 0] 28))) ⟨u,rfl,hs.keep (((Keeps.refl _ _).alloc _).alloc _) fun _ _ h=>h⟩
 rw[(Xy ss).2 hok]at hform
 have hexp:∀ m W,m=min most 2000→Keeps All w W→Calls Tryz.prog 39 #[.agg #[u],.int .i64 m] W fun e w'=>∃ vr,e= .returned (.tuple #[vr,.int .i64 0])∧IsProof (fun k=>W.heap.size+2≤k) w' vr (ZL ss)∧Keeps All W w':=
  fun m W hm hk=>ZiZ ss _ _ W ⟨u,rfl,hs.keep hk fun _ _ _=>trivial⟩ hok (by omega) (by omega) (by omega)
 obtain⟨a,cap,rfl,hl,h⟩:=hs
 clear h hbig
 go_enter Tryz.func34,Tryz.ntmps34
 go_wp2_with (go_at_call 36;refine Hid.out ?_)
 refine hid ?_
 refine hform.mono ?_
 clear hform
 rintro e w1 ⟨rfl,hk1⟩
 have hk0:Keeps All w w1:=(((Keeps.refl _ _).alloc _).alloc _).trans hk1
 have r1:IsRow w1 (w.heap.size+1) 28 [.slice none 0 0]:=IsRow.keep (S:=All) (IsRow.newAt (by simp)) hk1 trivial
 have r0:IsRow w1 w.heap.size 28 [.slice a ss.length cap]:=IsRow.keep (S:=All) ((IsRow.new _ _ _).alloc _) hk1 trivial
 obtain⟨c1,c2⟩:=r1.one
 obtain⟨c3,c4⟩:=r0.one
 have hlt:=r1.lt
 go_wp2_with (go_at_call 39;refine Hid.out ?_)
 all_goals
  refine hid ?_
  refine(hexp _ w1 (by omega) hk0).mono ?_
  clear hexp
  rintro e w2 ⟨vr,rfl,⟨u2,rfl,hs2⟩,hk2⟩
  have hs2':=hs2
  obtain⟨a2,cap2,rfl,_,h⟩:=hs2'
  clear h
  have r2:=r1.keep hk2 trivial
  obtain⟨c5,c6⟩:=r2.one
  go_wp2
  have k2:=(r2.set 0 (.slice a2 (ZL ss).length cap2)).one
  have hkw:Keeps (fun k=>k≠w.heap.size+1) w2 (w2.setCell ⟨w.heap.size+1,0,none⟩ (.slice a2 (ZL ss).length cap2)):=(Keeps.refl _ _).setCell (fun _ hn=>hn rfl) _
  refine bodyPost_ret (v:=.tuple #[.agg #[.slice a2 (ZL ss).length cap2],.int .i64 0]) (by simp[results,Tryz.results34,go_sem,k2]) rfl ⟨_,rfl,⟨_,rfl,?_⟩,?_⟩
  · exact hs2.move hkw fun k _ hk=>⟨by omega,trivial⟩
  · exact(hk0.trans hk2).upto hkw fun k hk=>by omega
end Go.Proofs.YtaigaoflehfdcaaGreatDoor
namespace Go.Proofs.YtaigaoflehfdcaaGreatDoor
open Go.RowKit Go.Shelf
set_option maxHeartbeats 400000 in
theorem Zs9 (s t:Stp) (v u:Value) (w:World) (hv:ZkQ All w v s) (hu:ZkQ All w u t):
 Calls Tryz.prog 50 #[v,u] w fun e w'=>e= .returned (.bool (decide (s=t)))∧Keeps All w w':=by
 obtain⟨va,rfl,h1⟩:=hv
 obtain⟨vb,rfl,h2⟩:=hu
 obtain⟨W0,hW0⟩:∃ W0,(w.alloc (.cells #[.string s.label,va] 69)).alloc (.cells #[.string t.label,vb] 69)=W0:=⟨_,rfl⟩
 have hk0:Keeps All w W0:=by rw[←hW0];exact((Keeps.refl _ _).alloc _).alloc _
 have r0:IsRow W0 w.heap.size 69 [.string s.label,va]:=by rw[←hW0];exact(IsRow.new _ _ _).alloc _
 have r1:IsRow W0 (w.heap.size+1) 69 [.string t.label,vb]:=by rw[←hW0];exact IsRow.newAt (by simp)
 have h1':=h1.keep hk0 fun _ _ h=>h
 have h2':=h2.keep hk0 fun _ _ h=>h
 have hl1:s.args.length≤140737488351232:=by obtain⟨_,_,_,hl,_⟩:=h1;exact hl
 have hl2:t.args.length≤140737488351232:=by obtain⟨_,_,_,hl,_⟩:=h2;exact hl
 obtain⟨a,c,rfl⟩:=h1.form
 obtain⟨a2,c2,rfl⟩:=h2.form
 obtain⟨c0,_,c1,_⟩:=r0.two
 obtain⟨c3,_,c4,_⟩:=r1.two
 go_enter Tryz.func50,Tryz.ntmps50
 go_wp2
 · have hne:s≠t:=fun h=>by
    have hq:((s.args.length:Int)!= (t.args.length:Int))=true:=by assumption
    rw[h]at hq
    simp at hq
   go_ret
   exact⟨Zay (decide_eq_false hne).symm,hk0⟩
 · have hlab:s.label=t.label:=toListInj.1 (by assumption)
   have hq:((s.args.length:Int)!= (t.args.length:Int))=false:=by assumption
   have hlen:s.args.length=t.args.length:=by simp at hq;omega
   have Hlab:=hid hlab
   have Hlen:=hid hlen
   clear hlab hq hlen
   go_loopw [5] (fun i wr=>∃ k:Nat,k≤s.args.length∧i= .int .i64 k∧Hid (s.args.take k=t.args.take k)∧Keeps All W0 wr) (fun i _=>s.args.length-(intOf i).toNat)
   case atStart=>exact⟨0,Nat.zero_le _,rfl,by simp[Hid],Keeps.refl _ _⟩
   case round=>
    obtain⟨k,hk,rfl,hn,hb⟩:=hrel
    obtain⟨f0,_,f1,_⟩:=(r0.keep hb trivial).two
    obtain⟨f3,_,f4,_⟩:=(r1.keep hb trivial).two
    by_cases hlt:k<s.args.length
    · have hlt1:k<t.args.length:=by rw[←Hlen.out];exact hlt
      obtain⟨b,off,rfl,d1⟩:=(h1'.keep hb fun _ _ h=>h).at hlt
      obtain⟨b2,off2,rfl,d2⟩:=(h2'.keep hb fun _ _ h=>h).at hlt1
      by_cases he:s.args[k]=t.args[k]
      · have hnext:=hid (Zdi hlt hlt1 hn.out he)
        rw[he]at d1
        clear he
        go_wp2
        go_region
        go_wp2
        go_roundw
        case rel=>exact⟨k+1,by omega,by go_num,hnext.out,hb.trans (Keeps.refl All _).drew⟩
        case measure=>simp[intOf];omega
      · have hne:s≠t:=fun h=>he (by simp only[h])
        have Hne:=hid hne
        clear hne
        generalize s.args[k]=x at d1 he
        generalize t.args[k]=y at d2 he
        go_wp2
        go_region
        go_wp2
        go_ret
        exact⟨Zay (decide_eq_false Hne.out).symm,(hk0.trans hb).trans (Keeps.refl All _).drew⟩
    · have heq:s=t:=Stp.ext' Hlab.out (by have:=hn.out;rwa [List.take_of_length_le (by omega),List.take_of_length_le (by rw[←Hlen.out];omega)]at this)
      have Heq:=hid heq
      clear heq
      go_wp2
      go_ret
      exact⟨Zay (decide_eq_true Heq.out).symm,hk0.trans hb⟩
 · have hne:s≠t:=fun h=>by
    have hq:¬ s.label.toList=t.label.toList:=by assumption
    exact hq (by rw[h])
   go_ret
   exact⟨Zay (decide_eq_false hne).symm,hk0⟩
def EqReg (n0 k:Nat) (p q:Value) (pa qa:Addr) (s t:Value) (d:Bool) (T:Array Value) (W0:World) (c:Nat→Bool) (a':Act) (w':World):Prop:=
 a'=Act.mk (sIs T [(c 0,20,.pointer (some ⟨n0,0,none⟩)),(c 1,21,p),(c 2,22,.int .i64 k),(c 3,23,.pointer (some pa)),(c 4,24,s),(c 5,25,.pointer (some ⟨n0+1,0,none⟩)),(c 6,26,q),(c 7,27,.int .i64 k),
  (c 8,28,.pointer (some qa)),(c 9,29,t),(c 10,30,.bool d),(c 11,31,.bool !d)]) []∧Keeps All W0 w'
set_option maxHeartbeats 1000000 in
theorem ZpE (ss ts:List Stp) (v u:Value) (w:World) (hv:IsProof All w v ss) (hu:IsProof All w u ts):
 Calls Tryz.prog 19 #[v,u] w fun e w'=>e= .returned (.bool (decide (ss=ts)))∧Keeps All w w':=by
 obtain⟨va,rfl,h1⟩:=hv
 obtain⟨vb,rfl,h2⟩:=hu
 obtain⟨W0,hW0⟩:∃ W0,(w.alloc (.cells #[va] 28)).alloc (.cells #[vb] 28)=W0:=⟨_,rfl⟩
 have hk0:Keeps All w W0:=by rw[←hW0];exact((Keeps.refl _ _).alloc _).alloc _
 have r0:IsRow W0 w.heap.size 28 [va]:=by rw[←hW0];exact(IsRow.new _ _ _).alloc _
 have r1:IsRow W0 (w.heap.size+1) 28 [vb]:=by rw[←hW0];exact IsRow.newAt (by simp)
 have h1':=h1.keep hk0 fun _ _ h=>h
 have h2':=h2.keep hk0 fun _ _ h=>h
 have hl1:ss.length≤140737488351232:=by obtain⟨_,_,_,hl,_⟩:=h1;exact hl
 have hl2:ts.length≤140737488351232:=by obtain⟨_,_,_,hl,_⟩:=h2;exact hl
 obtain⟨a,c,rfl⟩:=h1.form
 obtain⟨a2,c2,rfl⟩:=h2.form
 obtain⟨c0,_⟩:=r0.one
 obtain⟨c3,_⟩:=r1.one
 clear h1 h2
 refine(callsIn_wide (n:=5)).1 ?_
 refine callsIn_of_wp Tryz.func19 rfl trivial ?_ rfl
 simp only[Tryz.ntmps19,List.size_toArray,List.length_cons,List.length_nil,Nat.reduceAdd,Nat.reduceSub,Array.replicate_succ,Array.replicate_zero,List.push_toArray,List.append_toArray,List.nil_append,List.cons_append]
 gi_wp2
 · have hne:ss≠ts:=fun h=>by
    have hq:((ss.length:Int)!= (ts.length:Int))=true:=by assumption
    rw[h]at hq
    simp at hq
   go_ret
   exact⟨Zay (decide_eq_false hne).symm,hk0⟩
 · have hq:((ss.length:Int)!= (ts.length:Int))=false:=by assumption
   have hlen:ss.length=ts.length:=by simp at hq;omega
   have Hlen:=hid hlen
   clear hlen hq
   gi_loopw [5] (fun i wr=>∃ k:Nat,k≤ss.length∧i= .int .i64 k∧Hid (ss.take k=ts.take k)∧Keeps All W0 wr) (fun i _=>ss.length-(intOf i).toNat)
   case atStart=>exact⟨0,Nat.zero_le _,rfl,by simp[Hid],Keeps.refl _ _⟩
   case round=>
    obtain⟨k,hk,rfl,hn,hb⟩:=hrel
    obtain⟨f0,_⟩:=(r0.keep hb trivial).one
    obtain⟨f3,_⟩:=(r1.keep hb trivial).one
    by_cases hlt:k<ss.length
    · have hlt1:k<ts.length:=by rw[←Hlen.out];exact hlt
      obtain⟨b,off,va,rfl,d0,d1,h1⟩:=(h1'.keep hb fun _ _ h=>h).at hlt
      obtain⟨b2,off2,vb,rfl,d2,d3,h2⟩:=(h2'.keep hb fun _ _ h=>h).at hlt1
      obtain⟨q1,q2,rfl⟩:=h1.form
      obtain⟨q3,q4,rfl⟩:=h2.form
      have hnext:=hid (Zdi hlt hlt1 hn.out)
      obtain⟨d,hd⟩:∃ d,d=decide (ss[k]=ts[k]):=⟨_,rfl⟩
      have Hd:=hid hd
      clear hd
      gi_wp2
      refine Y9 (EqReg w.heap.size k (.slice (some ⟨b,off,none⟩) ss.length c) (.slice (some ⟨b2,off2,none⟩) ts.length c2) ⟨b,off+k*2,none⟩ ⟨b2,off2+k*2,none⟩ (.agg #[.string ss[k].label,.slice q1 ss[k].args.length q2]) (.agg #[.string ts[k].label,.slice q3 ts[k].args.length q4]) d) mixed (by kernel_rfl) ?start ⟨?o0,?o1,?o2,?o3,?o4,?o5,?o6,?o7,?o8,?o9,?o10,?o11,trivial⟩ ?fin
      case start=>exact⟨by simp only[Zm,Zh,Zbo],(Keeps.refl _ _).drew⟩
      case o0=>
       rintro b' a' w' hb hd ⟨rfl,hk⟩
       simp only[Zm,Zh,Zv,Zg,Ze]
       clear hd
       gi_wp2
       exact⟨by simp[Zm,Zh,Zv,Zg,Ze,mark],hk⟩
      case o1=>
       rintro b' a' w' hb hd ⟨rfl,hk⟩
       have e0:b' 0=true:=hd { on:=0,ground:=Ground.data } (by simp) rfl
       have f1:w'.cell? ⟨w.heap.size,0,none⟩=some (.slice (some ⟨b,off,none⟩) ss.length c):=hk.cell (p:=⟨w.heap.size,0,none⟩) trivial f0
       simp only[Zm,Zh,Zv,Zg,Ze,e0,cond_true]
       clear hd
       gi_wp2
       exact⟨by simp[Zm,Zh,Zv,Zg,Ze,mark,e0],hk⟩
      case o2=>
       rintro b' a' w' hb hd ⟨rfl,hk⟩
       simp only[Zm,Zh,Zv,Zg,Ze]
       clear hd
       gi_wp2
       exact⟨by simp[Zm,Zh,Zv,Zg,Ze,mark],hk⟩
      case o3=>
       rintro b' a' w' hb hd ⟨rfl,hk⟩
       have e1:b' 1=true:=hd { on:=1,ground:=Ground.data } (by simp) rfl
       have e2:b' 2=true:=hd { on:=2,ground:=Ground.data } (by simp) rfl
       simp only[Zm,Zh,Zv,Zg,Ze,e1,e2,cond_true]
       clear hd
       gi_wp2
       exact⟨by simp[Zm,Zh,Zv,Zg,Ze,mark,e1,e2],hk⟩
      case o4=>
       rintro b' a' w' hb hd ⟨rfl,hk⟩
       have e3:b' 3=true:=hd { on:=3,ground:=Ground.data } (by simp) rfl
       have g0:w'.cell? ⟨b,off+k*2,none⟩=some (.string ss[k].label):=hk.cell (p:=⟨b,off+k*2,none⟩) trivial d0
       have g1:w'.cell? ⟨b,off+k*2+1,none⟩=some (.slice q1 ss[k].args.length q2):=hk.cell (p:=⟨b,off+k*2+1,none⟩) trivial d1
       simp only[Zm,Zh,Zv,Zg,Ze,e3,cond_true]
       clear hd
       gi_wp2
       exact⟨by simp[Zm,Zh,Zv,Zg,Ze,mark,e3],hk⟩
      case o5=>
       rintro b' a' w' hb hd ⟨rfl,hk⟩
       simp only[Zm,Zh,Zv,Zg,Ze]
       clear hd
       gi_wp2
       exact⟨by simp[Zm,Zh,Zv,Zg,Ze,mark],hk⟩
      case o6=>
       rintro b' a' w' hb hd ⟨rfl,hk⟩
       have e5:b' 5=true:=hd { on:=5,ground:=Ground.data } (by simp) rfl
       have f1:w'.cell? ⟨w.heap.size+1,0,none⟩=some (.slice (some ⟨b2,off2,none⟩) ts.length c2):=hk.cell (p:=⟨w.heap.size+1,0,none⟩) trivial f3
       simp only[Zm,Zh,Zv,Zg,Ze,e5,cond_true]
       clear hd
       gi_wp2
       exact⟨by simp[Zm,Zh,Zv,Zg,Ze,mark,e5],hk⟩
      case o7=>
       rintro b' a' w' hb hd ⟨rfl,hk⟩
       simp only[Zm,Zh,Zv,Zg,Ze]
       clear hd
       gi_wp2
       exact⟨by simp[Zm,Zh,Zv,Zg,Ze,mark],hk⟩
      case o8=>
       rintro b' a' w' hb hd ⟨rfl,hk⟩
       have e6:b' 6=true:=hd { on:=6,ground:=Ground.data } (by simp) rfl
       have e7:b' 7=true:=hd { on:=7,ground:=Ground.data } (by simp) rfl
       simp only[Zm,Zh,Zv,Zg,Ze,e6,e7,cond_true]
       clear hd
       gi_wp2
       exact⟨by simp[Zm,Zh,Zv,Zg,Ze,mark,e6,e7],hk⟩
      case o9=>
       rintro b' a' w' hb hd ⟨rfl,hk⟩
       have e8:b' 8=true:=hd { on:=8,ground:=Ground.data } (by simp) rfl
       have g0:w'.cell? ⟨b2,off2+k*2,none⟩=some (.string ts[k].label):=hk.cell (p:=⟨b2,off2+k*2,none⟩) trivial d2
       have g1:w'.cell? ⟨b2,off2+k*2+1,none⟩=some (.slice q3 ts[k].args.length q4):=hk.cell (p:=⟨b2,off2+k*2+1,none⟩) trivial d3
       simp only[Zm,Zh,Zv,Zg,Ze,e8,cond_true]
       clear hd
       gi_wp2
       exact⟨by simp[Zm,Zh,Zv,Zg,Ze,mark,e8],hk⟩
      case o10=>
       rintro b' a' w' hb hd ⟨rfl,hk⟩
       have e4:b' 4=true:=hd { on:=4,ground:=Ground.data } (by simp) rfl
       have e9:b' 9=true:=hd { on:=9,ground:=Ground.data } (by simp) rfl
       have hcall:=Zs9 ss[k] ts[k] _ _ w' ⟨_,rfl,h1.keep hk fun _ _ h=>h⟩ ⟨_,rfl,h2.keep hk fun _ _ h=>h⟩
       rw[←Hd.out]at hcall
       simp only[Zm,Zh,Zv,Zg,Ze,e4,e9,cond_true]
       clear hd
       gi_wp2
       refine⟨trivial,?_⟩
       refine(callsIn_wide.2 hcall).mono ?_
       clear hcall
       rintro e w3 ⟨rfl,hk3⟩
       gi_wp2
       exact⟨by simp[Zm,Zh,Zv,Zg,Ze,mark,e4,e9,Hlen.out],hk.trans hk3⟩
      case o11=>
       rintro b' a' w' hb hd ⟨rfl,hk⟩
       have e10:b' 10=true:=hd { on:=10,ground:=Ground.data } (by simp) rfl
       simp only[Zm,Zh,Zv,Zg,Ze,e10,cond_true]
       clear hd
       gi_wp2
       exact⟨by simp[Zm,Zh,Zv,Zg,Ze,mark,e10],hk⟩
      case fin=>
       rintro b' a' w' hb ⟨rfl,hk⟩
       have e0:=hb 0 (by decide)
       have e1:=hb 1 (by decide)
       have e2:=hb 2 (by decide)
       have e3:=hb 3 (by decide)
       have e4:=hb 4 (by decide)
       have e5:=hb 5 (by decide)
       have e6:=hb 6 (by decide)
       have e7:=hb 7 (by decide)
       have e8:=hb 8 (by decide)
       have e9:=hb 9 (by decide)
       have e10:=hb 10 (by decide)
       have e11:=hb 11 (by decide)
       clear hb
       simp only[Zm,Zh,Zv,Zg,Ze,e0,e1,e2,e3,e4,e5,e6,e7,e8,e9,e10,e11,cond_true]
       have hb2:=hb.trans hk
       have hne:d=false→Hid (ss≠ts):=fun h1 h=>by
        rw[h1]at Hd
        have:=Hd.out
        have h2:ss[k]=ts[k]:=by simp only[h]
        rw[decide_eq_true h2]at this
        cases this
       have hnx:d=true→Hid (ss.take (k+1)=ts.take (k+1)):=fun h1=>hnext.out (by
        rw[h1]at Hd
        exact of_decide_eq_true Hd.out.symm)
       clear e0 e1 e2 e3 e4 e5 e6 e7 e8 e9 e10 e11
       cases d
       · have Hne:=hne rfl
         clear hne hnx
         gi_wp2
         go_ret
         exact⟨Zay (decide_eq_false Hne.out).symm,hk0.trans hb2⟩
       · have Hnx:=hnx rfl
         clear hne hnx
         gi_wp2
         go_roundw
         case rel=>exact⟨k+1,by omega,by go_num,Hnx,hb2⟩
         case measure=>simp[intOf];omega
    · have heq:ss=ts:=by have:=hn.out;rwa [List.take_of_length_le (by omega),List.take_of_length_le (by rw[←Hlen.out];omega)]at this
      have Heq:=hid heq
      clear heq
      gi_wp2
      go_ret
      exact⟨Zay (decide_eq_true Heq.out).symm,hk0.trans hb⟩
theorem Zgf {ss ts:List Stp} (h1:Okay ss) (h2:Okay ts) (h:Zav ss=Zav ts):ZaN ss=ZaN ts:=by rw[Zed h1,Zed h2,h]
def exP:List Stp:=[⟨⟨#[97]⟩,[]⟩,⟨⟨#[98]⟩,[0,0]⟩,⟨⟨#[98]⟩,[1,1]⟩]
theorem Zcx:Okay exP:=(Xy _).1 (by decide+kernel)
theorem Zqw:(post exP).length=3:=by decide+kernel
theorem Zcw:tsize (Zav exP)=7:=by decide+kernel
def ZjI (ss:List Stp) (o:List Nat):List Stp×List Int:=o.foldl (fun st x=>(if ZaP ss st.2 x∈st.1 then st.1 else st.1++[ZaP ss st.2 x],st.2.set x ((st.1.idxOf (ZaP ss st.2 x):Nat):Int))) ([],List.replicate ss.length 0)
theorem Ziu (ss:List Stp) (o:List Nat):Yg ss o=ZjI ss o:=by
 unfold Yg ZjI
 congr 1
 funext st x
 simp only[Xr,Zfb,Zd5]
theorem Zn4:ZaN exP=exP:=by
 unfold ZaN
 rw[Ziu]
 decide+kernel
theorem Zmk (lab:ByteArray) (a:Option Addr) (n c:Nat) (w:World):
 Calls Tryz.prog 32 #[.string lab,.slice a n c] w fun e w'=>e= .returned (.agg #[.string lab,.slice a n c])∧Keeps All w w':=by
 go_enter Tryz.func32,Tryz.ntmps32
 go_wp2
 refine bodyPost_ret (v:=.agg #[.string lab,.slice a n c]) (by simp[results,Tryz.results32,go_sem]) rfl ⟨rfl,?_⟩
 exact(Keeps.refl _ _).alloc _
theorem ZuO (w:World) (htab:Tab w):Calls Tryz.prog 8 #[] w fun e w'=>e= .returned (.bool true)∧Keeps All w w':=by
 have Ht:=hid htab
 clear htab
 go_enter Tryz.func8,Tryz.ntmps8
 go_wp2_with (go_at_call 32;refine Hid.out ?_)
 refine hid ?_
 refine(Zmk _ _ _ _ _).mono ?_
 rintro e w1 ⟨rfl,hk1⟩
 go_wp2_with (go_at_call 32;refine Hid.out ?_)
 refine hid ?_
 refine(Zmk _ _ _ _ _).mono ?_
 rintro e w2 ⟨rfl,hk2⟩
 have r1:IsRow w2 w1.heap.size 3 (ints [0,0]):=IsRow.keep (S:=All) (IsRow.newAt rfl) hk2 trivial
 have hk02:Keeps All w w2:=hk1.trans (((Keeps.refl All _).alloc _).trans hk2)
 have i1:=r1.isInts All trivial (by simp) (fun y hy=>by simp at hy;omega) 2
 clear hk1 hk2 r1
 go_wp2_with (go_at_call 32;refine Hid.out ?_)
 refine hid ?_
 refine(Zmk _ _ _ _ _).mono ?_
 rintro e w3 ⟨rfl,hk3⟩
 have r2:IsRow w3 w2.heap.size 3 (ints [1,1]):=IsRow.keep (S:=All) (IsRow.newAt rfl) hk3 trivial
 have hk23:Keeps All w2 w3:=((Keeps.refl All _).alloc _).trans hk3
 have i2:=r2.isInts All trivial (by simp) (fun y hy=>by simp at hy;omega) 2
 have i1':=i1.keep hk23 fun _ _ h=>h
 have hk03:=hk02.trans hk23
 clear hk23 hk3 r2 i1 hk02
 go_wp2_with (go_at_call 33;refine Hid.out ?_)
 refine hid ?_
 obtain⟨W4,hW4⟩:∃ W4,((w3.alloc (.cells #[.string ⟨#[97]⟩,.slice none 0 0,.string ⟨#[98]⟩,.slice (some ⟨w1.heap.size,0,none⟩) 2 2,.string ⟨#[98]⟩,.slice (some ⟨w2.heap.size,0,none⟩) 2 2] 69)).alloc (.cells #[.slice (some ⟨w3.heap.size,0,none⟩) 3 3] 28))=W4:=⟨_,rfl⟩
 have hk34:Keeps All w3 W4:=by rw[←hW4];exact((Keeps.refl _ _).alloc _).alloc _
 have r4:IsRow W4 w3.heap.size 69 [.string ⟨#[97]⟩,.slice none 0 0,.string ⟨#[98]⟩,.slice (some ⟨w1.heap.size,0,none⟩) 2 2,.string ⟨#[98]⟩,.slice (some ⟨w2.heap.size,0,none⟩) 2 2]:=by rw[←hW4];exact(IsRow.new _ _ _).alloc _
 have rb4:IsRow W4 (w3.heap.size+1) 28 [.slice (some ⟨w3.heap.size,0,none⟩) 3 3]:=by rw[←hW4];exact IsRow.newAt (by simp)
 have hp4:IsProof All W4 (.agg #[.slice (some ⟨w3.heap.size,0,none⟩) 3 3]) exP:=by
  refine⟨_,rfl,_,_,rfl,by decide,Or.inr ⟨w3.heap.size,0,rfl,r4.lt,trivial,fun i hi=>?_⟩⟩
  have hi3:i<3:=hi
  rcases i with _ | _ | _ | i
  · exact⟨r4.cell 0,_,r4.cell 1,none,0,rfl,Nat.zero_le _,fun _ h=>(by cases h),Or.inl ⟨rfl,trivial⟩⟩
  · exact⟨r4.cell 2,_,r4.cell 3,i1'.keep hk34 fun _ _ h=>h⟩
  · exact⟨r4.cell 4,_,r4.cell 5,i2.keep hk34 fun _ _ h=>h⟩
  · omega
 have hk04:=hk03.trans hk34
 rw[hW4]
 clear hW4 i1' i2 hk34 hk03 r4
 refine(ZoL exP _ W4 hp4 Zcx).mono ?_
 rintro e w5 ⟨rfl,hk5⟩
 rw[ZbS Zcx,Zqw,Zcw]
 have rb5:=rb4.keep hk5 trivial
 have hp5:=hp4.keep hk5 fun _ _ h=>h
 have hk05:=hk04.trans hk5
 obtain⟨c1,_⟩:=rb5.one
 clear rb4 hp4 hk5 hk04
 go_wp2_with (go_at_call 34;refine Hid.out ?_)
 refine hid ?_
 refine(Zjr exP _ 100 w5 hp5 Zcx (by omega) (by omega) (by rw[Zcw];decide)).mono ?_
 rintro e w6 ⟨vr,rfl,⟨u6,rfl,hs6⟩,hk6⟩
 have rb6:=rb5.keep hk6 trivial
 have hp6:=hp5.keep hk6 fun _ _ h=>h
 have hk06:=hk05.trans hk6
 obtain⟨okx,trx⟩:=ZlE Zcx (by rw[Zcw];decide)
 have hxl:(ZL exP).length=7:=by rw[ZbM,Zcw]
 obtain⟨a6,c6,rfl⟩:=hs6.form
 rw[hxl]at hs6
 simp only[hxl]
 clear rb5 hp5 hk6 hk05 c1
 go_wp2_with (go_at_call 21;refine Hid.out ?_)
 refine hid ?_
 have hk7:Keeps All w6 (w6.alloc (.cells #[.slice a6 7 c6] 28)):=(Keeps.refl _ _).alloc _
 have r7:IsRow (w6.alloc (.cells #[.slice a6 7 c6] 28)) w6.heap.size 28 [.slice a6 7 c6]:=IsRow.new _ _ _
 refine(ZlP (ZL exP) _ _ ⟨_,rfl,hs6.keep hk7 fun _ _ h=>h⟩ okx (Ht.out.keep (hk06.trans hk7))).mono ?_
 rintro e w8 ⟨vr,rfl,⟨u8,rfl,hs8⟩,hk8⟩
 have hsh:ZaN (ZL exP)=exP:=by rw[Zgf okx Zcx trx,Zn4]
 rw[hsh]at hs8
 have rb8:=(rb6.keep hk7 trivial).keep hk8 trivial
 have r8:=r7.keep hk8 trivial
 have hp8:=(hp6.keep hk7 fun _ _ h=>h).keep hk8 fun _ _ h=>h
 have hk08:=(hk06.trans hk7).trans hk8
 obtain⟨a8,c8,rfl⟩:=hs8.form
 have h3:exP.length=3:=rfl
 rw[h3]at hs8
 simp only[h3]
 obtain⟨d1,_⟩:=rb8.one
 obtain⟨d2,_⟩:=r8.one
 have l8:=rb8.lt
 have l9:=r8.lt
 clear rb6 hp6 hk7 hk8 r7 hk06 h3
 go_wp2_with (go_at_call 19;refine Hid.out ?_)
 refine hid ?_
 have hk9:Keeps All w8 (w8.alloc (.cells #[.slice a8 3 c8] 28)):=(Keeps.refl _ _).alloc _
 refine(ZpE exP exP _ _ _ ⟨_,rfl,hs8.keep hk9 fun _ _ h=>h⟩ (hp8.keep hk9 fun _ _ h=>h)).mono ?_
 rintro e w10 ⟨rfl,hk10⟩
 simp only[decide_true]
 go_wp2
 go_ret
 exact⟨rfl,(hk08.trans hk9).trans hk10⟩
end Go.Proofs.YtaigaoflehfdcaaGreatDoor
namespace Go.Proofs.YtaigaoflehfdcaaGreatDoor
open Go.RowKit
theorem ZnM {J:WP} (hJ:Stab J) (hT:∀ w,J w→Tab w):Fn Tryz.prog J 8 [] (.bool true):=fun S w vs hS hJ0 ha=>by
 obtain rfl:vs=[]:=by simpa [RelL]using ha
 exact(ZuO w (hT w hJ0)).mono fun e w' h=>⟨_,h.1,Rel.of_lit _,h.2,hJ _ _ h.2 hJ0⟩
end Go.Proofs.YtaigaoflehfdcaaGreatDoor
namespace Go.Proofs.YtaigaoflehfdcaaGreatDoor
theorem Zpi {d:Db} {n m:Int} (h:Zhi d n m=true):∀ g∈d.frames,g.apart.length≤100000:=fun g hg=>by
 simp only[Zhi,Bool.and_eq_true,Bool.not_eq_true',List.any_eq_false]at h
 have h1:=h.2 g hg
 simp only[ZnN,Bool.or_eq_true,not_or,decide_eq_true_eq,Bool.not_eq_true]at h1
 have:=h1.1.1.1.1.2
 omega
section
variable {fs:List Fr} {vars:List BA} {f:Fr} {xs:List Itm} {m:Ms} {s:Rs} {k:Nat}
end
end Go.Proofs.YtaigaoflehfdcaaGreatDoor
set_option maxHeartbeats 8000000
set_option maxRecDepth 100000
namespace Go.Proofs.YtaigaoflehfdcaaGreatDoor
open Go.Proofs.Tryz (prog)
open Go.RowKit
theorem Zuj:Zl prog 60:=Zt Tryz.func60 rfl rfl
theorem Zuu:Zl prog 31:=Zt Tryz.func31 rfl rfl
theorem Zuv:Zl prog 30:=Zt Tryz.func30 rfl rfl
theorem call_6:Zl prog 6:=Zt Tryz.func6 rfl rfl
theorem call_7:Zl prog 7:=Zt Tryz.func7 rfl rfl
theorem ZsC:Zl prog 8:=Zt Tryz.func8 rfl rfl
theorem ZuD:Zl prog 11:=Zt Tryz.func11 rfl rfl
theorem ZuC:Zl prog 12:=Zt Tryz.func12 rfl rfl
theorem ZuB:Zl prog 13:=Zt Tryz.func13 rfl rfl
theorem ZuA:Zl prog 14:=Zt Tryz.func14 rfl rfl
theorem Zuz:Zl prog 16:=Zt Tryz.func16 rfl rfl
theorem Zgj {J:WP} (hJ:Stab J) (xs:List Stp) (f:FuncId) (caps:List AV) (Os:List OB) (p:Stp→Bool) (hf:∀ q',FnR prog J f Os ([.agg (spC (q'))]++caps) (.bool (p q'))) (hk0:Zl prog f):FnR prog J 60 Os [.rd (Zak xs),.fn f caps] (.int (Qc p xs)):=by
 refine fER Tryz.func60 fun S w0 hS hJ0 hH=>?_
 clear hJ0
 refine ln 0 fun hl1=>?_
 refine qs tb hJ [0,1] [_] [_,_] ?_
 refine Zd (hqs tb hJ [0,1,1001,1002] [_,.int (xs.length:Nat),_] [1] [_,_,_,_] rfl ⟨ZX Ye,trivial⟩ ?_)
 refine Zc (lp (ι:=Nat) (fun k=>(k≤xs.length)∧(∀ j,j<k→p (ge xs j)=false)) (fun k=>[(8,.int (k:Nat))]) (fun k=>xs.length-k) [0,1,2,3] [_,_,_] 0 ⟨nzl,fun j hj=>by omega⟩ ?_)
 rintro k ⟨f1_1,f1_2⟩
 refine qs tb hJ [0,1,2,3,1000] [_] [_,_,_,_,_] ?_
 refine cjS 4 (fun hb1=>?_) fun hb1=>?_
 ·
  try simp at hb1
  refine Za (nx (Zd (Zc (qs tb hJ [0,1,2,3,1001] [_,_] [_,_,_,_,_] ?_))))
  refine hqs tb hJ [0,1,2,3,4,1005] [_,_,_,.ptr (spC (ge xs k)),_,.bool (p (ge xs k))] [3,5] [_,_,_,_,_,_] rfl ⟨iIx ZZ,fun _ _ hk hx hl _=>ZbT (hf (ge xs k)) hk0 rfl (hl.D 0 11 rfl rfl) (nm hS hk) (hx) (fun _ ho=>YN hH hk ho) (Zb (hl.D 4 15 rfl rfl) Zk) (js hJ hx),trivial⟩ ?_
  refine cj 5 (fun hb2=>?_) fun hb2=>?_
  ·
   try simp at hb2
   refine qs tb hJ [1001] [_,_] [_] ?_
   exact tRn 0 (hE:=eI (by first | exact(Y8 hb1 hb2 f1_2).symm | exact(YP fun j hj=>f1_2 j oz).symm))
  ·
   try simp at hb2
   refine Za (nx (hqp tb hJ [0,1,2,1001] [.int (k+1:Nat),_] [0] [_,_,_,_] rfl ⟨Yf,trivial⟩ ?_))
   exact lpE (k+1) [0,1,2,3] ⟨oz,ZG f1_2 hb2⟩
 ·
  try simp at hb1
  refine Zp (nx (qs tb hJ [1000] [_] [_] ?_))
  exact tRn 0 (hE:=eI (by first | exact(Y8 hb1 hb2 f1_2).symm | exact(YP fun j hj=>f1_2 j oz).symm))
theorem ZdD {J:WP} (hJ:Stab J) (xs:List Stp) (f:FuncId) (caps:List AV) (Os:List OB) (p:Stp→Bool) (hf:∀ q',FnR prog J f Os ([.agg (spC (q'))]++caps) (.bool (p q'))) (hk0:Zl prog f):FnR prog J 30 Os [.rd (Zak xs),.fn f caps] (.bool (xs.any p)):=by
 refine fER Tryz.func30 fun S w0 hS hJ0 hH=>?_
 clear hJ0
 refine ln 0 fun hl1=>?_
 refine qs tb hJ [0,1] [_] [_,_] ?_
 refine hqs tb hJ [1004] [_,_,.int (Qc p xs),_,_] [2] [_] rfl ⟨fun _ _ hk hx hl _=>Y6 (Zgj hJ xs f caps Os p (hf) (hk0)) Zuj rfl (nm hS hk) (hx) (fun _ ho=>YN hH hk ho) (Zb (hl.D 0 5 rfl rfl) (Zb (hl.D 1 6 rfl rfl) Zk)) (js hJ hx),trivial⟩ ?_
 exact tRn 0 (hE:=eB (by rw[←ZaG]))
theorem w_Few1 {J:WP} (hJ:Stab J) (s:Stp)  :Fn prog J 31 [.agg (spC s)] (.bool (decide ((60:Int)< ((s.args.length:Nat):Int)))):=by
 refine fE Tryz.func31 fun S w0 hS hJ0=>?_
 clear hJ0
 refine hqs tb hJ [1000] [.ptr (spC s),_] [0] [_] rfl ⟨iBs hS hJ,trivial⟩ ?_
 refine hqs tb hJ [1001,1004] [_,_,.int (s.args.length:Nat),_,_] [2] [_,_] rfl ⟨ZX YV,trivial⟩ ?_
 refine ln 0 fun hl1=>?_
 exact tRn 1 (hE:=rfl)
theorem w_Few {J:WP} (hJ:Stab J) (ss:List Stp) (n:Int)  :Fn prog J 7 [.agg (pfC ss),.int n] (.bool ((decide (((ss.length:Nat):Int)≤n)&& !(ss.any (fun s':Stp=>decide ((60:Int)< ((s'.args.length:Nat):Int))))))):=by
 refine fE Tryz.func7 fun S w0 hS hJ0=>?_
 clear hJ0
 refine hqs tb hJ [1,1000] [.ptr (pfC ss),_] [0] [_,_] rfl ⟨iBs hS hJ,trivial⟩ ?_
 refine hqs tb hJ [1001,1011] [_,_,.int (ss.length:Nat),_,_,_,_,_,.bool (ss.any ((fun s':Stp=>decide ((60:Int)< ((s'.args.length:Nat):Int))))),_,_,_] [2,8] [_,_] rfl ⟨ZX Ye,fun _ _ hk hx hl hc=>Y6 (ZdD hJ ss 31 [] [] ((fun s':Stp=>decide ((60:Int)< ((s'.args.length:Nat):Int)))) (fun q'=>(w_Few1 hJ q').rr) (Zuu)) Zuv rfl (nm hS hk) (hx) ZI (Zb (hl.D 7 12 rfl hc) (Zb (Qw 31) Zk)) (js hJ hx),trivial⟩ ?_
 refine ln 0 fun hl1=>?_
 exact tRn 1 (hE:=eB (rfl))
theorem Zgk {J:WP} (hJ:Stab J) (xs:List (List BA)) (ys:List (List BA)) (f:FuncId) (caps:List AV) (Os:List OB) (hf:∀ q' r',FnR prog J f Os ([.rd (Zi q'),.rd (Zi r')]++caps) (.bool (decide (q'=r')))) (hk0:Zl prog f):FnR prog J 16 Os [.rd (YT xs),.rd (YT ys),.fn f caps] (.bool (decide (xs=ys))):=by
 refine fER Tryz.func16 fun S w0 hS hJ0 hH=>?_
 clear hJ0
 refine ln 0 fun hl1=>?_
 refine ln 1 fun hl2=>?_
 refine qs tb hJ [0,1,2] [_] [_,_,_] ?_
 refine Zd (hqs tb hJ [0,1,2,1004] [_,.int (xs.length:Nat),_,.int (ys.length:Nat),_] [1,3] [_,_,_,_] rfl ⟨ZX Qf,ZX Qf,trivial⟩ ?_)
 refine cj 3 (fun hb1=>?_) fun hb1=>?_
 ·
  try simp at hb1
  refine qs tb hJ [1000] [_] [_] ?_
  exact tRn 0 (hE:=eB (by first | (have:=Zap (xs:=xs) (ys:=ys) oz (fun j hj=>f1_2 j oz);simp[this];done) | (symm;rw[decide_eq_false_iff_not];intro e;subst e;simp_all;done)))
 ·
  try simp at hb1
  refine Za (nx (Zd (hqs tb hJ [1,2,1000,1001,1002] [_,.int (xs.length:Nat),_] [1] [_,_,_,_,_] rfl ⟨ZX Qf,trivial⟩ ?_)))
  refine Zc (lp (ι:=Nat) (fun k=>(k≤xs.length)∧(∀ j,j<k→ge xs j=ge ys j)) (fun k=>[(17,.int (k:Nat))]) (fun k=>xs.length-k) [0,1,2,3,4] [_,_,_,_] 0 ⟨nzl,fun j hj=>by omega⟩ ?_)
  rintro k ⟨f1_1,f1_2⟩
  refine qs tb hJ [0,1,2,3,4,1000] [_] [_,_,_,_,_,_] ?_
  refine cjS 5 (fun hb2=>?_) fun hb2=>?_
  ·
   try simp at hb2
   refine Za (nx (Zd (Zc (hqs tb hJ [0,1,2,3,4,1002,1003,1004] [_,.ptr [Zi (ge xs k)],_,_,_] [1] [_,_,_,_,_,_,_,_] rfl ⟨iIx ZO,trivial⟩ ?_))))
   refine ln 5 fun hl3=>?_
   refine hqs tb hJ [0,1,2,3,4,7,1003,1004] [_,_,.ptr [Zi (ge ys k)],_,_] [2] [_,_,_,_,_,_,_,_] rfl ⟨iIx ZO,trivial⟩ ?_
   refine ln 6 fun hl4=>?_
   refine hqs tb hJ [0,1,2,3,4,1004] [_,_,_,.bool (decide ((ge xs k)=(ge ys k))),_] [3] [_,_,_,_,_,_] rfl ⟨fun _ _ hk hx hl _=>ZbT (hf (ge xs k) (ge ys k)) hk0 rfl (hl.D 0 26 rfl rfl) (nm hS hk) (hx) (fun _ ho=>YN hH hk ho) (Zb (hl.D 1 27 rfl rfl) (Zb (hl.D 2 28 rfl rfl) Zk)) (js hJ hx),trivial⟩ ?_
   refine cj 5 (fun hb3=>?_) fun hb3=>?_
   ·
    try simp at hb3
    refine qs tb hJ [1000] [_] [_] ?_
    exact tRn 0 (hE:=eB (by first | (have:=Zap (xs:=xs) (ys:=ys) oz (fun j hj=>f1_2 j oz);simp[this];done) | (symm;rw[decide_eq_false_iff_not];intro e;subst e;simp_all;done)))
   ·
    try simp at hb3
    refine Za (nx (hqp tb hJ [0,1,2,3,1001] [.int (k+1:Nat),_] [0] [_,_,_,_,_] rfl ⟨Yf,trivial⟩ ?_))
    exact lpE (k+1) [0,1,2,3,4] ⟨oz,ZG f1_2 (by simpa using hb3)⟩
  ·
   try simp at hb2
   refine Zp (nx (qs tb hJ [1000] [_] [_] ?_))
   exact tRn 0 (hE:=eB (by first | (have:=Zap (xs:=xs) (ys:=ys) oz (fun j hj=>f1_2 j oz);simp[this];done) | (symm;rw[decide_eq_false_iff_not];intro e;subst e;simp_all;done)))
theorem ZiL {J:WP} (hJ:Stab J) (d:Db) (z:Int) (ss:List Stp) (hw:∀ f∈d.frames,f.wide.length*32≤140737488351232) (hG:Zas J) (hT:∀ w,J w→Tab w):Fn prog J 3 [.agg (dbC d),.int z,.agg (pfC ss)] (.bool true):=by
 refine fE Tryz.func3 fun S w0 hS hJ0=>?_
 refine tw Z6 (ZE tb hJ [1,1000,1001] [.ptr (dbC d),.ptr (pfC ss),_] [0,1] [_,_,_] rfl ⟨iBo hS hJ,iBo hS hJ,trivial⟩ ?_)
 refine Zd (ZE tb hJ [0,1,2,1007] [_,.bool (Zhi d (20:Int) (100:Int)),_,_,_,.bool ((decide (((ss.length:Nat):Int)≤(60:Int))&& !(ss.any (fun s':Stp=>decide ((60:Int)< ((s'.args.length:Nat):Int)))))),_,_] [1,5] [_,_,_,_] rfl ⟨iFo hS hJ (ZsL hJ d (20:Int) (100:Int)) call_6,iFo hS hJ (w_Few hJ ss (60:Int)) call_7,trivial⟩ ?_)
 refine cj 3 (fun hb1=>?_) fun hb1=>?_
 ·
  refine ZE tb hJ [1001] [.bool true,_] [0] [_] rfl ⟨iFo hS hJ (ZnM hJ  (by exact hT)) ZsC,trivial⟩ ?_
  exact tRo 0 (hE:=rfl)
 ·
  have e1:Zhi d 20 100=true:=by simp only[Bool.or_eq_false_iff,Bool.not_eq_false']at hb1;exact hb1.1
  have hap:=Zpi e1
  refine Za (nx (Zd (ZE tb hJ [0,1,2,1008] [_,_,_,.int (Zaq d z ss),_,_,_,.int (Zaq d z ss),_] [3,7] [_,_,_,_] rfl ⟨iFo hS hJ (Zgn hJ d z ss (by exact hw) (by exact hG)) Zol,iFo hS hJ (ZgL hJ d z ss (by exact fun i hi=>hw _ (Zj hi))) Zjb,trivial⟩ ?_)))
  refine cj 3 (fun hb2=>?_) fun hb2=>?_
  ·
   exact False.elim (by simp at hb2)
  ·
   refine Za (nx (ZE tb hJ [0,1,2,1005,1007,1008] [_,_,_,.tup [.rd (Zi (((ZdE d z ss).1))),.int ((ZdE d z ss).2)],_,_,_,_,_] [3] [_,_,_,_,_,_] rfl ⟨iFo hS hJ (Zm2 hJ d z ss (by exact hw) (by exact hG)) ZuD,trivial⟩ ?_))
   refine ln 3 fun hl1=>?_
   refine ZE tb hJ [0,1,2,4,5,1007,1008] [_,_,_,.tup [.rd (Zi (((ZdE d z ss).1))),.int ((ZdE d z ss).2)],_,_,_,_,_] [3] [_,_,_,_,_,_,_] rfl ⟨iFo hS hJ (Zoy hJ d z ss (by exact fun i hi=>hw _ (Zj hi))) ZuC,trivial⟩ ?_
   refine tsq (snK 3 tb (env':=[(52,_),(51,_),(50,_),(1,_),(3,_),(5,_),(7,_),(8,_),(9,_),(10,_)]) rfl (sy (.tup [.rd (YT (((X2 d z ss).1))),.agg (vdC (((X2 d z ss).2))),.int (Zaq d z ss)]) (fun h=>ZcZ (ZpS hJ d z ss (by exact hw) (by exact hG)) ZuB rfl (Zy hS _ h.keep h.x) (h.x.1) (Zb (h.get 2 rfl) (Zb (h.get 1 rfl) (Zb (h.get 0 rfl) Zk))) (jo hJ h.x)) ?_))
   refine snK 4 tb (env':=[(56,_),(55,_),(54,_),(49,_),(53,_),(52,_),(51,_),(50,_),(1,_),(3,_),(5,_),(7,_),(8,_),(9,_),(10,_)]) rfl (Z9 Zbk hJ rfl rfl rfl (lb rfl) fun b1=>?_)
   refine snK 1 tb (env':=[(11,_),(12,_),(56,_),(55,_),(54,_),(49,_),(53,_),(52,_),(51,_),(50,_),(1,_),(3,_),(5,_),(7,_),(8,_),(9,_),(10,_)]) rfl (ZD (b:=b1) (off:=0) (es:=[_,_]) (news:=[_,_]) hJ hJ0 XF rfl rfl rfl (lb rfl) rfl (fun a w h=>⟨(h.get 1 rfl),(h.get 3 rfl)⟩) ?_)
   refine snK 1 tb (env':=[(13,_),(11,_),(12,_),(56,_),(55,_),(54,_),(49,_),(53,_),(52,_),(51,_),(50,_),(1,_),(3,_),(5,_),(7,_),(8,_),(9,_),(10,_)]) rfl (kw (fun h=>Yn hS h (m:=2) (s:=12) rfl) ?_)
   refine seK [0,1,2,5,11,12,13,14,15,16,17] [_,_,_,_,_,_,_,_,_,_,_] rfl (nx (ln 2 fun hl2=>?_))
   refine tsq (snK 3 tb (env':=[(60,_),(59,_),(58,_),(12,_),(13,_),(11,_),(54,_),(1,_),(3,_),(5,_),(7,_),(8,_),(9,_),(10,_)]) rfl (sy (.tup [.rd (YT (((X2 d z ss).1))),.agg (vdC (((X2 d z ss).2))),.int (Zaq d z ss)]) (fun h=>ZcZ (ZrS hJ d z ss (by exact fun i hi=>hw _ (Zj hi)) (by exact hap)) ZuA rfl (Zy hS _ h.keep h.x) (h.x.1) (Zb (h.get 2 rfl) (Zb (h.get 1 rfl) (Zb (h.get 0 rfl) Zk))) (jo hJ h.x)) ?_))
   refine snK 4 tb (env':=[(64,_),(63,_),(62,_),(57,_),(61,_),(60,_),(59,_),(58,_),(12,_),(13,_),(11,_),(54,_),(1,_),(3,_),(5,_),(7,_),(8,_),(9,_),(10,_)]) rfl (Z9 Zbk hJ rfl rfl rfl (lb rfl) fun b2=>?_)
   refine snK 1 tb (env':=[(14,_),(15,_),(64,_),(63,_),(62,_),(57,_),(61,_),(60,_),(59,_),(58,_),(12,_),(13,_),(11,_),(54,_),(1,_),(3,_),(5,_),(7,_),(8,_),(9,_),(10,_)]) rfl (ZD (b:=b2) (off:=0) (es:=[_,_]) (news:=[_,_]) hJ hJ0 XF rfl rfl rfl (lb rfl) rfl (fun a w h=>⟨(h.get 1 rfl),(h.get 3 rfl)⟩) ?_)
   refine snK 1 tb (env':=[(16,_),(14,_),(15,_),(64,_),(63,_),(62,_),(57,_),(61,_),(60,_),(59,_),(58,_),(12,_),(13,_),(11,_),(54,_),(1,_),(3,_),(5,_),(7,_),(8,_),(9,_),(10,_)]) rfl (kw (fun h=>Yn hS h (m:=2) (s:=15) rfl) ?_)
   refine seK [0,1,2,11,12,13,18,19,20,21] [_,_,_,_,_,_,_,_,_,_] rfl (nx (ZE tb hJ [1026] [_,_,.bool (decide ((((ZdE d z ss).1))=(((ZdE d z ss).1)))),_,_,_,_,_,_,_,_,.bool (decide ((((X2 d z ss).1))=(((X2 d z ss).1)))),_,_,_,_,.bool (decide ((((X2 d z ss).2)).1=(((X2 d z ss).2)).1)&&decide ((((X2 d z ss).2)).2=(((X2 d z ss).2)).2)),_,_,_,_,_,_,_,.bool true,_,_] [2,11,16,24] [_] rfl ⟨iFo hS hJ (ZdR hJ (((ZdE d z ss).1)) (((ZdE d z ss).1))) ZgH,fun _ _ hk hx hl hc=>Y6 (Zgk hJ (((X2 d z ss).1)) (((X2 d z ss).1)) 15 [] [] (fun q' r'=>(ZdR hJ q' r').rr) (ZgH)) Zuz rfl (Zy hS _ hk hx) (hx.1) ZI (Zb (hl.D 9 74 rfl hc) (Zb (hl.D 10 75 rfl hc) (Zb (Qw 15) Zk))) (jo hJ hx),fun _ _ _ hx hl hc=>r_eqlV eqVd rfl (hl.D 14 79 rfl hc) (hl.D 15 80 rfl hc) hx,fun _ _ hk hx _ hc=>ZcZ (ZnM hJ  (by have hc':(((((((decide ((((ZdE d z ss).1))=(((ZdE d z ss).1))))&& (decide ((ZdE d z ss).2=(ZdE d z ss).2)))&& (decide ((((X2 d z ss).1))=(((X2 d z ss).1)))))&& (decide ((((X2 d z ss).2)).1=(((X2 d z ss).2)).1)&&decide ((((X2 d z ss).2)).2=(((X2 d z ss).2)).2)))&& (decide (Zaq d z ss=Zaq d z ss)))==true))=true:=hc;(try simp at hc');(exact hT))) ZsC rfl (Zy hS _ hk hx) (hx.1) Zk (jo hJ hx),trivial⟩ ?_))
   exact tRo 0 (hE:=eB yz)
end Go.Proofs.YtaigaoflehfdcaaGreatDoor
