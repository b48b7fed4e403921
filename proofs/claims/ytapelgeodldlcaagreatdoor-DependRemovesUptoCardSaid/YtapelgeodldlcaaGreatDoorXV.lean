/-
  CONTRACTS: slices.Sorted(maps.Keys(..)) at a set of numbers.
  PLAIN LAW: what a proof names; what each assertion uses, as the program finds it.
  CONTRACTS of the program: who uses what.
  PLAIN LAW: what can be reached.
  CONTRACTS of the program: what is needed.
  PLAIN LAW: what is needed, in order; depths.
  CONTRACTS of the program: uses, users, depths.
  CONTRACTS of the program: needs, axioms, depth.
  PLAIN LAW: what is on every chain, as the program finds it.
  CONTRACTS of the program: what is on every chain.
  THE LAW's SMALL DATABASE: what it is, and what is said of it.
  CONTRACTS of the law: the small database, awake, few.
  AN ORDER BY PRIORITIES: the numbers of given labels, the rest behind them, the first that is ready again and again.
  CONTRACTS of the program: an order by priorities.
  WHAT IS USED STANDS AHEAD AND IS LESS DEEP; users are the converse of uses; needs are closed.
  THE LAW DependOrders returns true.
  PLAIN LAW: what is not needed; what ends with a mark.
  CONTRACTS of the program: what is not needed, what is deprecated.
  THE ENGINE: a difference of two lengths.
  THE ENGINE: a slice that was cut to its length (slices.Clip): an append to it makes a new row.
  THE ENGINE: elements of the tail of an own row, by address; appends to what was clipped.
-/
import Derived.Test.YtapelgeodldlcaaGreatDoorXU
import Derived.TacticsInMore
import Derived.Test.YtapelgeodldlcaaGreatDoorXT
namespace Go.Proofs.YtapelgeodldlcaaGreatDoor
open Go.RowKit Go.Maps Go.Sort Go.Shelf
def Xv (xs:List Int):List Int:=xs.mergeSort fun x y=>decide (x≤y)
theorem sortsA (m:Nat):AnyZI.SortsIn Tryz.prog Tryz.sortedA_ren Fence.wide m:=
 ⟨fun blk off cap ss W hH hblk hsz=>callsIn_wide.2 (AnyM.slices_Sort_int Tryz.sortA blk off cap ss W hH hblk hsz),
  fun p cap W=>callsIn_wide.2 (AnyM.slices_Sort_int_none Tryz.sortA p cap W)⟩
set_option maxHeartbeats 2000000 in
set_option maxRecDepth 100000 in
theorem ZiP {H:Type} (b nn:Nat) (D0:DataW H) (R:Value→Option (DataW H×List MemPlace)) (w:World) (hown:w.ownsMap Tryz.prog 3 R b nn D0) (hmax:Maps.size D0≤maxLen) (hbytes:Maps.size D0*8≤140737488355328):
 Calls Tryz.prog 29 #[.map (some b)] w fun e w'=>∃(v:Value) (ss:List Int),e= .returned v∧ss.Perm (intKeys D0)∧
  w'.ownsRow w.heap.size 3 1 v ss.length ((ss.mergeSort (fun x y=>decide (x≤y))).map encZ)∧(v= .slice none 0 0↔ss=[])∧Below w.heap.size w w':=by
 refine(callsIn_wide (n:=6)).1 ?_
 have hbl:=hown.lt
 have hseq:SeqGives Fence.wide 2 Tryz.prog 74 #[.pointer (some ⟨w.heap.size,0,none⟩)] encZ (fun ss=>ss.Perm (intKeys D0)) (Maps.size D0) (w.alloc (.cells #[.map (some b)] 53)):=
  AnyZI.keys_gives (ρ:=Tryz.keysA_ren) { Tryz.keysA with } Fence.wide _ trivial rfl (by omega) w.heap.size b nn D0 _ (by simp) (by simp) (by
   obtain⟨es,clock,hb,Ft,hs,hD⟩:=hown
   exact⟨es,clock,(Below.heap_alloc _ _ b hbl).trans hb,Ft,hs,hD⟩)
 have cK:∀ mb W,CallsIn Fence.wide 5 Tryz.prog 55 #[.map mb] W fun e w'=>e= .returned (.func (.func 74) #[] #[.pointer (some ⟨W.heap.size,0,none⟩)])∧w'=W.alloc (.cells #[.map mb] 53):=fun mb W=>AnyZI.keys_in Tryz.keysA Fence.wide 5 trivial rfl mb W
 have cS:=AnyZI.sorted_in Tryz.sortedA Fence.wide 5 trivial trivial trivial trivial rfl (by omega) (sortsA _) (enters_of Tryz.func73 (by kernel_rfl) rfl) 74 #[.pointer (some ⟨w.heap.size,0,none⟩)] trivial (enters_of Tryz.func74 (by kernel_rfl) rfl) _ _ hmax hbytes _ hseq
 change CallsIn _ _ Tryz.prog 54 _ _ _ at cS
 have hfK:Fence.wide.fn 55:=trivial
 have hfS:Fence.wide.fn 54:=trivial
 refine callsIn_of_wp Tryz.func29 rfl trivial ?_ rfl
 simp only[Tryz.ntmps29,List.size_toArray,List.length_cons,List.length_nil,Nat.reduceAdd,Nat.reduceSub,Array.replicate_succ,Array.replicate_zero,List.push_toArray,List.append_toArray,List.nil_append,List.cons_append]
 gi_wp2_with (first
  | (gi_at_call 55;refine(cK _ _).mono ?_;rintro e w' ⟨rfl,rfl⟩)
  | (gi_at_call 54;refine cS.mono ?_;rintro e w' ⟨v,ss,rfl,hS,hrow,hnil,hb⟩))
 go_ret
 exact⟨v,ss,rfl,hS,ownsRow_base_a hrow (by simp),hnil,((Below.refl _ w).alloc (Nat.le_refl _) _).trans (hb.mono (by simp))⟩
theorem ZiT {w:World} {M:Nat} {xs:List Int} {S:Nat→Prop} {lo:Nat} (hi:(OB.set keyI M xs).inv lo S w) (hx:∀ x∈xs,(Lit.int .i64 x).wf=true) (hl:xs.length≤maxLen):
 ∃ D0:DataW Unit,w.ownsMap Tryz.prog 3 (plainElem Tryz.prog 4) M xs.length D0∧(intKeys D0).Perm xs∧Maps.size D0=xs.length:=by
 obtain⟨_,Lv,⟨es,clock,hm,hE,hN,hB,hC⟩,hR⟩:=hi
 have key:∀(xs:List Int) (Lv:List (Int×Value)),RelM S w (fun b:Bool=>AV.bool b) (xs.map fun x=>(x,true)) Lv→Lv=xs.map fun x=>(x,.bool true):=by
  intro xs
  induction xs with
  | nil=>intro Lv h;cases Lv with | nil=>rfl | cons _ _=>exact h.elim
  | cons x xs ih=>
   intro Lv h
   cases Lv with
   | nil=>exact h.elim
   | cons q Lv=>
    obtain⟨h1,h2,h3⟩:=h
    rw[ih Lv h3,List.map_cons]
    obtain⟨a,b⟩:=q
    simp only at h1 h2
    rw[h1,h2.lit]
 have hLv:=key xs Lv hR
 subst hLv
 have hE':es.toList.map (fun e=>(e.key,e.val))=xs.map fun x=>(Value.int .i64 x,Value.bool true):=by
  rw[hE,List.map_map];rfl
 have hkeys:es.toList.map (·.key)=xs.map fun x=>Value.int .i64 x:=by
  have:=congrArg (List.map Prod.fst) hE'
  simpa [Function.comp_def]using this
 have hnd:xs.Nodup:=by simpa [Function.comp_def]using hN
 have hsz:es.size=xs.length:=by
  have:=congrArg List.length hE'
  simpa using this
 have hrd:∀ e∈es.toList,∃ x∈xs,e.key= .int .i64 x∧e.val= .bool true:=fun e he=>by
  have:(e.key,e.val)∈es.toList.map (fun e=>(e.key,e.val)):=List.mem_map_of_mem he
  rw[hE']at this
  obtain⟨x,hx,hxe⟩:=List.mem_map.1 this
  simp only[Prod.mk.injEq]at hxe
  exact⟨x,hx,hxe.1.symm,hxe.2.symm⟩
 have hone:∀ e∈es.toList,∀ x,x∈xs→e.key= .int .i64 x→e.val= .bool true→Go.WideElems.rd (H:=Unit) Tryz.prog 3 (plainElem Tryz.prog 4) e=some (.int .i64 x,.lit (.bool true)):=fun e _ x hxx h1 h2=>by
  unfold Go.WideElems.rd
  rw[h1,h2,Maps.keyOf_int_mk Tryz.underlying3 (hx x hxx),plainElem_bool Tryz.underlying4]
  rfl
 have hmap:es.toList.map (Go.WideElems.rg (H:=Unit) Tryz.prog 3 (plainElem Tryz.prog 4))=xs.map fun x=>(Lit.int .i64 x,DataW.lit (.bool true)):=by
  have e1:es.toList.map (Go.WideElems.rg (H:=Unit) Tryz.prog 3 (plainElem Tryz.prog 4))=(es.toList.map (fun e=>(e.key,e.val))).map fun p=>(match p.1 with | .int _ x=>Lit.int .i64 x | _=>.bool false,DataW.lit (.bool true)):=by
   rw[List.map_map]
   refine List.map_congr_left fun e he=>?_
   obtain⟨x,hxx,h1,h2⟩:=hrd e he
   unfold Go.WideElems.rg
   rw[hone e he x hxx h1 h2]
   simp[h1]
  rw[e1,hE',List.map_map]
  rfl
 refine⟨.map ((es.toList.map (Go.WideElems.rg Tryz.prog 3 (plainElem Tryz.prog 4))).foldr DataW.insert []),⟨es,clock,hm,⟨by rw[hsz];exact hl,⟨hC,?_,?_⟩,fun e he=>?_⟩,Nat.le_of_eq hsz,rfl⟩,?_,?_⟩
 · exact hB.imp fun h=>Nat.ne_of_lt h
 · rw[hkeys]
   exact(List.pairwise_map.2 (hnd.imp fun hne e=>hne (by simpa using e)))
 · obtain⟨x,hxx,h1,h2⟩:=hrd e he
   exact⟨_,hone e he x hxx h1 h2⟩
 · have hp:=Go.WideShapes.sorted_perm (es.toList.map (Go.WideElems.rg (H:=Unit) Tryz.prog 3 (plainElem Tryz.prog 4)))
   have:=hp.map fun p=>Go.intOf p.1
   refine this.trans ?_
   rw[hmap,List.map_map]
   exact List.Perm.of_eq (by rw[show((fun p:Lit×DataW Unit=>Go.intOf p.1)∘fun x=>(Lit.int .i64 x,DataW.lit (.bool true)))=id from rfl,List.map_id])
 · have hp:=(Go.WideShapes.sorted_perm (es.toList.map (Go.WideElems.rg (H:=Unit) Tryz.prog 3 (plainElem Tryz.prog 4)))).length_eq
   have:Maps.size (DataW.map ((es.toList.map (Go.WideElems.rg (H:=Unit) Tryz.prog 3 (plainElem Tryz.prog 4))).foldr DataW.insert []))=((es.toList.map (Go.WideElems.rg (H:=Unit) Tryz.prog 3 (plainElem Tryz.prog 4))).foldr DataW.insert []).length:=rfl
   rw[this,hp,hmap,List.length_map]
theorem Zi9 {J:World→Prop} (hJ:Stab J) (M:Nat) (xs:List Int) (hx:∀ x∈xs,0≤x∧x<1000) (hl:xs.length≤1000):FnR Tryz.prog J 29 [OB.set keyI M xs] [.lit (.map (some M))] (.rd (Xj (Xv xs))):=by
 intro S w vs hS hJ0 hH ha
 simp only[RelL]at ha
 obtain⟨u,us,rfl,h1,rfl⟩:=ha
 rw[h1.lit]
 obtain⟨lo,hi⟩:=hH _ (List.mem_singleton.2 rfl)
 obtain⟨D0,hown,hp,hsz⟩:=ZiT hi (fun x hxx=>by have:=hx x hxx;simp[Lit.wf,IntKind.min,IntKind.max,IntKind.bits,IntKind.signed];omega) (by unfold maxLen;omega)
 refine(ZiP M xs.length D0 _ w hown (by rw[hsz];unfold maxLen;omega) (by rw[hsz];omega)).mono fun e w' ⟨v,ss,he,hS',hrow,_,hb⟩=>?_
 have hk:Keeps All w w':=(Keeps.of_below hb).sub fun k hk _=>hk
 have e0:ss.mergeSort (fun x y=>decide (x≤y))=Xv xs:=mergeSort_of_perm_i (hS'.trans hp)
 rw[e0]at hrow
 have hlen:(Xv xs).length=ss.length:=by rw[←e0,List.length_mergeSort]
 refine⟨v,he,?_,hk,hJ w w' hk hJ0⟩
 have hinv:(OB.row v 3 1 ((Xv xs).map ZcP)).inv w.heap.size S w':=⟨(Xv xs).map encZ,by rw[List.length_map,hlen];exact hrow,?_,fun r hr=>by obtain⟨x,_,rfl⟩:=List.mem_map.1 hr;rfl⟩
 · exact ZeM (fun k hk=>hS k ((OB.row v 3 1 ((Xv xs).map ZcP)).lt hinv k hk).1) hinv
 · generalize Xv xs=l
   induction l with
   | nil=>trivial
   | cons x l ih=>exact⟨.lit _ True.intro,ih⟩
end Go.Proofs.YtapelgeodldlcaaGreatDoor
namespace Go.Proofs.YtapelgeodldlcaaGreatDoor
def isC (s:ByteArray) (x:ByteArray):Bool:=decide (s=x)
theorem Zm1 {l:List ByteArray} (h0:0<l.length) (h1:ge l 0=⟨#[40]⟩):Zas l=(l.drop 1).takeWhile fun s=>!decide (s=⟨#[41]⟩):=by
 rw[Zas,if_pos (by simp[h0,h1])]
theorem Zq6 {α:Type} {p:α→Bool}:∀ {xs:List α},(∀ x∈xs,p x=true)→xs.takeWhile p=xs
 | [],_=>rfl
 | x::xs,h=>by rw[List.takeWhile_cons_of_pos (h x (by simp)),Zq6 fun y hy=>h y (by simp[hy])]
theorem tw_hit {xs:List ByteArray} {c:ByteArray} (h:0≤Yz (isC c) xs):xs.take (Yz (isC c) xs).toNat=xs.takeWhile fun s=>!decide (s=c):=by
 obtain⟨_,h3,h4,h5⟩:=Xa (p:=isC c) (xs:=xs) (by omega)
 refine ZaR (Nat.le_of_lt h3) (fun j hj=>?_) fun⟨_,h⟩=>?_
 · have:=h5 j hj
   simp only[isC,decide_eq_false_iff_not]at this
   simpa using fun e=>this e.symm
 · simp only[isC,decide_eq_true_eq]at h4
   rw[Bool.not_eq_true',decide_eq_false_iff_not]at h
   exact h h4.symm
theorem Zsk {xs:List ByteArray} {c:ByteArray} (h:¬ 0≤Yz (isC c) xs):xs=xs.takeWhile fun s=>!decide (s=c):=by
 have h2:Yz (isC c) xs= -1:=Classical.byContradiction fun hn=>h (Xa hn).1
 symm
 refine Zq6 fun x hx=>?_
 unfold Yz at h2
 cases hf:xs.findIdx? (isC c)with
 | some i=>rw[hf]at h2;simp at h2
 | none=>
  rw[List.findIdx?_eq_none_iff]at hf
  have:=hf _ hx
  simp only[isC,decide_eq_false_iff_not]at this
  simpa using fun e=>this e.symm
theorem Zfs {l:List ByteArray} (h0:0<l.length) (h1:ge l 0=⟨#[40]⟩) (h:0≤Yz (isC ⟨#[41]⟩) (l.drop 1)):(l.drop 1).take (Yz (isC ⟨#[41]⟩) (l.drop 1)).toNat=Zas l:=by rw[Zm1 h0 h1,tw_hit h]
theorem ZdR {l:List ByteArray} (h0:0<l.length) (h1:ge l 0=⟨#[40]⟩) (h:¬ 0≤Yz (isC ⟨#[41]⟩) (l.drop 1)):l.drop 1=Zas l:=by rw[Zm1 h0 h1];exact Zsk h
def AtI (d:Db) (k:Nat) (L:List (ByteArray×Int)):Prop:=∀ s j,ZB L s=some j↔ ∃ p,p<k∧j=(p:Int)∧(ge d.frames p).label=s
def Zq0 (d:Db) (k:Nat) (ws:List ByteArray) (xs:List Int):Prop:=xs.Nodup∧∀ x,x∈xs↔ ∃ p,p<k∧x=(p:Int)∧(ge d.frames p).label∈ws
theorem ZoT (d:Db) (k:Nat):Zq0 d k [] []:=⟨.nil,fun x=>by simp⟩
theorem ZeY {xs:List Int} {k:Int} (h:xs.Nodup):(XT xs k).Nodup:=by
 unfold XT
 split
 · exact h
 · rename_i hk
   rw[List.nodup_append]
   exact⟨h,by simp,fun x hx y hy e=>by rw[List.mem_singleton.1 hy]at e;subst e;exact hk hx⟩
theorem ZiV {d:Db} {k:Nat} {L:List (ByteArray×Int)} {ws:List ByteArray} {xs:List Int} {w:ByteArray} (hL:AtI d k L) (h:Zq0 d k ws xs) (hs:(ZB L w).isSome=true) (hd:∀ p q,p<k→q<k→(ge d.frames p).label=(ge d.frames q).label→p=q):
 Zq0 d k (ws++[w]) (XT xs ((ZB L w).getD default)):=by
 obtain⟨j,hj⟩:=Option.isSome_iff_exists.1 hs
 rw[hj,Option.getD_some]
 obtain⟨p,h1,h2,h3⟩:=(hL w j).1 hj
 refine⟨ZeY h.1,fun x=>?_⟩
 rw[mem_addS,h.2 x]
 constructor
 · rintro(⟨q,g1,g2,g3⟩ | rfl)
   · exact⟨q,g1,g2,by simp[g3]⟩
   · exact⟨p,h1,h2,by simp[h3]⟩
 · rintro⟨q,g1,g2,g3⟩
   rcases List.mem_append.1 g3 with g3 | g3
   · exact .inl ⟨q,g1,g2,g3⟩
   · right
     rw[g2,h2,hd q p g1 h1 (by rw[h3];exact List.mem_singleton.1 g3)]
theorem Zf6 {d:Db} {k:Nat} {L:List (ByteArray×Int)} {ws:List ByteArray} {xs:List Int} {w:ByteArray} (hL:AtI d k L) (h:Zq0 d k ws xs) (hs:(ZB L w).isSome=false):Zq0 d k (ws++[w]) xs:=by
 refine⟨h.1,fun x=>?_⟩
 rw[h.2 x]
 constructor
 · rintro⟨q,g1,g2,g3⟩;exact⟨q,g1,g2,by simp[g3]⟩
 · rintro⟨q,g1,g2,g3⟩
   rcases List.mem_append.1 g3 with g3 | g3
   · exact⟨q,g1,g2,g3⟩
   · exfalso
     have:=(hL w (q:Int)).2 ⟨q,g1,rfl,List.mem_singleton.1 g3⟩
     rw[this]at hs
     cases hs
theorem Zlx (d:Db) (ws:List ByteArray) (k:Nat):(Zj8 d ws k).Pairwise (· < ·):=by
 unfold Zj8
 rw[List.pairwise_map]
 refine List.Pairwise.imp (R:=(· < ·)) (fun {a b} h=>by omega) ?_
 exact List.pairwise_lt_range.filter _
theorem Zfg {xs ys:List Int} (h1:xs.Nodup) (h2:ys.Pairwise (· < ·)) (h:∀ x,x∈xs↔x∈ys):Xv xs=ys:=by
 have hn:ys.Nodup:=h2.imp fun h=>by omega
 have hp:xs.Perm ys:=(List.perm_ext_iff_of_nodup h1 hn).2 h
 refine(mergeSort_of_perm_i hp).trans ?_
 exact List.mergeSort_of_pairwise (h2.imp fun h=>by simp[leI];omega)
theorem Zb8:∀ {xs ys:List Int},xs.Nodup→(∀ x∈xs,x∈ys)→xs.length≤ys.length
 | [],_,_,_=>by simp
 | x::xs,ys,h,hs=>by
  have h1:=List.nodup_cons.1 h
  have h2:=Zb8 (xs:=xs) (ys:=ys.erase x) h1.2 fun z hz=>by
   have hne:z≠x:=fun e=>h1.1 (e▸hz)
   exact(List.mem_erase_of_ne hne).2 (hs z (by simp[hz]))
  have h3:=List.length_erase_of_mem (hs x (by simp))
  have h4:0<ys.length:=List.length_pos_of_mem (hs x (by simp))
  simp only[List.length_cons]
  omega
theorem ZiU {d:Db} {k:Nat} {ws:List ByteArray} {xs:List Int} (h:Zq0 d k ws xs):(∀ x∈xs,0≤x∧x<k)∧xs.length≤k:=by
 have h1:∀ x∈xs,0≤x∧x<k:=fun x hx=>by obtain⟨p,g1,g2,_⟩:=(h.2 x).1 hx;omega
 refine⟨h1,?_⟩
 have h4:=Zb8 h.1 (ys:=(List.range k).map fun(p:Nat)=>(p:Int)) fun x hx=>by
  have:=h1 x hx
  rw[List.mem_map]
  exact⟨x.toNat,by rw[List.mem_range];omega,by omega⟩
 simpa using h4
theorem ZnO {d:Db} (h:Qf d=0):∀ k,k<d.frames.length→frE d k=0:=by
 unfold Qf at h
 split at h
 · simp at h
 · split at h
   · rename_i h1;simp[h]at h1
   · exact Qz h
theorem Zty {d:Db} {k:Nat} (h:frE d k=0):frL d k (ge d.frames k).label=false:=by
 unfold frE Ztv at h
 by_cases h1:(!Zc3 (ge d.frames k).label)=true
 · rw[if_pos h1]at h;exact absurd h (by decide)
 rw[if_neg h1]at h
 by_cases h2:((frL d k (ge d.frames k).label||hyL d k (ge d.frames k).label)||Zer d (ge d.frames k).label)=true
 · rw[if_pos h2]at h;exact absurd h (by decide)
 simp only[Bool.or_eq_true,not_or,Bool.not_eq_true]at h2
 exact h2.1.1
theorem Ztx {d:Db} {k:Nat} (h:frE d k=0):(ge d.frames k).thm=false→(ge d.frames k).proof=[]:=fun ht=>by
 refine Classical.byContradiction fun hn=>?_
 have hp:0< (ge d.frames k).proof.length:=List.length_pos_iff.2 hn
 unfold frE Ztv at h
 by_cases h1:(!Zc3 (ge d.frames k).label)=true
 · rw[if_pos h1]at h;exact absurd h (by decide)
 rw[if_neg h1]at h
 by_cases h2:((frL d k (ge d.frames k).label||hyL d k (ge d.frames k).label)||Zer d (ge d.frames k).label)=true
 · rw[if_pos h2]at h;exact absurd h (by decide)
 rw[if_neg h2]at h
 by_cases h3:(decide ((40:Int)< (((ge d.frames k).hyps.length:Nat):Int))||decide ((40:Int)< (((ge d.frames k).dummies.length:Nat):Int)))=true
 · rw[if_pos h3]at h;exact absurd h (by decide)
 rw[if_neg h3]at h
 by_cases h4:(!decide (ZrC d k=0))=true
 · rw[if_pos h4]at h;simp[h]at h4
 rw[if_neg h4]at h
 by_cases h5:(decide ((((ge d.frames k).text.length:Nat):Int)=0)||decide (200< (((ge d.frames k).text.length:Nat):Int)))=true
 · rw[if_pos h5]at h;exact absurd h (by decide)
 rw[if_neg h5]at h
 by_cases h6:(!decide (Zbw d (ge d.frames k).text=0))=true
 · rw[if_pos h6]at h;simp[h]at h6
 rw[if_neg h6]at h
 by_cases h7:(!Zso d (ge d.frames k))=true
 · rw[if_pos h7]at h;exact absurd h (by decide)
 rw[if_neg h7,if_pos (by rw[ht,decide_eq_true (show(0:Int)< (((ge d.frames k).proof.length:Nat):Int) by omega)];rfl)]at h
 exact absurd h (by decide)
theorem ZrE {d:Db} (h:Qf d=0) {p q:Nat} (hpq:p<q) (hq:q<d.frames.length):(ge d.frames p).label≠(ge d.frames q).label:=fun e=>by
 have:=Zty (ZnO h q hq)
 unfold frL at this
 rw[List.any_eq_false]at this
 refine this (ge d.frames p) ?_ (by simp[e])
 have e2:ge (d.frames.take q) p=ge d.frames p:=by simp[ge,List.getD_eq_getElem?_getD,hpq]
 rw[←e2]
 exact ZF (by rw[List.length_take];omega)
theorem Zh5 {d:Db} (h:Qf d=0) {p q:Nat} (hp:p<d.frames.length) (hq:q<d.frames.length) (e:(ge d.frames p).label=(ge d.frames q).label):p=q:=by
 rcases Nat.lt_trichotomy p q with h1 | h1 | h1
 · exact absurd e (ZrE h h1 hq)
 · exact h1
 · exact absurd e.symm (ZrE h h1 hp)
theorem ZqS (d:Db):AtI d 0 []:=fun s j=>by simp[X0]
theorem ZqT {d:Db} (h:Qf d=0) {k:Nat} (hk:k<d.frames.length) {L:List (ByteArray×Int)} (hL:AtI d k L):AtI d (k+1) (QT L (ge d.frames k).label (k:Int)):=fun s j=>by
 rw[Zat]
 by_cases e:s=(ge d.frames k).label
 · rw[if_pos e]
   constructor
   · intro hj
     exact⟨k,by omega,by simpa using hj.symm,e.symm⟩
   · rintro⟨p,h1,h2,h3⟩
     have:p=k:=Zh5 h (by omega) hk (by rw[h3,e])
     rw[h2,this]
 · rw[if_neg e,hL s j]
   constructor
   · rintro⟨p,h1,h2,h3⟩;exact⟨p,by omega,h2,h3⟩
   · rintro⟨p,h1,h2,h3⟩
     refine⟨p,?_,h2,h3⟩
     rcases Nat.lt_or_ge p k with h4 | h4
     · exact h4
     · have:p=k:=by omega
       subst this
       exact absurd h3.symm e
theorem ZoD {d:Db} (h:Qf d=0) {k:Nat} (hk:k<d.frames.length) {xs:List Int} (hx:Zq0 d k (Zas (ge d.frames k).proof) xs):Xv xs=Zhu d k:=by
 unfold Zhu
 by_cases ht:(ge d.frames k).thm=true
 · rw[if_pos ht]
   refine Zfg hx.1 (Zlx _ _ _) fun x=>?_
   rw[hx.2 x,Zj8,List.mem_map]
   constructor
   · rintro⟨p,h1,h2,h3⟩
     exact⟨p,by rw[List.mem_filter,List.mem_range];exact⟨h1,by simpa using h3⟩,h2.symm⟩
   · rintro⟨p,h1,h2⟩
     rw[List.mem_filter,List.mem_range]at h1
     exact⟨p,h1.1,h2.symm,by simpa using h1.2⟩
 · rw[if_neg ht]
   have hp:=Ztx (ZnO h k hk) (by simpa using ht)
   have:xs=[]:=by
    refine List.eq_nil_iff_forall_not_mem.2 fun x hx'=>?_
    obtain⟨p,_,_,h3⟩:=(hx.2 x).1 hx'
    rw[hp]at h3
    simp[Zas]at h3
   rw[this];simp[Xv]
def usL (d:Db) (k:Nat):List (List Int):=(List.range k).map fun i=>Zhu d i
theorem ZoG (d:Db) (k:Nat):usL d (k+1)=usL d k++[Zhu d k]:=by rw[usL,List.range_succ,List.map_append];rfl
theorem ZaO (d:Db) (k:Nat):(usL d k).length=k:=by simp[usL]
theorem Zq3 {d:Db} {n k:Nat} (h:k<n):ge (usL d n) k=Zhu d k:=by
 rw[Xc (by rw[ZaO];exact h)]
 simp[usL]
def rdE (d:Db) (ns:List Int):Int:=if !decide (Qf d=0)then Qf d else if ns.any fun i=>decide (i<0)||decide (((d.frames.length:Nat):Int)≤i)then 3 else 0
theorem ZdH (d:Db) (i:Int):rdE d [i]=Zk2 d i:=by simp[rdE,Zk2]
theorem Zaq (d:Db):rdE d []=Qf d:=by
 unfold rdE
 split
 · rfl
 · rename_i h
   simp at h
   simp[h]
end Go.Proofs.YtapelgeodldlcaaGreatDoor
set_option maxHeartbeats 8000000
set_option maxRecDepth 100000
namespace Go.Proofs.YtapelgeodldlcaaGreatDoor
open Go.RowKit
theorem Zpy {J:World→Prop} (hJ:Stab J) (xs:List ByteArray) (s:ByteArray)  :Fn Tryz.prog J 56 [.rd (Zb xs),.str s] (.int (Yz (isC s) xs)):=by
 refine Zu (N:=19) Tryz.func56 rfl rfl (lb rfl) fun S w0 hS hJ0=>?_
 clear hJ0
 refine ln 0 fun hl1=>?_
 refine qs tb hJ [0,1] [_] [_,_] ?_
 refine Zj (hqs tb hJ [0,1,1001,1002] [_,.int (xs.length:Nat),_] [1] [_,_,_,_] rfl ⟨YG Zv,trivial⟩ ?_)
 refine Zf (lp (ι:=Nat) (fun k=>(k≤xs.length)∧(∀ j,j<k→isC s (ge xs j)=false)) (fun k=>[(8,.int (k:Nat))]) (fun k=>xs.length-k) [0,1,2,3] [_,_,_] 0 ⟨Nat.zero_le _,fun j hj=>by omega⟩ ?_)
 rintro k ⟨f1_1,f1_2⟩
 refine qs tb hJ [0,1,2,3,1000] [_] [_,_,_,_,_] ?_
 refine cjS 4 (fun hb1=>?_) fun hb1=>?_
 try simp at hb1
 refine Zc (nx (Zj (Zf (qs tb hJ [0,1,2,3,1001] [_,_] [_,_,_,_,_] ?_))))
 refine hqs tb hJ [0,1,2,3,4,1005] [_,_,_,.ptr [.lit (.string (ge xs k))],_,_] [3] [_,_,_,_,_,_] rfl ⟨iIx Zn,trivial⟩ ?_
 refine cj 5 (fun hb2=>?_) fun hb2=>?_
 try simp at hb2
 refine qs tb hJ [1001] [_,_] [_] ?_
 exact Zg (rtn (m:=0) rfl rfl (eI (by first | exact(YJ hb1 (by simpa [isC]using hb2) f1_2).symm | exact(Ys fun j hj=>f1_2 j (by omega)).symm)))
 try simp at hb2
 refine Zc (nx (hqp tb hJ [0,1,2,1001] [.int (k+1:Nat),_] [0] [_,_,_,_] rfl ⟨Yv,trivial⟩ ?_))
 exact lpE (k+1) [0,1,2,3] ⟨by omega,ZZ f1_2 (by simpa [isC]using hb2)⟩
 try simp at hb1
 refine Zx (nx (qs tb hJ [1000] [_] [_] ?_))
 exact Zg (rtn (m:=0) rfl rfl (eI (by first | exact(YJ hb1 (by simpa [isC]using hb2) f1_2).symm | exact(Ys fun j hj=>f1_2 j (by omega)).symm)))
theorem Zpn {J:World→Prop} (hJ:Stab J) (l:List ByteArray)  :Fn Tryz.prog J 31 [.rd (Zb l)] (.rd (Zb (Zas l))):=by
 refine Zu (N:=25) Tryz.func31 rfl rfl (lb rfl) fun S w0 hS hJ0=>?_
 clear hJ0
 refine ln 0 fun hl1=>?_
 refine qs tb hJ [0] [_] [_] ?_
 refine Zj (hqs tb hJ [0,1008] [_,.int (l.length:Nat),_,_,_,.ptr [.lit (.string (ge l 0))],_,_,_] [1,5] [_,_] rfl ⟨YG Zv,gIx (k:=0) Zn (hk:=fun(hc':((decide ((l.length:Int)=(0:Int)))==false)=true)=>by(try simp at hc');first | omega | (simp;omega) | grind[ZF]),trivial⟩ ?_)
 refine cj 1 (fun hb1=>?_) fun hb1=>?_
 refine qs tb hJ [1001] [_,_] [_] ?_
 exact Zg (rtn (m:=0) rfl rfl (congrArg (fun z=>AV.rd (Zb z)) (show l=(Zas l)from by first | exact Zbh (fun h0 h1=>by rw[h1,decide_eq_false (by omega)]at hb1;exact absurd hb1 (by decide)) | exact Zfs e1.1 e1.2 (of_decide_eq_true hb2) | exact ZdR e1.1 e1.2 (of_decide_eq_false hb2))))
 have e1:0<l.length∧ge l 0=⟨#[40]⟩:=by simp only[Bool.or_eq_false_iff,decide_eq_false_iff_not,Bool.not_eq_false',decide_eq_true_eq]at hb1;exact⟨by omega,hb1.2⟩
 refine Zc (nx (hqs tb hJ [1001,1002] [_,.rd (Zb (l.drop 1)),_] [1] [_,_] rfl ⟨fun _ _ _ hx hl _=>Zbe (ys:=l.drop 1) (lo:=1) (hi:=l.length) (by rw[List.take_length]) Zn (fun _=>rfl) rfl (hl.dep 0 15 _ rfl rfl rfl rfl) (Rel.of_lit (Go.Value.int Go.IntKind.i64 1)) rfl (by omega) (by omega) hx,trivial⟩ ?_))
 refine ln 0 fun hl2=>?_
 refine Zj (hqs tb hJ [1,1002] [_,.int (Yz (isC (⟨#[41]⟩:ByteArray)) (l.drop 1)),_] [1] [_,_] rfl ⟨iFn hS hJ (Zpy hJ (xs:=(l.drop 1)) (s:=(⟨#[41]⟩:ByteArray)) ) Zn0,trivial⟩ ?_)
 refine qs tb hJ [0,1,1001] [_,_] [_,_,_] ?_
 refine cj 2 (fun hb2=>?_) fun hb2=>?_
 refine tw (sa 1 rfl (congrArg AV.int (show Yz (isC (⟨#[41]⟩:ByteArray)) (l.drop 1)=(((Yz (isC ⟨#[41]⟩) (l.drop 1)).toNat:Nat):Int)from by have:=of_decide_eq_true hb2;omega))) ?_
 refine hqs tb hJ [1002,1003] [_,_,.rd (Zb ((l.drop 1).take ((Yz (isC ⟨#[41]⟩) (l.drop 1)).toNat))),_] [2] [_,_] rfl ⟨fun _ _ _ hx hl _=>Zbe (ys:=(l.drop 1).take ((Yz (isC ⟨#[41]⟩) (l.drop 1)).toNat)) (lo:=0) (hi:=(Yz (isC ⟨#[41]⟩) (l.drop 1)).toNat) List.drop_zero Zn (fun _=>rfl) rfl (hl.dep 0 21 _ rfl rfl rfl rfl) rfl (hl.dep 1 22 _ rfl rfl rfl rfl) (by have:=(Xa (p:=isC ⟨#[41]⟩) (xs:=l.drop 1) (by have:=of_decide_eq_true hb2;omega)).2.1;omega) (by have:=(Xa (p:=isC ⟨#[41]⟩) (xs:=l.drop 1) (by have:=of_decide_eq_true hb2;omega)).2.1;omega) hx,trivial⟩ ?_
 refine ln 0 fun hl3=>?_
 exact Zg (rtn (m:=1) rfl rfl (congrArg (fun z=>AV.rd (Zb z)) (show((l.drop 1).take ((Yz (isC ⟨#[41]⟩) (l.drop 1)).toNat))=(Zas l)from by first | exact Zbh (fun h0 h1=>by rw[h1,decide_eq_false (by omega)]at hb1;exact absurd hb1 (by decide)) | exact Zfs e1.1 e1.2 (of_decide_eq_true hb2) | exact ZdR e1.1 e1.2 (of_decide_eq_false hb2))))
 refine Zc (nx (qs tb hJ [1001] [_,_] [_] ?_))
 exact Zg (rtn (m:=0) rfl rfl (congrArg (fun z=>AV.rd (Zb z)) (show(l.drop 1)=(Zas l)from by first | exact Zbh (fun h0 h1=>by rw[h1,decide_eq_false (by omega)]at hb1;exact absurd hb1 (by decide)) | exact Zfs e1.1 e1.2 (of_decide_eq_true hb2) | exact ZdR e1.1 e1.2 (of_decide_eq_false hb2))))
theorem ZhR {J:World→Prop} (hJ:Stab J) (d:Db) (ns:List Int) (hw:∀ f∈d.frames,f.wide.length*32≤140737488351232) (hG:X8 J):Fn Tryz.prog J 16 [.agg (dbC d),.rd (Xj ns)] (.tup [gAV (rdE d ns) [Zb d.consts,Zb d.vars,YD d.frames,Z4 (usL d d.frames.length)],.int (rdE d ns)]):=by
 refine Zu (N:=87) Tryz.func16 rfl rfl (lb rfl) fun S w0 hS hJ0=>?_
 refine tw Yj ?_
 refine ln 1 fun hl1=>?_
 refine ZI tb hJ [1,1000] [.ptr (dbC d),_,_] [0] [_,_] rfl ⟨fun _ _ hk hx hl _=>YP rfl (hl.env 0 0 _ rfl rfl) (Zr hS _ hk hx _ (Nat.le_refl _)) (jo hJ hx),trivial⟩ ?_
 refine Zj (ZI tb hJ [0,1,1002] [_,.int (Qf d),_] [1] [_,_,_] rfl ⟨iFo hS hJ (Zfr hJ (d:=d) (hw) (hG)) ZjM,trivial⟩ ?_)
 refine qso tb hJ [0,1,2,1001] [_,_] [_,_,_,_] ?_
 refine cj 3 (fun hb1=>?_) fun hb1=>?_
 have e9:rdE d ns=Qf d:=by rw[rdE,if_pos hb1]
 have e8:¬ rdE d ns=0:=by rw[e9];exact Zji hb1
 refine qso tb hJ [1001,1002] [_,_,_] [_,_] ?_
 exact Zg (fun a w h=>X1 (m:=0) (k:=1) rfl (YM h) rfl rfl (show .rd (.lit (Go.Value.pointer none))=gAV (rdE d ns) [Zb d.consts,Zb d.vars,YD d.frames,Z4 (usL d d.frames.length)]from by first | exact e9.symm | exact(Ze3 e8).symm | (rw[Zcd e9,f2_2,show k=d.frames.length by omega])) (eI (by first | exact e9.symm | exact(Ze3 e8).symm | (rw[Zcd e9,f2_2,show k=d.frames.length by omega]))))
 have e1:Qf d=0:=ZhW hb1
 have e2:=Zcj e1
 refine Zc (nx (Zj (ZI tb hJ [1,1000,1001,1002] [_,.int (ns.length:Nat),_] [1] [_,_,_,_] rfl ⟨YG Qh,trivial⟩ ?_)))
 refine Zf (lpo (ι:=Nat) (fun k=>(k≤ns.length)∧(((ns.take k).any fun i=>decide (i<0)||decide ((d.frames.length:Int)≤i))=false)) (fun _=>[]) (fun k=>[(25,.int (k:Nat))]) (fun k=>ns.length-k) [0,1,2,3] [_,_,_] 0 ⟨Nat.zero_le _,rfl⟩ ?_)
 rintro k ⟨f1_1,f1_2⟩
 refine qso tb hJ [0,1,2,3,1000] [_] [_,_,_,_,_] ?_
 refine cjS 4 (fun hb2=>?_) fun hb2=>?_
 try simp at hb2
 refine Zc (nx (Zj (Zf (ZI tb hJ [0,1,2,3,1002] [.ptr [.lit (.int .i64 (ge ns k))],_,_] [0] [_,_,_,_,_] rfl ⟨iIx Yc,trivial⟩ ?_))))
 refine ZI tb hJ [0,1,2,3,1008] [_,_,_,_,_,_,.int (d.frames.length:Nat),_,_] [6] [_,_,_,_,_] rfl ⟨YG YK,trivial⟩ ?_
 refine cj 4 (fun hb3=>?_) fun hb3=>?_
 try simp at hb3
 have e9:rdE d ns=3:=by rw[rdE,if_neg (by rw[e1];decide),if_pos (ZuM (k:=k) (by omega) (by simpa using hb3))]
 have e8:¬ rdE d ns=0:=by rw[e9];decide
 refine qso tb hJ [1000,1001] [_,_] [_,_] ?_
 exact Zg (fun a w h=>X1 (m:=0) (k:=1) rfl (YM h) rfl rfl (show .rd (.lit (Go.Value.pointer none))=gAV (rdE d ns) [Zb d.consts,Zb d.vars,YD d.frames,Z4 (usL d d.frames.length)]from by first | exact e9.symm | exact(Ze3 e8).symm | (rw[Zcd e9,f2_2,show k=d.frames.length by omega])) (eI (by first | exact e9.symm | exact(Ze3 e8).symm | (rw[Zcd e9,f2_2,show k=d.frames.length by omega]))))
 try simp at hb3
 refine Zc (nx (YQ tb hJ [0,1,2,1001] [.int (k+1:Nat),_] [0] [_,_,_,_] rfl ⟨Yv,trivial⟩ ?_))
 exact Xi (k+1) [0,1,2,3] ⟨by omega,ZqX (by omega) f1_2 (by simpa using hb3)⟩
 try simp at hb2
 have e9:rdE d ns=0:=by rw[rdE,if_neg (by rw[e1];decide),ZqW f1_2 (by omega)];rfl
 refine Zx (nx (Zj (Zw (snK 1 tb rfl ?_))))
 refine sq (.agg [Zb d.consts,Zb d.vars,YD d.frames,.lit (Value.slice none 0 0)]) rfl rfl (lb rfl) (fun _ _ h=>Zpe (d:=d) Zoc rfl (h.get 0 rfl) h.x) ?_
 refine ZhD (cs:=[Zb d.consts,Zb d.vars,YD d.frames,.lit (Value.slice none 0 0)]) hJ rfl rfl rfl (lb rfl) (fun a w h=>(h.get 0 rfl)) fun b1=>?_
 refine snK 1 tb rfl ?_
 refine seK [0,4] [_,_] rfl ?_
 refine kw (Z7 33 1 hJ) ?_
 refine kw pm1 ?_
 refine kw pm1 ?_
 refine kw (B:=St All (SO S [OB.gr 33 b1 d ((Value.slice none 0 0),([]:List (List Int)))]) w0 87 [(9,.at b1 0),(2,.ptr (dbC d))] (XO J S w0.heap.size [OB.gr 33 b1 d ((Value.slice none 0 0),([]:List (List Int)))])) (fun h=>ZhB h) ?_
 refine nx (tsq ?_)
 refine ZeJ keyS (fun z':Int=>AV.int z') hJ rfl rfl rfl (lb rfl) fun m2=>?_
 refine snK 1 tb rfl ?_
 refine seK [0,2,3] [_,_,_] rfl ?_
 refine nx (Zj (ZI tb hJ [0,1,1001,1002,1003] [_,_,.int (d.frames.length:Nat),_] [2] [_,_,_,_,_] rfl ⟨YG YK,trivial⟩ ?_))
 refine ln 2 fun hl2=>?_
 refine Zf (lpo (ι:=Nat×(Value×List (List Int))×(List (ByteArray×Int))) (fun(k,q,at')=>(k≤d.frames.length)∧(q.2=usL d k)∧(AtI d k at')) (fun(_,q,at')=>[OB.mI m2 (at'),OB.gr 33 b1 d q]) (fun(k,_,_)=>[(46,.int (k:Nat))]) (fun(k,_,_)=>d.frames.length-k) [0,1,2,3,4] [_,_,_,_] (0,((Value.slice none 0 0),([]:List (List Int))),([]:List (ByteArray×Int))) ⟨Nat.zero_le _,rfl,ZqS d⟩ ?_)
 rintro⟨k,q,at'⟩ ⟨f2_1,f2_2,f2_3⟩
 refine qso tb hJ [0,1,2,3,4,1000] [_] [_,_,_,_,_,_] ?_
 refine cjS 5 (fun hb4=>?_) fun hb4=>?_
 try simp at hb4
 refine Zc (nx (Zj (Zf (tsq ?_))))
 refine snK 1 tb rfl ?_
 refine sq (.ptr (frC (ge d.frames k))) rfl rfl (lb rfl) (fun _ _ h=>Yg (i:=(k:Int)) Ye rfl (h.get 3 rfl) (h.get 5 rfl) (Int.natCast_nonneg _) (Yy (xs:=d.frames) (k:=k) sfz) rfl h.x) ?_
 refine snK 1 tb rfl ?_
 refine ZP XH hJ rfl rfl rfl (lb rfl) fun b3=>?_
 refine snK 1 tb rfl ?_
 refine ZE (b:=b3) (off:=0) (cs:=[.lit (.string (⟨#[]⟩:ByteArray)),.lit (.bool false),YW ([]:List Hy),Xm ([]:List Pr),Zb ([]:List ByteArray),YW ([]:List Hy),Xm ([]:List Pr),Zb ([]:List ByteArray)]) (es:=[.lit (.string ((ge d.frames k).label)),.lit (.bool ((ge d.frames k).thm)),YW ((ge d.frames k).hyps),Xm ((ge d.frames k).apart),Zb ((ge d.frames k).text),YW ((ge d.frames k).dummies),Xm ((ge d.frames k).wide),Zb ((ge d.frames k).proof)]) (news:=[.lit (.string ((ge d.frames k).label)),.lit (.bool ((ge d.frames k).thm)),YW ((ge d.frames k).hyps),Xm ((ge d.frames k).apart),Zb ((ge d.frames k).text),YW ((ge d.frames k).dummies),Xm ((ge d.frames k).wide),Zb ((ge d.frames k).proof)]) hJ hJ0 ZbY rfl rfl rfl (lb rfl) rfl (fun a w h=>⟨(h.get 1 rfl),(h.get 2 rfl)⟩) ?_
 refine kw (fun h=>Ym hS h (m:=1) (s:=12) rfl) ?_
 refine seK [0,1,5,6,7,8,9] [_,_,_,_,_,_,_] rfl ?_
 refine nx (tsq ?_)
 refine QC keyI hJ rfl rfl rfl (lb rfl) fun m4=>?_
 refine snK 1 tb rfl ?_
 refine seK [0,2,3,4,5,6,7,8] [_,_,_,_,_,_,_,_] rfl ?_
 refine nx (Zj (ZI tb hJ [0,1,2,3,4,5,6,7,1001,1002,1003,1004] [_,_,.rd (Zb (Zas ((ge d.frames k).proof))),.int ((Zas ((ge d.frames k).proof)).length:Nat),_] [2,3] [_,_,_,_,_,_,_,_,_,_,_,_] rfl ⟨iFo hS hJ (Zpn hJ (l:=((ge d.frames k).proof)) ) Zus,YG Zv,trivial⟩ ?_))
 refine ln 8 fun hl3=>?_
 refine ln 9 fun hl4=>?_
 refine Zf (lpo (ι:=Nat×(List Int)) (fun(n,xs)=>(n≤(Zas (ge d.frames k).proof).length)∧(Zq0 d k ((Zas (ge d.frames k).proof).take n) xs)) (fun(_,xs)=>[OB.set keyI m4 xs,OB.mI m2 (at'),OB.gr 33 b1 d q]) (fun(n,_)=>[(56,.int (n:Nat))]) (fun(n,_)=>(Zas (ge d.frames k).proof).length-n) [0,1,2,3,4,5,6,7,9,10,11] [_,_,_,_,_,_,_,_,_,_] (0,([]:List Int)) ⟨Nat.zero_le _,ZoT d k⟩ ?_)
 rintro⟨n,xs⟩ ⟨f3_1,f3_2⟩
 refine qso tb hJ [0,1,2,3,4,5,6,7,8,9,10,1000] [_] [_,_,_,_,_,_,_,_,_,_,_,_] ?_
 refine cjS 11 (fun hb5=>?_) fun hb5=>?_
 try simp at hb5
 refine Zc (nx (Zj (Zf (ZI tb hJ [0,1,2,3,4,5,6,7,8,9,10,1002] [.ptr [.lit (.string (ge (Zas ((ge d.frames k).proof)) n))],_,_] [0] [_,_,_,_,_,_,_,_,_,_,_,_] rfl ⟨iIx Zn,trivial⟩ ?_))))
 refine ZI tb hJ [0,1,2,3,4,5,6,7,8,9,10,1006,1007] [_,_,.tup [.int ((ZB (at') (ge (Zas ((ge d.frames k).proof)) n)).getD default),.bool ((ZB (at') (ge (Zas ((ge d.frames k).proof)) n)).isSome)],_,_,_,_,_] [2] [_,_,_,_,_,_,_,_,_,_,_,_,_] rfl ⟨fun _ _ _ hx hl _=>XE (Kd:=keyS) (f:=(fun z':Int=>AV.int z')) (L:=(at')) Zav Zdp (ge (Zas ((ge d.frames k).proof)) n) rfl (Zd hx (mo 1 rfl)) (hl.dep 0 61 _ rfl rfl rfl rfl) (hl.dep 1 62 _ rfl rfl rfl rfl) hx,trivial⟩ ?_
 refine qso tb hJ [0,1,2,3,4,5,6,7,8,9,10,11,1000] [_] [_,_,_,_,_,_,_,_,_,_,_,_,_] ?_
 refine cj 12 (fun hb6=>?_) fun hb6=>?_
 try simp at hb6
 refine Zw (snK 2 tb rfl ?_)
 refine Q0 Xs hJ hJ0 ((ZB (at') (ge (Zas ((ge d.frames k).proof)) n)).getD default) rfl rfl (.inl rfl) (fun a w h=>⟨(h.get 1 rfl),(h.get 0 rfl),(Rel.of_lit (Go.Value.bool true))⟩) ?_
 refine seK [2,3,4,5,6,7,8,9,10,11,12] [_,_,_,_,_,_,_,_,_,_,_] rfl ?_
 refine nx (YQ tb hJ [0,1,2,3,4,5,6,7,8,9,1001] [.int (n+1:Nat),_] [0] [_,_,_,_,_,_,_,_,_,_,_] rfl ⟨Yv,trivial⟩ ?_)
 exact Xi (n+1,XT xs ((ZB (at') (ge (Zas ((ge d.frames k).proof)) n)).getD default)) [0,1,2,3,4,5,6,7,8,9,10] ⟨by omega,by rw[ZO (by omega)];first | exact ZiV f2_3 f3_2 hb6 (fun p q' hp hq=>Zh5 e1 (by omega) (by omega)) | exact Zf6 f2_3 f3_2 (by simpa using hb6)⟩
 try simp at hb6
 refine Zc (nx (YQ tb hJ [0,1,2,3,4,5,6,7,8,9,1001] [.int (n+1:Nat),_] [0] [_,_,_,_,_,_,_,_,_,_,_] rfl ⟨Yv,trivial⟩ ?_))
 exact Xi (n+1,xs) [0,1,2,3,4,5,6,7,8,9,10] ⟨by omega,by rw[ZO (by omega)];first | exact ZiV f2_3 f3_2 hb6 (fun p q' hp hq=>Zh5 e1 (by omega) (by omega)) | exact Zf6 f2_3 f3_2 (by simpa using hb6)⟩
 try simp at hb5
 have e5:Zq0 d k (Zas (ge d.frames k).proof) xs:=by have:=f3_2;rwa [ZC (by omega)]at this
 refine Zx (nx (Zj (tw pm2 ?_)))
 refine tw (B:=St All (SO S [OB.row q.1 33 1 (q.2.map YE),OB.var b1 [Zb d.consts,Zb d.vars,YD d.frames,.lit q.1],OB.set keyI m4 xs,OB.mI m2 (at')]) w0 87 [(13,.lit (.map (some m4))),(12,.ptr (frC (ge d.frames k))),(11,.int (k:Nat)),(10,.lit (.map (some m2))),(9,.at b1 0),(44,.rd (YD d.frames)),(45,.int (d.frames.length:Nat)),(46,.int (k:Nat)),(54,.rd (Zb (Zas ((ge d.frames k).proof)))),(55,.int ((Zas ((ge d.frames k).proof)).length:Nat)),(56,.int (n:Nat)),(57,.bool (decide ((n:Int)< (((Zas ((ge d.frames k).proof)).length:Nat):Int))))] (XO J S w0.heap.size [OB.row q.1 33 1 (q.2.map YE),OB.var b1 [Zb d.consts,Zb d.vars,YD d.frames,.lit q.1],OB.set keyI m4 xs,OB.mI m2 (at')])) (fun h=>ZlJ h) ?_
 refine fun a w h=>YH [OB.var b1 [Zb d.consts,Zb d.vars,YD d.frames,.lit q.1],OB.set keyI m4 xs,OB.mI m2 (at')] (γ:=Value) (fun ix'=>([.at b1 0,.at b1 0,.at b1 0,.at b1 3,.lit q.1,.lit (.map (some m4)),.rd (Xj (Xv xs)),.rd (Z4 ([(Xv xs)])),.any,.at b1 0,.at b1 3,.any]:List AV).getD ix' .any) (fun ix'=>([true,true,true,true,true,true,true,true,true,true,true,true]:List Bool).getD ix' true) [(12,fun(g:Value)=>.ptr (frC (ge d.frames k))),(11,fun(g:Value)=>.int (k:Nat)),(10,fun(g:Value)=>.lit (.map (some m2))),(9,fun(g:Value)=>.at b1 0),(44,fun(g:Value)=>.rd (YD d.frames)),(45,fun(g:Value)=>.int (d.frames.length:Nat)),(46,fun(g:Value)=>.int (k:Nat))] (fun(j':Nat) (g:Value)=>match j' with | 0=>[OB.row q.1 33 1 (q.2.map YE),OB.var b1 [Zb d.consts,Zb d.vars,YD d.frames,.lit q.1],OB.set keyI m4 xs,OB.mI m2 (at')] | 1=>[OB.row g 33 1 ((q.2++([(Xv xs)])).map YE),OB.var b1 [Zb d.consts,Zb d.vars,YD d.frames,.lit q.1],OB.set keyI m4 xs,OB.mI m2 (at')] | _=>[OB.row g 33 1 ((q.2++([(Xv xs)])).map YE),OB.var b1 [Zb d.consts,Zb d.vars,YD d.frames,.lit g],OB.set keyI m4 xs,OB.mI m2 (at')]) (fun(k':Nat) (g:Value)=>match k' with | 0=>g | 1=>undef | _=>undef) [8,11] 1 (.slice none 0 0) (fun _=>rfl) h hJ Yh rfl rfl rfl rfl rfl rfl (fun j' g hj p hp=>by rcases j' with _ | _ | _ | j'<;>first | exact hp | exact List.mem_cons_of_mem _ hp | exact List.mem_cons_of_mem _ (List.mem_cons_of_mem _ hp) | (exfalso;omega)) ⟨?o23_1_0,⟨?o23_1_1,⟨?o23_1_2,⟨?o23_1_3,⟨?o23_1_4,⟨?o23_1_5,⟨?o23_1_6,⟨?o23_1_7,⟨?o23_1_8,⟨?o23_1_9,⟨?o23_1_10,⟨?o23_1_11,trivial⟩⟩⟩⟩⟩⟩⟩⟩⟩⟩⟩⟩ ⟨?e23_1_0,⟨?e23_1_1,trivial⟩⟩ ⟨.old 1 12 _ rfl rfl,⟨.old 2 11 _ rfl rfl,⟨.old 3 10 _ rfl rfl,⟨.old 4 9 _ rfl rfl,⟨.old 5 44 _ rfl rfl,⟨.old 6 45 _ rfl rfl,⟨.old 7 46 _ rfl rfl,trivial⟩⟩⟩⟩⟩⟩⟩ ?n23_1
 case o23_1_0=>exact fun _ O' _=>⟨rfl,fun _ _ _ hx hl _=>Yk rfl (hl.env 4 9 _ rfl rfl) hx⟩
 case o23_1_1=>exact fun _ O' _=>⟨rfl,fun _ _ _ hx hl _=>Yk rfl (hl.env 4 9 _ rfl rfl) hx⟩
 case o23_1_2=>exact fun _ O' _=>⟨rfl,fun _ _ _ hx hl _=>Zk rfl (hl.dep 1 71 _ rfl rfl rfl rfl) hx⟩
 case o23_1_3=>exact fun _ O' _=>⟨rfl,fun _ _ _ hx hl _=>Zm Zbk rfl (hl.dep 2 72 _ rfl rfl rfl rfl) hx⟩
 case o23_1_4=>exact fun _ O' hO'=>⟨rfl,fun _ _ _ hx hl _=>Zo (cs:=[Zb d.consts,Zb d.vars,YD d.frames,.lit q.1]) ZmP rfl (Zd hx (hO' _ (mo 0 rfl))) (hl.dep 3 73 _ rfl rfl rfl rfl) rfl hx⟩
 case o23_1_5=>exact fun _ O' _=>⟨rfl,fun _ _ _ hx hl _=>Yk rfl (hl.env 0 13 _ rfl rfl) hx⟩
 case o23_1_6=>exact fun _ O' hO'=>⟨rfl,fun _ _ hk hx hl _=>Y9 (Zi9 hJ (M:=m4) (xs:=xs) (fun x hx=>by have:=(ZiU e5).1 x hx;omega) (by have:=(ZiU e5).2;omega)) Zik rfl (Zr hS _ hk hx) (hx.1) (ZG (Zd hx (hO' _ (mo 1 rfl))) Zq) (Za (hl.dep 5 75 _ rfl rfl rfl rfl) Ze) (jo hJ hx)⟩
 case o23_1_7=>exact fun _ O' _=>⟨rfl,fun _ _ hk hx hl _=>Yx Za4 Zr0 rfl (hl.dep 6 76 _ rfl rfl rfl rfl) (Zr hS _ hk hx _ (Nat.le_refl _)) (jo hJ hx)⟩
 case o23_1_8=>exact Zi rfl
 case o23_1_9=>exact fun _ O' _=>⟨rfl,fun _ _ _ hx hl _=>Zk rfl (hl.dep 0 70 _ rfl rfl rfl rfl) hx⟩
 case o23_1_10=>exact fun _ O' _=>⟨rfl,fun _ _ _ hx hl _=>Zm Zbk rfl (hl.dep 9 79 _ rfl rfl rfl rfl) hx⟩
 case o23_1_11=>exact Zi rfl
 case e23_1_0=>exact⟨_,rfl,rfl,rfl,rfl,fun _ _ w hk hx hl _=>Zp (YS (f:=YE) q.2 ([(Xv xs)]) (fun _=>rfl) Zhl hJ hJ0 rfl hk hx (hl.dep 4 74 _ rfl rfl rfl rfl).lit (hl.dep 7 77 _ rfl rfl rfl rfl) (by rw[f2_2,ZaO];simp;omega) (by rw[f2_2,ZaO];simp;omega)) fun v w' hp=>⟨v,rfl,fun k' hk'=>absurd hk' (Nat.not_lt_zero _),fun _=>rfl,hp⟩⟩
 case e23_1_1=>exact⟨_,rfl,rfl,rfl,rfl,fun g _ w hk hx hl hs=>Zp (X2 (off:=3) (cs:=[Zb d.consts,Zb d.vars,YD d.frames,.lit q.1]) (es:=[Zb d.consts,Zb d.vars,YD d.frames,.lit g]) (c:=.lit g) hJ hJ0 ZlS rfl hk hx (hl.dep 10 80 _ rfl rfl rfl rfl) (by rw[(hs 0 8 _ 78 (by omega) rfl rfl rfl)];exact Rel.of_lit _ (Xh (hx.2.1 _ (mo 0 rfl)))) (lb rfl) rfl) fun v w' hp=>⟨g,rfl,fun _ _=>rfl,fun e=>(by cases e),hp⟩⟩
 clear a w h
 intro v5
 change ∀ a w,St All (SO S [OB.row v5 33 1 ((q.2++([(Xv xs)])).map YE),OB.var b1 [Zb d.consts,Zb d.vars,YD d.frames,.lit v5],OB.set keyI m4 xs,OB.mI m2 (at')]) w0 87 [(12,.ptr (frC (ge d.frames k))),(11,.int (k:Nat)),(10,.lit (.map (some m2))),(9,.at b1 0),(44,.rd (YD d.frames)),(45,.int (d.frames.length:Nat)),(46,.int (k:Nat))] (XO J S w0.heap.size [OB.row v5 33 1 ((q.2++([(Xv xs)])).map YE),OB.var b1 [Zb d.consts,Zb d.vars,YD d.frames,.lit v5],OB.set keyI m4 xs,OB.mI m2 (at')]) a w→_
 refine kw pm1 ?_
 refine kw pm1 ?_
 refine kw (B:=St All (SO S [OB.gr 33 b1 d (v5,q.2++([(Xv xs)])),OB.set keyI m4 xs,OB.mI m2 (at')]) w0 87 [(12,.ptr (frC (ge d.frames k))),(11,.int (k:Nat)),(10,.lit (.map (some m2))),(9,.at b1 0),(44,.rd (YD d.frames)),(45,.int (d.frames.length:Nat)),(46,.int (k:Nat))] (XO J S w0.heap.size [OB.gr 33 b1 d (v5,q.2++([(Xv xs)])),OB.set keyI m4 xs,OB.mI m2 (at')])) (fun h=>ZhB h) ?_
 refine nx (Zw (snK 4 tb rfl ?_))
 refine kw pm2 ?_
 refine ZiO (f:=(fun z':Int=>AV.int z')) Zav hJ hJ0 ((ge d.frames k).label) (k:Int) rfl rfl (.inl rfl) (fun a w h=>⟨(h.get 3 rfl),(h.get 1 rfl),(h.get 0 rfl)⟩) ?_
 refine seK [6,7,8,9,10] [_,_,_,_,_] rfl ?_
 refine nx (YQ tb hJ [0,1,2,3,1001] [.int (k+1:Nat),_] [0] [_,_,_,_,_] rfl ⟨Yv,trivial⟩ ?_)
 refine kw pm2 ?_
 refine kw Zy ?_
 exact Xi (k+1,(v5,q.2++([(Xv xs)])),QT (at') ((ge d.frames k).label) (k:Int)) [0,1,2,3,4] ⟨by omega,by rw[ZoG,←f2_2,←ZoD e1 (by omega) e5],ZqT e1 (by omega) f2_3⟩
 try simp at hb4
 refine Zx (nx (tw pm1 ?_))
 refine tw (fun h=>ZeI hS h (m:=1) (s:=9) rfl) ?_
 refine qso tb hJ [1001,1002] [_,_,_] [_,_] ?_
 exact Zg (fun a w h=>X1 (m:=0) (k:=1) rfl (YM h) rfl rfl (show .ptr [Zb d.consts,Zb d.vars,YD d.frames,Z4 q.2]=gAV (rdE d ns) [Zb d.consts,Zb d.vars,YD d.frames,Z4 (usL d d.frames.length)]from by first | exact e9.symm | exact(Ze3 e8).symm | (rw[Zcd e9,f2_2,show k=d.frames.length by omega])) (eI (by first | exact e9.symm | exact(Ze3 e8).symm | (rw[Zcd e9,f2_2,show k=d.frames.length by omega]))))
end Go.Proofs.YtapelgeodldlcaaGreatDoor
namespace Go.Proofs.YtapelgeodldlcaaGreatDoor
inductive Rch (us:List (List Int)):Int→Int→Prop where
 | refl (i:Int):Rch us i i
 | step (i x y:Int) (h:x∈ge us i.toNat) (k:Rch us x y):Rch us i y
theorem Rch.trans {us:List (List Int)} {a b c:Int} (h:Rch us a b) (k:Rch us b c):Rch us a c:=by
 induction h with
 | refl=>exact k
 | step i x y hx _ ih=>exact .step i x _ hx (ih k)
theorem Rch.one {us:List (List Int)} {a b:Int} (h:b∈ge us a.toNat):Rch us a b:=.step a b b h (.refl b)
def Zel (us:List (List Int)):Prop:=∀ i,∀ x∈ge us i,0≤x∧x< (i:Int)
theorem Rch.le {us:List (List Int)} (hd:Zel us) {a b:Int} (h:Rch us a b) (ha:0≤a):0≤b∧b≤a:=by
 induction h with
 | refl=>exact⟨ha,Int.le_refl _⟩
 | step i x y hx _ ih=>
  have:=hd _ x hx
  have:=ih this.1
  omega
structure VIS (us:List (List Int)) (n:Nat) (xs ys:List Int):Prop where
 sub:∀ x∈xs,x∈ys
 self:(n:Int)∈ys
 nod:xs.Nodup→ys.Nodup
 new:∀ y∈ys,y∈xs∨(Rch us n y∧∀ z∈ge us y.toNat,z∈ys)
structure VIK (us:List (List Int)) (n:Nat) (xs:List Int) (k:Nat) (ys:List Int):Prop where
 sub:∀ x∈xs,x∈ys
 self:(n:Int)∈ys
 nod:xs.Nodup→ys.Nodup
 done:∀ j,j<k→ge (ge us n) j∈ys
 new:∀ y∈ys,y∈xs∨y=(n:Int)∨(Rch us n y∧∀ z∈ge us y.toNat,z∈ys)
theorem VIS.old {us:List (List Int)} {n:Nat} {xs:List Int} (h:(n:Int)∈xs):VIS us n xs xs:=⟨fun _ h=>h,h,fun h=>h,fun _ h=>.inl h⟩
theorem VIK.start (us:List (List Int)) (n:Nat) (xs:List Int):VIK us n xs 0 (XT xs (n:Int)):=
 ⟨fun _ hx=>mem_addS.2 (.inl hx),mem_addS.2 (.inr rfl),ZeY,fun _ hj=>absurd hj (Nat.not_lt_zero _),fun _ hy=>(mem_addS.1 hy).imp id .inl⟩
theorem VIK.next {us:List (List Int)} {n:Nat} {xs ys zs:List Int} {k m:Nat} (h:VIK us n xs k ys) (hk:k< (ge us n).length) (hm:(m:Int)=ge (ge us n) k) (hz:VIS us m ys zs):VIK us n xs (k+1) zs where
 sub:=fun x hx=>hz.sub x (h.sub x hx)
 self:=hz.sub _ h.self
 nod:=fun hn=>hz.nod (h.nod hn)
 done:=fun j hj=>by
  by_cases e:j=k
  · rw[e,←hm];exact hz.self
  · exact hz.sub _ (h.done j (by omega))
 new:=fun y hy=>by
  rcases hz.new y hy with h1 | ⟨h1,h2⟩
  · rcases h.new y h1 with h3 | h3 | ⟨h3,h4⟩
    · exact .inl h3
    · exact .inr (.inl h3)
    · exact .inr (.inr ⟨h3,fun z hzz=>hz.sub z (h4 z hzz)⟩)
  · refine .inr (.inr ⟨.step _ _ _ ?_ h1,h2⟩)
    rw[hm]
    exact ZF hk
theorem VIK.fin {us:List (List Int)} {n:Nat} {xs ys:List Int} {k:Nat} (h:VIK us n xs k ys) (hk:(ge us n).length≤k):VIS us n xs ys where
 sub:=h.sub
 self:=h.self
 nod:=h.nod
 new:=fun y hy=>by
  rcases h.new y hy with h3 | h3 | h3
  · exact .inl h3
  · subst h3
    refine .inr ⟨.refl _,fun z hz=>?_⟩
    rw[Int.toNat_natCast]at hz
    obtain⟨j,hj,rfl⟩:=XQ hz
    exact h.done j (by omega)
  · exact .inr h3
structure ZcF (us:List (List Int)) (n:Nat) (ys:List Int):Prop where
 nod:ys.Nodup
 iff:∀ y,y∈ys↔Rch us n y
theorem VIS.reach {us:List (List Int)} {n:Nat} {ys:List Int} (h:VIS us n [] ys):ZcF us n ys:=by
 have hn:∀ y∈ys,Rch us n y∧∀ z∈ge us y.toNat,z∈ys:=fun y hy=>(h.new y hy).resolve_left (by simp)
 refine⟨h.nod .nil,fun y=>⟨fun hy=>(hn y hy).1,fun hy=>?_⟩⟩
 have key:∀ a b,Rch us a b→a∈ys→b∈ys:=by
  intro a b hab
  induction hab with
  | refl=>exact id
  | step i x y hx _ ih=>exact fun hi=>ih ((hn i hi).2 x hx)
 exact key _ _ hy h.self
theorem YV (d:Db) (n:Nat):Zel (usL d n):=fun i x hx=>by
 rcases Nat.lt_or_ge i n with h | h
 · rw[Zq3 h,Zhu]at hx
   split at hx
   · exact ZoE hx
   · simp at hx
 · rw[ge,List.getD_eq_getElem?_getD,List.getElem?_eq_none (by rw[ZaO];exact h)]at hx
   simp[default]at hx
end Go.Proofs.YtapelgeodldlcaaGreatDoor
set_option maxHeartbeats 8000000
set_option maxRecDepth 100000
namespace Go.Proofs.YtapelgeodldlcaaGreatDoor
open Go.RowKit
theorem ZmA {J:World→Prop} (hJ:Stab J) (M:Nat) (bs:Nat) (bg:Nat) (bv:Nat) (d:Db) (us:List (List Int)) (n:Nat) (xs:List Int) (hd:Zel us) (hn:n<us.length) (ih:∀(m':Nat) (xs':List Int),m'<n→FnM (ι:= { q':List Int // VIS us m' xs' q' }) Tryz.prog J 34 [] [.int (m':Nat),.at bs 0,.at bg 0,.at bv 0] [OB.set keyI M (xs'),OB.var bs [.lit (.map (some M))],OB.var bg [.ptr [Zb d.consts,Zb d.vars,YD d.frames,Z4 us]],OB.var bv [.lit (.func (.func 34) #[] #[.pointer (some ⟨bs,0,none⟩),.pointer (some ⟨bg,0,none⟩),.pointer (some ⟨bv,0,none⟩)])]] (fun _=>.tup []) (fun i'=>[OB.set keyI M (i'.1),OB.var bs [.lit (.map (some M))],OB.var bg [.ptr [Zb d.consts,Zb d.vars,YD d.frames,Z4 us]],OB.var bv [.lit (.func (.func 34) #[] #[.pointer (some ⟨bs,0,none⟩),.pointer (some ⟨bg,0,none⟩),.pointer (some ⟨bv,0,none⟩)])]])):FnM (ι:= { q':List Int // VIS us n xs q' }) Tryz.prog J 34 [] [.int (n:Nat),.at bs 0,.at bg 0,.at bv 0] [OB.set keyI M xs,OB.var bs [.lit (.map (some M))],OB.var bg [.ptr [Zb d.consts,Zb d.vars,YD d.frames,Z4 us]],OB.var bv [.lit (.func (.func 34) #[] #[.pointer (some ⟨bs,0,none⟩),.pointer (some ⟨bg,0,none⟩),.pointer (some ⟨bv,0,none⟩)])]] (fun _=>.tup []) (fun i'=>[OB.set keyI M (i'.1),OB.var bs [.lit (.map (some M))],OB.var bg [.ptr [Zb d.consts,Zb d.vars,YD d.frames,Z4 us]],OB.var bv [.lit (.func (.func 34) #[] #[.pointer (some ⟨bs,0,none⟩),.pointer (some ⟨bg,0,none⟩),.pointer (some ⟨bv,0,none⟩)])]]):=by
 refine ZX (N:=28) Tryz.func34 rfl rfl (lb rfl) fun S w0 R hS hJ0 hH=>?_
 refine Z6 (B:=St All (SO S (OB.set keyI M xs::OB.var bs [.lit (.map (some M))]::OB.var bg [.ptr [Zb d.consts,Zb d.vars,YD d.frames,Z4 us]]::OB.var bv [.lit (.func (.func 34) #[] #[.pointer (some ⟨bs,0,none⟩),.pointer (some ⟨bg,0,none⟩),.pointer (some ⟨bv,0,none⟩)])]::R)) w0 28 [(0,.int (n:Nat)),(1,.at bs 0),(2,.at bg 0),(3,.at bv 0)] (XO J S w0.heap.size (OB.set keyI M xs::OB.var bs [.lit (.map (some M))]::OB.var bg [.ptr [Zb d.consts,Zb d.vars,YD d.frames,Z4 us]]::OB.var bv [.lit (.func (.func 34) #[] #[.pointer (some ⟨bs,0,none⟩),.pointer (some ⟨bg,0,none⟩),.pointer (some ⟨bv,0,none⟩)])]::R))) ?_ fun a w h=>h
 refine Zj (ZI tb hJ [0,1,2,3,1002] [.lit (.map (some M)),_,.bool (decide ((n:Int)∈xs))] [0,2] [_,_,_,_,_] rfl ⟨fun _ _ _ hx hl _=>Zo (cs:=[.lit (.map (some M))]) ZmR rfl (Zd hx (mo 1 rfl)) (hl.env 1 1 _ rfl rfl) rfl hx,fun _ _ _ hx hl _=>Z8 (Kd:=keyI) (xs:=xs) Xs ZM (n:Int) rfl (Zd hx (mo 0 rfl)) (hl.dep 0 7 _ rfl rfl rfl rfl) (hl.dep 1 8 _ rfl rfl rfl rfl) hx,trivial⟩ ?_)
 refine cj 4 (fun hb1=>?_) fun hb1=>?_
 try simp at hb1
 exact Zg (fun a w h=>Xt  ⟨(xs),by first | exact VIS.old hb1 | exact f1_2.fin (by omega)⟩ rfl h rfl)
 try simp at hb1
 refine Zc (nx (tsq ?_))
 refine sq (.lit (.map (some M))) rfl rfl (lb rfl) (fun _ _ h=>Zo (cs:=[.lit (.map (some M))]) ZmR rfl (Zd h.x (mo 1 rfl)) (h.get 1 rfl) rfl h.x) ?_
 refine snK 1 tb rfl ?_
 refine Q0 Xs hJ hJ0 (n:Int) rfl rfl (.inl rfl) (fun a w h=>⟨(h.get 1 rfl),(h.get 0 rfl),(Rel.of_lit (Go.Value.bool true))⟩) ?_
 refine seK [2,4,5] [_,_,_] rfl ?_
 refine nx (ZI tb hJ [2,1003,1006,1007,1008] [.ptr [Zb d.consts,Zb d.vars,YD d.frames,Z4 us],_,_,_,_,.ptr [Xj (ge us n)],_,.int ((ge us n).length:Nat),_] [0,5,7] [_,_,_,_,_] rfl ⟨fun _ _ _ hx hl _=>Zma (cs:=[.ptr [Zb d.consts,Zb d.vars,YD d.frames,Z4 us]]) one_49 rfl (Zd hx (mo 2 rfl)) (hl.env 1 2 _ rfl rfl) rfl hx,iIx Za4,YG Qh,trivial⟩ ?_)
 refine ln 1 fun hl1=>?_
 refine ln 2 fun hl2=>?_
 refine Zf (lpo (ι:=Nat×(List Int)) (fun(k,ys)=>(k≤(ge us n).length)∧(VIK us n xs k ys)) (fun(_,ys)=>(OB.set keyI M ys::OB.var bs [.lit (.map (some M))]::OB.var bg [.ptr [Zb d.consts,Zb d.vars,YD d.frames,Z4 us]]::OB.var bv [.lit (.func (.func 34) #[] #[.pointer (some ⟨bs,0,none⟩),.pointer (some ⟨bg,0,none⟩),.pointer (some ⟨bv,0,none⟩)])]::R)) (fun(k,_)=>[(20,.int (k:Nat))]) (fun(k,_)=>(ge us n).length-k) [0,2,3,4] [_,_,_] (0,XT xs (n:Int)) ⟨Nat.zero_le _,VIK.start us n xs⟩ ?_)
 rintro⟨k,ys⟩ ⟨f1_1,f1_2⟩
 refine qso tb hJ [0,1,2,3,1000] [_] [_,_,_,_,_] ?_
 refine cjS 4 (fun hb2=>?_) fun hb2=>?_
 try simp at hb2
 refine Zc (nx (Zj (Zf (ZI tb hJ [0,1,2,3,1002] [.ptr [.lit (.int .i64 (ge (ge us n) k))],_,_] [0] [_,_,_,_,_] rfl ⟨iIx Yc,trivial⟩ ?_))))
 refine tw (sa 4 rfl (congrArg AV.int (show(ge (ge us n) k)=(((ge (ge us n) k).toNat:Nat):Int)from by have:=hd n _ (ZF (xs:=ge us n) (k:=k) (by omega));omega))) ?_
 refine Zw (sq (.lit (.func (.func 34) #[] #[.pointer (some ⟨bs,0,none⟩),.pointer (some ⟨bg,0,none⟩),.pointer (some ⟨bv,0,none⟩)])) rfl rfl (lb rfl) (fun _ _ h=>Zo (cs:=[.lit (.func (.func 34) #[] #[.pointer (some ⟨bs,0,none⟩),.pointer (some ⟨bg,0,none⟩),.pointer (some ⟨bv,0,none⟩)])]) Zru rfl (Zd h.x (mo 3 rfl)) (h.get 0 rfl) rfl h.x) ?_)
 refine snK 1 tb rfl ?_
 refine Zrc (O:=[OB.set keyI M ys,OB.var bs [.lit (.map (some M))],OB.var bg [.ptr [Zb d.consts,Zb d.vars,YD d.frames,Z4 us]],OB.var bv [.lit (.func (.func 34) #[] #[.pointer (some ⟨bs,0,none⟩),.pointer (some ⟨bg,0,none⟩),.pointer (some ⟨bv,0,none⟩)])]]) (R:=(R)) [.int ((ge (ge us n) k).toNat:Nat)] [.pointer (some ⟨bs,0,none⟩),.pointer (some ⟨bg,0,none⟩),.pointer (some ⟨bv,0,none⟩)] [.at bs 0,.at bg 0,.at bv 0] (ih  (m':=((ge (ge us n) k).toNat)) (xs':=ys) (by have:=hd n _ (ZF (xs:=ge us n) (k:=k) (by omega));omega)) Zn5 rfl rfl rfl (lb rfl) hS hJ0 Zq (fun a w h=>(h.get 1 rfl).lit) (fun a w h=>(Za (h.get 0 rfl) Ze)) (fun w=>(Za (Rel.of_lit (.pointer (some ⟨bs,0,none⟩))) (Za (Rel.of_lit (.pointer (some ⟨bg,0,none⟩))) (Za (Rel.of_lit (.pointer (some ⟨bv,0,none⟩))) Ze)))) fun z1=>?_
 refine seK [3,4,5,6] [_,_,_,_] rfl ?_
 refine nx (YQ tb hJ [0,1,2,1001] [.int (k+1:Nat),_] [0] [_,_,_,_] rfl ⟨Yv,trivial⟩ ?_)
 exact Xi (k+1,z1.1) [0,1,2,3] ⟨by omega,f1_2.next (by omega) (by have:=hd n _ (ZF (xs:=ge us n) (k:=k) (by omega));omega) z1.2⟩
 try simp at hb2
 exact Zx (fun a w h=>Xt  ⟨(ys),by first | exact VIS.old hb1 | exact f1_2.fin (by omega)⟩ rfl h rfl)
theorem Zpm {J:World→Prop} (hJ:Stab J) (M bs bg bv:Nat) (d:Db) (us:List (List Int)) (hd:Zel us):∀(n:Nat) (xs:List Int),n<us.length→FnM (ι:= { q':List Int // VIS us n xs q' }) Tryz.prog J 34 [] [.int (n:Nat),.at bs 0,.at bg 0,.at bv 0] [OB.set keyI M xs,OB.var bs [.lit (.map (some M))],OB.var bg [.ptr [Zb d.consts,Zb d.vars,YD d.frames,Z4 us]],OB.var bv [.lit (.func (.func 34) #[] #[.pointer (some ⟨bs,0,none⟩),.pointer (some ⟨bg,0,none⟩),.pointer (some ⟨bv,0,none⟩)])]] (fun _=>.tup []) (fun i'=>[OB.set keyI M (i'.1),OB.var bs [.lit (.map (some M))],OB.var bg [.ptr [Zb d.consts,Zb d.vars,YD d.frames,Z4 us]],OB.var bv [.lit (.func (.func 34) #[] #[.pointer (some ⟨bs,0,none⟩),.pointer (some ⟨bg,0,none⟩),.pointer (some ⟨bv,0,none⟩)])]]):=by
 intro n
 induction n using Nat.strongRecOn with
 | ind n ih=>
  intro xs hn
  exact ZmA hJ M bs bg bv d us n xs hd hn fun m' xs' hlt=>ih m' hlt xs' (by omega)
theorem ZdJ {J:World→Prop} (hJ:Stab J) (d:Db) (us:List (List Int)) (n:Nat) (hd:Zel us) (hn:n<us.length):FnM (ι:= { q':Nat×List Int // ZcF us n q'.2 }) Tryz.prog J 19 [] [.ptr [Zb d.consts,Zb d.vars,YD d.frames,Z4 us],.int (n:Nat)] [] (fun i'=>.lit (.map (some (i'.1.1)))) (fun i'=>[OB.set keyI (i'.1.1) (i'.1.2)]):=by
 refine ZX (N:=13) Tryz.func19 rfl rfl (lb rfl) fun S w0 R hS hJ0 hH=>?_
 refine Z6 (B:=St All (SO S (R)) w0 13 [(0,.ptr [Zb d.consts,Zb d.vars,YD d.frames,Z4 us]),(1,.int (n:Nat))] (XO J S w0.heap.size (R))) ?_ fun a w h=>h
 refine tsq ?_
 refine ZhE (c:=.ptr [Zb d.consts,Zb d.vars,YD d.frames,Z4 us]) hJ rfl rfl rfl (lb rfl) (fun a w h=>(ptr_rd.2 (h.get 0 rfl))) fun b1=>?_
 refine sq (.rd (.lit (Go.Value.map none))) rfl rfl (lb rfl) (fun _ _ h=>XI rfl (Rel.of_lit (Go.Value.map none)) h.x) ?_
 refine seK [1,3] [_,_] rfl ?_
 refine nx (tsq ?_)
 refine QC keyI hJ rfl rfl rfl (lb rfl) fun m2=>?_
 refine ZP Zlu hJ rfl rfl rfl (lb rfl) fun b3=>?_
 refine ZJ (b:=b3) (off:=0) (cs:=[.lit (.map none)]) (es:=[.lit (.map (some m2))]) hJ hJ0 ZlT rfl rfl rfl (lb rfl) rfl (fun a w h=>⟨(h.get 0 rfl),(h.get 1 rfl)⟩) ?_
 refine seK [0,2,3] [_,_,_] rfl ?_
 refine nx (tsq ?_)
 refine ZP Zlt hJ rfl rfl rfl (lb rfl) fun b4=>?_
 refine seK [0,1,2,3] [_,_,_,_] rfl ?_
 refine nx (tsq ?_)
 refine sq (.lit (.func (.func 34) #[] #[.pointer (some ⟨b3,0,none⟩),.pointer (some ⟨b1,0,none⟩),.pointer (some ⟨b4,0,none⟩)])) rfl rfl (lb rfl) (fun _ _ h=>ZdI (caps:=[(Go.Operand.tmp 5),(Go.Operand.tmp 2),(Go.Operand.tmp 6)]) rfl (map_cons (h.get 1 rfl).lit (map_cons (h.get 2 rfl).lit (map_cons (h.get 0 rfl).lit map_nil))) h.x) ?_
 refine ZJ (b:=b4) (off:=0) (cs:=[.lit .nilFunc]) (es:=[.lit (.func (.func 34) #[] #[.pointer (some ⟨b3,0,none⟩),.pointer (some ⟨b1,0,none⟩),.pointer (some ⟨b4,0,none⟩)])]) hJ hJ0 ZlR rfl rfl rfl (lb rfl) rfl (fun a w h=>⟨(h.get 1 rfl),(h.get 0 rfl)⟩) ?_
 refine seK [1,2,4] [_,_,_] rfl ?_
 refine nx (tsq ?_)
 refine sq (.lit (.func (.func 34) #[] #[.pointer (some ⟨b3,0,none⟩),.pointer (some ⟨b1,0,none⟩),.pointer (some ⟨b4,0,none⟩)])) rfl rfl (lb rfl) (fun _ _ h=>Zo (cs:=[.lit (.func (.func 34) #[] #[.pointer (some ⟨b3,0,none⟩),.pointer (some ⟨b1,0,none⟩),.pointer (some ⟨b4,0,none⟩)])]) Zru rfl (Zd h.x (mo 0 rfl)) (h.get 0 rfl) rfl h.x) ?_
 refine snK 1 tb rfl ?_
 refine kw pm3 ?_
 refine kw pm2 ?_
 refine kw pm3 ?_
 refine Zrc (O:=[OB.set keyI m2 ([]:List Int),OB.var b3 [.lit (.map (some m2))],OB.var b1 [.ptr [Zb d.consts,Zb d.vars,YD d.frames,Z4 us]],OB.var b4 [.lit (.func (.func 34) #[] #[.pointer (some ⟨b3,0,none⟩),.pointer (some ⟨b1,0,none⟩),.pointer (some ⟨b4,0,none⟩)])]]) (R:=(R)) [.int (n:Nat)] [.pointer (some ⟨b3,0,none⟩),.pointer (some ⟨b1,0,none⟩),.pointer (some ⟨b4,0,none⟩)] [.at b3 0,.at b1 0,.at b4 0] (Zpm hJ (M:=m2) (bs:=b3) (bg:=b1) (bv:=b4) (d:=d) (us:=us) (n:=n) (xs:=([]:List Int)) (hd) (hn)) Zn5 rfl rfl rfl (lb rfl) hS hJ0 Zq (fun a w h=>(h.get 1 rfl).lit) (fun a w h=>(Za (h.get 0 rfl) Ze)) (fun w=>(Za (Rel.of_lit (.pointer (some ⟨b3,0,none⟩))) (Za (Rel.of_lit (.pointer (some ⟨b1,0,none⟩))) (Za (Rel.of_lit (.pointer (some ⟨b4,0,none⟩))) Ze)))) fun z5=>?_
 refine seK [4] [_] rfl ?_
 refine nx (ZI tb hJ [1001] [.lit (.map (some m2)),_] [0] [_] rfl ⟨fun _ _ _ hx hl _=>Zo (cs:=[.lit (.map (some m2))]) ZmR rfl (Zd hx (mo 1 rfl)) (hl.env 0 5 _ rfl rfl) rfl hx,trivial⟩ ?_)
 refine tw pm1 ?_
 refine tw Zy ?_
 refine tw pm1 ?_
 refine tw Zy ?_
 refine tw pm1 ?_
 refine tw Zy ?_
 exact Zg (fun a w h=>ZQ  (m:=0) ⟨(m2,z5.1),z5.2.reach⟩ rfl h rfl rfl)
end Go.Proofs.YtapelgeodldlcaaGreatDoor
namespace Go.Proofs.YtapelgeodldlcaaGreatDoor
def isN (n:Int) (x:Int):Bool:=decide (n=x)
theorem ZuL (n:Int) (xs:List Int):xs.any (isN n)=decide (n∈xs):=by
 rw[Bool.eq_iff_iff,List.any_eq_true,decide_eq_true_eq]
 exact⟨fun⟨x,hx,h⟩=>by rw[of_decide_eq_true h];exact hx,fun h=>⟨n,h,decide_eq_true rfl⟩⟩
open Classical in
noncomputable def ZhV (us:List (List Int)) (n:Nat):List Int:=((List.range n).filter fun(p:Nat)=>decide (Rch us n (p:Int))).map fun(p:Nat)=>(p:Int)
open Classical in
theorem nedL_mem {us:List (List Int)} {n:Nat} {x:Int}:x∈ZhV us n↔0≤x∧x<n∧Rch us n x:=by
 unfold ZhV
 rw[List.mem_map]
 constructor
 · rintro⟨p,hp,rfl⟩
   rw[List.mem_filter,List.mem_range,decide_eq_true_eq]at hp
   exact⟨by omega,by omega,hp.2⟩
 · rintro⟨h1,h2,h3⟩
   refine⟨x.toNat,?_,by omega⟩
   rw[List.mem_filter,List.mem_range,decide_eq_true_eq,show((x.toNat:Nat):Int)=x by omega]
   exact⟨by omega,h3⟩
open Classical in
theorem Zjh (us:List (List Int)) (n:Nat):(ZhV us n).Pairwise (· < ·):=by
 unfold ZhV
 rw[List.pairwise_map]
 refine List.Pairwise.imp (R:=(· < ·)) (fun {a b} h=>by omega) ?_
 exact List.pairwise_lt_range.filter _
open Classical in
theorem ZpL (us:List (List Int)) (n:Nat):(ZhV us n).length≤n:=by
 rw[ZhV,List.length_map]
 exact Nat.le_trans (List.length_filter_le _ _) (by simp)
theorem Zfm {us:List (List Int)} {n:Nat} {ys:List Int} (h:ZcF us n ys) (hd:Zel us):∀ x∈ys,0≤x∧x≤n:=fun x hx=>((h.iff x).1 hx).le hd (by omega)
theorem Zgh {us:List (List Int)} {n:Nat} {ys:List Int} (h:ZcF us n ys) (hd:Zel us):ys.length≤n+1:=by
 have:=Zb8 h.nod (ys:=(List.range (n+1)).map fun(p:Nat)=>(p:Int)) fun x hx=>by
  have:=Zfm h hd x hx
  rw[List.mem_map]
  exact⟨x.toNat,by rw[List.mem_range];omega,by omega⟩
 simpa using this
theorem Zgg {us:List (List Int)} {n:Nat} {ys:List Int} (h:ZcF us n ys) (hd:Zel us):Xv (ys.erase (n:Int))=ZhV us n:=by
 refine Zfg (h.nod.erase _) (Zjh us n) fun x=>?_
 rw[h.nod.mem_erase_iff,h.iff,nedL_mem]
 constructor
 · rintro⟨h1,h2⟩
   have:=h2.le hd (by omega)
   exact⟨this.1,by omega,h2⟩
 · rintro⟨h1,h2,h3⟩
   exact⟨by omega,h3⟩
end Go.Proofs.YtapelgeodldlcaaGreatDoor
set_option maxHeartbeats 8000000
set_option maxRecDepth 100000
namespace Go.Proofs.YtapelgeodldlcaaGreatDoor
open Go.RowKit
theorem Zpz {J:World→Prop} (hJ:Stab J) (xs:List Int) (n:Int)  :Fn Tryz.prog J 23 [.rd (Xj xs),.int n] (.int (Yz (isN n) xs)):=by
 refine Zu (N:=19) Tryz.func23 rfl rfl (lb rfl) fun S w0 hS hJ0=>?_
 clear hJ0
 refine ln 0 fun hl1=>?_
 refine qs tb hJ [0,1] [_] [_,_] ?_
 refine Zj (hqs tb hJ [0,1,1001,1002] [_,.int (xs.length:Nat),_] [1] [_,_,_,_] rfl ⟨YG Qh,trivial⟩ ?_)
 refine Zf (lp (ι:=Nat) (fun k=>(k≤xs.length)∧(∀ j,j<k→isN n (ge xs j)=false)) (fun k=>[(8,.int (k:Nat))]) (fun k=>xs.length-k) [0,1,2,3] [_,_,_] 0 ⟨Nat.zero_le _,fun j hj=>by omega⟩ ?_)
 rintro k ⟨f1_1,f1_2⟩
 refine qs tb hJ [0,1,2,3,1000] [_] [_,_,_,_,_] ?_
 refine cjS 4 (fun hb1=>?_) fun hb1=>?_
 try simp at hb1
 refine Zc (nx (Zj (Zf (qs tb hJ [0,1,2,3,1001] [_,_] [_,_,_,_,_] ?_))))
 refine hqs tb hJ [0,1,2,3,4,1005] [_,_,_,.ptr [.lit (.int .i64 (ge xs k))],_,_] [3] [_,_,_,_,_,_] rfl ⟨iIx Yc,trivial⟩ ?_
 refine cj 5 (fun hb2=>?_) fun hb2=>?_
 try simp at hb2
 refine qs tb hJ [1001] [_,_] [_] ?_
 exact Zg (rtn (m:=0) rfl rfl (eI (by first | exact(YJ hb1 (by simpa [isN]using hb2) f1_2).symm | exact(Ys fun j hj=>f1_2 j (by omega)).symm)))
 try simp at hb2
 refine Zc (nx (hqp tb hJ [0,1,2,1001] [.int (k+1:Nat),_] [0] [_,_,_,_] rfl ⟨Yv,trivial⟩ ?_))
 exact lpE (k+1) [0,1,2,3] ⟨by omega,ZZ f1_2 (by simpa [isN]using hb2)⟩
 try simp at hb1
 refine Zx (nx (qs tb hJ [1000] [_] [_] ?_))
 exact Zg (rtn (m:=0) rfl rfl (eI (by first | exact(YJ hb1 (by simpa [isN]using hb2) f1_2).symm | exact(Ys fun j hj=>f1_2 j (by omega)).symm)))
theorem ZdL {J:World→Prop} (hJ:Stab J) (xs:List Int) (n:Int)  :Fn Tryz.prog J 9 [.rd (Xj xs),.int n] (.bool (decide (n∈xs))):=by
 refine Zu (N:=9) Tryz.func9 rfl rfl (lb rfl) fun S w0 hS hJ0=>?_
 clear hJ0
 refine ln 0 fun hl1=>?_
 refine qs tb hJ [0,1] [_] [_,_] ?_
 refine hqs tb hJ [1004] [_,_,.int (Yz (isN n) xs),_,_] [2] [_] rfl ⟨iFn hS hJ (Zpz hJ (xs:=xs) (n:=n) ) Zuy,trivial⟩ ?_
 exact Zg (rtn (m:=0) rfl rfl (eB (by rw[Zbi,ZuL])))
theorem Zmz {J:World→Prop} (hJ:Stab J) (M:Nat) (xs:List Int) (hx:∀ x∈xs,0≤x∧x<1000) (hl:xs.length≤1000):FnM (ι:=Value) Tryz.prog J 29 [] [.lit (.map (some M))] [OB.set keyI M xs] (fun i'=>.lit i') (fun i'=>[OB.row i' 3 1 ((Xv xs).map ZcP),OB.set keyI M xs]):=by
 intro S w0 R w vs hS hJ0 _ hk0 hxo ha
 simp only[RelL]at ha
 obtain⟨u,us,rfl,h1,rfl⟩:=ha
 rw[h1.lit]
 have hi:=hxo.2.1 (OB.set keyI M xs) (by simp)
 obtain⟨D0,hown,hp,hsz⟩:=ZiT hi (fun x hxx=>by have:=hx x hxx;simp[Lit.wf,IntKind.min,IntKind.max,IntKind.bits,IntKind.signed];omega) (by unfold maxLen;omega)
 refine(ZiP M xs.length D0 _ w hown (by rw[hsz];unfold maxLen;omega) (by rw[hsz];omega)).mono fun e w' ⟨v,ss,he,hS',hrow,_,hb⟩=>?_
 have hk:Keeps All w w':=(Keeps.of_below hb).sub fun k hk _=>hk
 have e0:ss.mergeSort (fun x y=>decide (x≤y))=Xv xs:=mergeSort_of_perm_i (hS'.trans hp)
 rw[e0]at hrow
 have hlen:(Xv xs).length=ss.length:=by rw[←e0,List.length_mergeSort]
 have hcells:∀(S:Nat→Prop) (w:World) (l:List Int),RdL S w ((l.map ZcP).flatten) (l.map encZ):=by
  intro S w l
  induction l with
  | nil=>trivial
  | cons x l ih=>exact⟨.lit _ True.intro,ih⟩
 have hinv:∀ lo S,lo≤w.heap.size→(OB.row v 3 1 ((Xv xs).map ZcP)).inv lo S w':=fun lo S hlo=>⟨(Xv xs).map encZ,by rw[List.length_map,hlen];exact ownsRow_base_a hrow hlo,hcells S w' _,fun r hr=>by obtain⟨x,_,rfl⟩:=List.mem_map.1 hr;rfl⟩
 have hadd:=XW (o:=OB.row v 3 1 ((Xv xs).map ZcP)) hJ hk0 hxo hk (fun k hb=>((OB.row v 3 1 ((Xv xs).map ZcP)).lt (hinv w.heap.size All (Nat.le_refl _)) k hb).1) (hinv _ _ hk0.size)
 exact⟨v,v,he,Rel.of_lit _ (Xh (hinv w.heap.size All (Nat.le_refl _))),hadd.1,hadd.2.1⟩
theorem Zs1 {J:World→Prop} (hJ:Stab J) (d:Db) (i:Int) (hw:∀ f∈d.frames,f.wide.length*32≤140737488351232) (hG:X8 J):FnM (ι:=Value) Tryz.prog J 13 [] [.agg (dbC d),.int i] [] (fun i'=>.tup [.lit (i'),.int (Zk2 d i)]) (fun i'=>[OB.row i' 3 1 ((if Zk2 d i=0 then ZhV (usL d d.frames.length) i.toNat else []).map ZcP)]):=by
 refine ZX (N:=26) Tryz.func13 rfl rfl (lb rfl) fun S w0 R hS hJ0 hH=>?_
 refine Z6 (B:=St All (SO S (R)) w0 26 [(0,.agg (dbC d)),(1,.int i)] (XO J S w0.heap.size (R))) ?_ fun a w h=>h
 refine ZI tb hJ [1,1000] [.ptr (dbC d),_,_] [0] [_,_] rfl ⟨fun _ _ hk hx hl _=>YP rfl (hl.env 0 0 _ rfl rfl) (Zr hS _ hk hx _ (Nat.le_refl _)) (jo hJ hx),trivial⟩ ?_
 refine ZI tb hJ [0,1002,1007,1008] [_,_,.rd (Xj ([i])),.tup [gAV (rdE d ([i])) [Zb d.consts,Zb d.vars,YD d.frames,Z4 (usL d d.frames.length)],.int (rdE d ([i]))],_,_,_,_,_] [2,3] [_,_,_,_] rfl ⟨fun _ _ hk hx hl _=>Yx Yc Ziv rfl (hl.dep 1 11 _ rfl rfl rfl rfl) (Zr hS _ hk hx _ (Nat.le_refl _)) (jo hJ hx),iFo hS hJ (ZhR hJ (d:=d) (ns:=([i])) (hw) (hG)) Zil,trivial⟩ ?_
 refine ln 1 fun hl1=>?_
 refine Zj (qso tb hJ [0,2,3,1001] [_,_] [_,_,_,_] ?_)
 refine cj 3 (fun hb1=>?_) fun hb1=>?_
 have c1:¬ Zk2 d i=0:=by rw[←ZdH];exact Zji hb1
 refine qso tb hJ [1001,1002] [_,_,_] [_,_] ?_
 refine tw (Z7 3 1 hJ) ?_
 refine tw (ob0 (congrArg (fun z'=>OB.row (.slice none 0 0) 3 1 ((z').map ZcP)) (show([]:List Int)=(if Zk2 d i=0 then ZhV (usL d d.frames.length) i.toNat else [])from by first | (rw[if_neg c1];done) | (rw[if_pos c0];exact Zgg z1.2 (YV _ _))))) ?_
 exact Zg (fun a w h=>Zh3  (m:=0) (k:=1) (.slice none 0 0) rfl h rfl rfl (tup2 rfl (eI (by first | exact ZdH d i | exact c0.symm))))
 have c0:Zk2 d i=0:=by rw[←ZdH];exact ZhW hb1
 have c2:=Zk1 c0
 have c3:=Zcj c2.1
 refine tw (sa 1 rfl (show(gAV (rdE d ([i])) [Zb d.consts,Zb d.vars,YD d.frames,Z4 (usL d d.frames.length)]:AV)= .ptr [Zb d.consts,Zb d.vars,YD d.frames,Z4 (usL d d.frames.length)]from Zcd (by rw[ZdH];exact c0))) ?_
 refine Zc (nx (tw (sa 0 rfl (congrArg AV.int (show i=(i.toNat:Int)from by omega))) ?_))
 refine tsq ?_
 refine snK 2 tb rfl ?_
 refine Y7 (O:=[]) (R:=(R)) (ZdJ hJ (d:=d) (us:=(usL d d.frames.length)) (n:=i.toNat) (YV _ _) (by rw[ZaO];omega)) Zeh rfl rfl rfl (lb rfl) hS hJ0 Zq (fun a w h=>(Za (h.get 1 rfl) (Za (h.get 0 rfl) Ze))) fun z1=>?_
 refine snK 1 tb rfl ?_
 refine seK [0,4] [_,_] rfl ?_
 refine nx (tsq ?_)
 refine snK 2 tb rfl ?_
 refine Zss Xs hJ hJ0 (i.toNat:Int) rfl rfl (fun a w h=>⟨(h.get 1 rfl),(h.get 0 rfl)⟩) rfl ?_
 refine seK [2] [_] rfl ?_
 refine nx (tsq ?_)
 refine snK 1 tb rfl ?_
 refine Y7 (O:=[OB.set keyI z1.1.1 (z1.1.2.erase (i.toNat:Int))]) (R:=(R)) (Zmz hJ (M:=z1.1.1) (xs:=(z1.1.2.erase (i.toNat:Int))) (fun x hx=>by have:=Zfm z1.2 (YV _ _) x (List.mem_of_mem_erase hx);omega) (by have:=Zgh z1.2 (YV _ _);have:=List.length_erase_le (a:=(i.toNat:Int)) (l:=z1.1.2);omega)) Zik rfl rfl rfl (lb rfl) hS hJ0 Zq (fun a w h=>(Za (h.get 0 rfl) Ze)) fun z2=>?_
 refine snK 2 tb rfl ?_
 refine seK [0,1] [_,_] rfl ?_
 refine nx (tw pm1 ?_)
 refine tw Zy ?_
 refine tw (ob0 (congrArg (fun z'=>OB.row z2 3 1 ((z').map ZcP)) (show(Xv (z1.1.2.erase (i.toNat:Int)))=(if Zk2 d i=0 then ZhV (usL d d.frames.length) i.toNat else [])from by first | (rw[if_neg c1];done) | (rw[if_pos c0];exact Zgg z1.2 (YV _ _))))) ?_
 exact Zg (fun a w h=>Zh3  (m:=1) (k:=0) z2 rfl h rfl rfl (tup2 rfl (eI (by first | exact ZdH d i | exact c0.symm))))
end Go.Proofs.YtapelgeodldlcaaGreatDoor
namespace Go.Proofs.YtapelgeodldlcaaGreatDoor
noncomputable def ZaC (us:List (List Int)) (n:Nat):List Int:=ZhV us n++[(n:Int)]
theorem Zgi {us:List (List Int)} {n:Nat} {ys:List Int} (h:ZcF us n ys) (hd:Zel us):Xv ys=ZaC us n:=by
 refine Zfg h.nod ?_ fun x=>?_
 · unfold ZaC
   rw[List.pairwise_append]
   exact⟨Zjh us n,by simp,fun a ha b hb=>by rw[List.mem_singleton.1 hb];exact(nedL_mem.1 ha).2.1⟩
 · rw[h.iff,ZaC,List.mem_append,nedL_mem,List.mem_singleton]
   constructor
   · intro hx
     have:=hx.le hd (by omega)
     by_cases e:x=n
     · exact .inr e
     · exact .inl ⟨this.1,by omega,hx⟩
   · rintro(⟨_,_,h3⟩ | rfl)
     · exact h3
     · exact .refl _
theorem Zi1 (us:List (List Int)) (n:Nat):(ZaC us n).length≤n+1:=by
 have:=ZpL us n
 simp[ZaC];omega
theorem Zo4 {us:List (List Int)} {n:Nat} {x:Int} (h:x∈ZaC us n):0≤x∧x≤n:=by
 rcases List.mem_append.1 h with h | h
 · have:=nedL_mem.1 h;omega
 · rw[List.mem_singleton.1 h];omega
theorem Zd8 {us:List (List Int)} (hd:Zel us) (i:Nat):Zel (us.set i []):=fun k x hx=>by
 by_cases hi:i<us.length
 · rw[Zjy hi]at hx
   split at hx
   · simp at hx
   · exact hd k x hx
 · rw[List.set_eq_of_length_le (by omega)]at hx
   exact hd k x hx
open Classical in
noncomputable def ZhY (us:List (List Int)) (f t:Nat) (i:Int):Bool:=(!decide (i=f)&& !decide (i=t))&& !decide (Rch (us.set i.toNat []) f t)
theorem ZhX {us:List (List Int)} {f t:Nat} {i:Int} (h:(decide (i=f)||decide (i=t))=true):ZhY us f t i=false:=by rw[ZhY,←Bool.not_or,h];rfl
open Classical in
theorem Zjl {us:List (List Int)} {f t:Nat} {i:Int} (h:(decide (i=f)||decide (i=t))=false) (hr:¬ Rch (us.set i.toNat []) f t):ZhY us f t i=true:=by rw[ZhY,←Bool.not_or,h,decide_eq_false hr];rfl
open Classical in
theorem Zjm {us:List (List Int)} {f t:Nat} {i:Int} (h:(decide (i=f)||decide (i=t))=false) (hr:Rch (us.set i.toNat []) f t):ZhY us f t i=false:=by rw[ZhY,←Bool.not_or,h,decide_eq_true hr];rfl
noncomputable def ZpM (us:List (List Int)) (f t:Nat):List Int:=(ZaC us f).filter (ZhY us f t)
open Classical in
noncomputable def Zft (d:Db) (f t:Int):Int:=if !decide (rdE d [f,t]=0)then rdE d [f,t]else if !decide (Rch (usL d d.frames.length) f t)then 5 else 0
theorem ZsH {d:Db} {f t:Int} (h:rdE d [f,t]=0):Qf d=0∧(0≤f∧f<d.frames.length)∧0≤t∧t<d.frames.length:=by
 unfold rdE at h
 by_cases h1:Qf d=0
 · rw[if_neg (by simp[h1])]at h
   by_cases h2:([f,t].any fun i=>decide (i<0)||decide (((d.frames.length:Nat):Int)≤i))=true
   · rw[if_pos h2]at h;exact absurd h (by decide)
   · simp only[List.any_cons,List.any_nil,Bool.or_false,Bool.or_eq_true,decide_eq_true_eq,not_or]at h2
     exact⟨h1,by omega,by omega⟩
 · rw[if_pos (by simp[h1])]at h
   exact absurd h h1
end Go.Proofs.YtapelgeodldlcaaGreatDoor
set_option maxHeartbeats 8000000
set_option maxRecDepth 100000
namespace Go.Proofs.YtapelgeodldlcaaGreatDoor
open Go.RowKit
theorem ZpE {J:World→Prop} (hJ:Stab J) (xs:List (List Int)) (b:xs.length*24≤140737488351232):FnM (ι:=Value) Tryz.prog J 30 [] [.rd (Z4 xs)] [] (fun i'=>.lit (i')) (fun i'=>[OB.row i' 33 1 (xs.map YE)]):=by
 refine ZX (N:=8) Tryz.func30 rfl rfl (lb rfl) fun S w0 R hS hJ0 hH=>?_
 refine Z6 (B:=St All (SO S (R)) w0 8 [(0,.rd (Z4 xs))] (XO J S w0.heap.size (R))) ?_ fun a w h=>h
 refine ln 0 fun hl1=>?_
 refine qso tb hJ [0] [_] [_] ?_
 refine Zj (tsq ?_)
 refine snK 1 tb rfl ?_
 refine Zda (f:=YE) (xs:=xs) Zkc rfl rfl rfl (lb rfl) (fun a w h=>(h.get 0 rfl)) fun g1 hg1=>?_
 refine seK [0,2] [_,_] rfl ?_
 refine nx (cj 0 (fun hb1=>?_) fun hb1=>?_)
 try simp at hb1
 refine qso tb hJ [1000] [_] [_] ?_
 refine tw (Z7 33 1 hJ) ?_
 refine tw (ob0 (congrArg (fun z'=>OB.row (.slice none 0 0) 33 1 ((z').map YE)) (show([]:List (List Int))=xs from by first | exact(hg1 (by assumption)).symm | simp))) ?_
 exact Zg (fun a w h=>ZQ  (m:=0) (.slice none 0 0) rfl h rfl rfl)
 try simp at hb1
 refine Zc (nx (Zj (fun a w h=>Zdd (id:=3) (t:=73) (e:=33) (size:=1) (bytes:=24) (i0:=0) (fol:=3) (d:=2) (ch:=[(2,(xs.map YE))]) (fun ix'=>([.any,.rd (Z4 xs),.any,.any]:List AV).getD ix' .any) (fun ix'=>([true,true,true,true]:List Bool).getD ix' true) [] (xs.map YE) (by simp) ?r3_1 hJ hJ0 h Yh rfl rfl rfl rfl ⟨?o3_1_0,⟨?o3_1_1,⟨?o3_1_2,⟨?o3_1_3,trivial⟩⟩⟩⟩ trivial (fun v2=>?n3_1))))
 case r3_1=>
  refine Row.mk' Zhl ⟨_,rfl,rfl,rfl,rfl,rfl⟩ ⟨?x3_1_0,trivial⟩ ⟨_,_,_,_,rfl,rfl,rfl,rfl,rfl,rfl,rfl,rfl,rfl⟩ rfl rfl rfl
  case x3_1_0=>exact⟨_,_,_,_,rfl,rfl,rfl,rfl,rfl,rfl,rfl,rfl,Q2 (f:=YE) (fun _=>rfl),(by have hm:maxLen=9223372036854775807:=rfl;simp[upto];first | omega | (simp;omega)),(by have hm:maxLen=9223372036854775807:=rfl;simp[upto];first | omega | (simp;omega)),fun _ _ _ _ _ hl=>(hl.dep 1 6 _ rfl rfl rfl rfl)⟩
 case o3_1_0=>exact fun h=>Zi rfl h
 case o3_1_1=>exact fun _ _=>⟨rfl,fun _ _ _ hx hl _=>Yk rfl (hl.env 1 0 _ rfl rfl) hx⟩
 case o3_1_2=>exact fun h=>Zi rfl h
 case o3_1_3=>exact fun h=>Zi rfl h
 clear a w h
 exact nx (Zg (fun a w h=>ZQ  (m:=0) v2 rfl h rfl rfl))
theorem p_Must {J:World→Prop} (hJ:Stab J) (d:Db) (f:Int) (t:Int) (hw:∀ f∈d.frames,f.wide.length*32≤140737488351232) (hG:X8 J):Fn Tryz.prog J 14 [.agg (dbC d),.int f,.int t] (.tup [.rd (Xj (if Zft d f t=0 then ZpM (usL d d.frames.length) f.toNat t.toNat else [])),.int (Zft d f t)]):=by
 refine Zu (N:=77) Tryz.func14 rfl rfl (lb rfl) fun S w0 hS hJ0=>?_
 refine tw Yj ?_
 refine ZI tb hJ [1,2,1000] [.ptr (dbC d),_,_] [0] [_,_,_] rfl ⟨fun _ _ hk hx hl _=>YP rfl (hl.env 0 0 _ rfl rfl) (Zr hS _ hk hx _ (Nat.le_refl _)) (jo hJ hx),trivial⟩ ?_
 refine ZI tb hJ [0,1,1003,1008,1009] [_,_,_,.rd (Xj ([f,t]:List Int)),.tup [gAV (rdE d ([f,t]:List Int)) [Zb d.consts,Zb d.vars,YD d.frames,Z4 (usL d d.frames.length)],.int (rdE d ([f,t]:List Int))],_,_,_,_,_] [3,4] [_,_,_,_,_] rfl ⟨fun a _ hk hx hl _=>Qt (k:=2) (us:=[a.eval (Go.Operand.tmp 16),a.eval (Go.Operand.tmp 17)]) Yc ZbP rfl (by simp) (Zz (hl.dep 1 16 _ rfl rfl rfl rfl) (Zz (hl.dep 2 17 _ rfl rfl rfl rfl) Yb)) rfl (by decide) (by decide) (Zr hS _ hk hx _ (Nat.le_refl _)) (jo hJ hx),iFo hS hJ (ZhR hJ (d:=d) (ns:=([f,t]:List Int)) (hw) (hG)) Zil,trivial⟩ ?_
 refine ln 2 fun hl1=>?_
 refine Zj (qso tb hJ [0,1,3,4,1001] [_,_] [_,_,_,_,_] ?_)
 refine cj 4 (fun hb1=>?_) fun hb1=>?_
 have c1:Zft d f t=rdE d [f,t]:=by rw[Zft,if_pos hb1]
 have c9:¬ Zft d f t=0:=by rw[c1];exact Zji hb1
 refine qso tb hJ [1001,1002] [_,_,_] [_,_] ?_
 refine tw (fun h=>Zao h (m:=0) (s:=6) rfl) ?_
 exact Zg (fun a w h=>X1 (m:=0) (k:=1) rfl (YM h) rfl rfl (congrArg (fun z=>AV.rd (Xj z)) (show([]:List Int)=(if Zft d f t=0 then ZpM (usL d d.frames.length) f.toNat t.toNat else [])from by first | exact c1.symm | exact c0.symm | (rw[if_neg c9];done) | (rw[if_pos c0,f1_2,ZC (by omega)];rfl))) (eI (by first | exact c1.symm | exact c0.symm | (rw[if_neg c9];done) | (rw[if_pos c0,f1_2,ZC (by omega)];rfl))))
 have e0:rdE d [f,t]=0:=ZhW hb1
 have c2:=ZsH e0
 have c3:=Zcj c2.1
 have hf':(f.toNat:Int)=f:=by omega
 have ht':(t.toNat:Int)=t:=by omega
 have hul:=ZaO d d.frames.length
 refine tw (sa 2 rfl (show(gAV (rdE d ([f,t]:List Int)) [Zb d.consts,Zb d.vars,YD d.frames,Z4 (usL d d.frames.length)]:AV)= .ptr [Zb d.consts,Zb d.vars,YD d.frames,Z4 (usL d d.frames.length)]from Zcd e0)) ?_
 refine Zc (nx (Zj (tw (sa 0 rfl (congrArg AV.int (show f=(f.toNat:Int)from by omega))) ?_)))
 refine tw (sa 1 rfl (congrArg AV.int (show t=(t.toNat:Int)from by omega))) ?_
 refine tsq ?_
 refine snK 2 tb rfl ?_
 refine Y7 (O:=[]) (R:=[]) (ZdJ hJ (d:=d) (us:=(usL d d.frames.length)) (n:=f.toNat) (by first | exact YV _ _ | exact Zd8 (YV _ _) _) (by first | omega | (rw[List.length_set];omega))) Zeh rfl rfl rfl (lb rfl) hS hJ0 Zq (fun a w h=>(Za (h.get 1 rfl) (Za (h.get 0 rfl) Ze))) fun z1=>?_
 refine snK 1 tb rfl ?_
 refine sq (.bool (decide ((t.toNat:Int)∈z1.1.2))) rfl rfl (lb rfl) (fun _ _ h=>Z8 (Kd:=keyI) (xs:=z1.1.2) Xs ZM (t.toNat:Int) rfl (Zd h.x (mo 0 rfl)) (h.get 1 rfl) (h.get 0 rfl) h.x) ?_
 refine snK 1 tb rfl ?_
 refine seK [0,6,7,8] [_,_,_,_] rfl ?_
 refine nx (cj 0 (fun hb2=>?_) fun hb2=>?_)
 have e2:¬ Rch (usL d d.frames.length) f t:=fun h=>Zji hb2 ((z1.2.iff _).2 (by rw[hf',ht'];exact h))
 have c1:Zft d f t=5:=by rw[Zft,if_neg (by rw[e0];decide),if_pos (by simpa using e2)]
 have c9:¬ Zft d f t=0:=by rw[c1];decide
 refine qso tb hJ [1000,1001] [_,_] [_,_] ?_
 refine tw (fun h=>Zao h (m:=0) (s:=6) rfl) ?_
 exact Zg (fun a w h=>X1 (m:=0) (k:=1) rfl (YM h) rfl rfl (congrArg (fun z=>AV.rd (Xj z)) (show([]:List Int)=(if Zft d f t=0 then ZpM (usL d d.frames.length) f.toNat t.toNat else [])from by first | exact c1.symm | exact c0.symm | (rw[if_neg c9];done) | (rw[if_pos c0,f1_2,ZC (by omega)];rfl))) (eI (by first | exact c1.symm | exact c0.symm | (rw[if_neg c9];done) | (rw[if_pos c0,f1_2,ZC (by omega)];rfl))))
 have e2:Rch (usL d d.frames.length) f t:=by have:=(z1.2.iff _).1 (ZhW hb2);rwa [hf',ht']at this
 have c0:Zft d f t=0:=by rw[Zft,if_neg (by rw[e0];decide),if_neg (by simpa using e2)]
 refine Zc (nx (qso tb hJ [1,2,3,1000] [_] [_,_,_,_] ?_))
 refine Zj (Zj (Zw (snK 2 tb rfl ?_)))
 refine Y7 (O:=[]) (R:=[OB.set keyI z1.1.1 z1.1.2]) (ZdJ hJ (d:=d) (us:=(usL d d.frames.length)) (n:=f.toNat) (by first | exact YV _ _ | exact Zd8 (YV _ _) _) (by first | omega | (rw[List.length_set];omega))) Zeh rfl rfl rfl (lb rfl) hS hJ0 Zq (fun a w h=>(Za (h.get 1 rfl) (Za (h.get 0 rfl) Ze))) fun z2=>?_
 refine sq (.rd (Xj (Xv z2.1.2))) rfl rfl (lb rfl) (fun _ _ h=>Y9 (Zi9 hJ (M:=z2.1.1) (xs:=z2.1.2) (fun x hxx=>by have:=Zfm z2.2 (YV _ _) x hxx;omega) (by have:=Zgh z2.2 (YV _ _);omega)) Zik rfl (Zr hS _ h.keep h.x) (h.x.1) (ZG (Zd h.x (mo 0 rfl)) Zq) (Za (h.get 0 rfl) Ze) (jo hJ h.x)) ?_
 refine sq (.int ((Xv z2.1.2).length:Nat)) rfl rfl (lb rfl) (fun _ _ h=>ZaD Qh rfl (h.get 0 rfl) h.x) ?_
 refine snK 1 tb rfl ?_
 refine seK [0,1,2,6,7,8,9] [_,_,_,_,_,_,_] rfl ?_
 refine kw (sa 2 rfl (congrArg (fun z'=>AV.rd (Xj z')) (show(Xv z2.1.2)=(ZaC (usL d d.frames.length) f.toNat)from Zgi z2.2 (YV _ _)))) ?_
 refine kw (sa 1 rfl (congrArg AV.int (show(((Xv z2.1.2).length:Nat):Int)=(((ZaC (usL d d.frames.length) f.toNat).length:Nat):Int)from by rw[Zgi z2.2 (YV _ _)]))) ?_
 refine nx (ln 2 fun hl2=>?_)
 refine Zf (tw (Z7 3 1 hJ) ?_)
 refine lpo (ι:=Nat×Value×(List Int)) (fun(k,_,out)=>(k≤(ZaC (usL d d.frames.length) f.toNat).length)∧(out=((ZaC (usL d d.frames.length) f.toNat).take k).filter (ZhY (usL d d.frames.length) f.toNat t.toNat))∧(out.length≤k)) (fun(_,vo,out)=>[OB.row vo 3 1 (out.map ZcP),OB.set keyI z2.1.1 z2.1.2,OB.set keyI z1.1.1 z1.1.2]) (fun(k,vo,_)=>[(36,.int (k:Nat)),(10,.lit vo)]) (fun(k,_,_)=>(ZaC (usL d d.frames.length) f.toNat).length-k) [1,2,3,4,5,0,6] [_,_,_,_,_] (0,(.slice none 0 0),([]:List Int)) ⟨Nat.zero_le _,rfl,Nat.zero_le _⟩ ?_
 rintro⟨k,vo,out⟩ ⟨f1_1,f1_2,f1_3⟩
 refine qso tb hJ [0,1,2,3,4,5,6,1000] [_] [_,_,_,_,_,_,_,_] ?_
 refine cjS 7 (fun hb3=>?_) fun hb3=>?_
 try simp at hb3
 have e5:=Zo4 (ZF (xs:=(ZaC (usL d d.frames.length) f.toNat)) (k:=k) (by omega))
 refine Zc (nx (Zj (Zf (ZI tb hJ [0,1,2,3,4,5,6,1002] [.ptr [.lit (.int .i64 (ge (ZaC (usL d d.frames.length) f.toNat) k))],_,_] [0] [_,_,_,_,_,_,_,_] rfl ⟨iIx Yc,trivial⟩ ?_))))
 refine Zj (qso tb hJ [0,1,2,3,4,5,6,7,1007] [_,_,_,_,_,_,_,_] [_,_,_,_,_,_,_,_,_] ?_)
 refine cj 8 (fun hb4=>?_) fun hb4=>?_
 have e6:ZhY (usL d d.frames.length) f.toNat t.toNat (ge (ZaC (usL d d.frames.length) f.toNat) k)=false:=ZhX hb4
 refine Zx (nx (YQ tb hJ [0,1,2,3,4,6,1001] [.int (k+1:Nat),_] [0] [_,_,_,_,_,_,_] rfl ⟨Yv,trivial⟩ ?_))
 exact Xi (k+1,vo,out) [0,1,2,3,4,6,5] ⟨by omega,by rw[Yo (by omega),e6,←f1_2];simp,by first | omega | (simp;omega)⟩
 refine Zc (nx (Zj (fun a w h=>YO (γ:=Value×Value×Nat) (fun ix'=>([.ptr [Zb d.consts,Zb d.vars,YD d.frames,Z4 (usL d d.frames.length)],.ptr [Zb d.consts,Zb d.vars,YD d.frames,Z4 (usL d d.frames.length)],.ptr [Zb d.consts,Zb d.vars,YD d.frames,Z4 (usL d d.frames.length)],.agg (dbC d),.ptr [Zb d.consts,Zb d.vars,YD d.frames,Z4 (usL d d.frames.length)],.ptr [Zb d.consts,Zb d.vars,YD d.frames,Z4 (usL d d.frames.length)],.ptr [Z4 (usL d d.frames.length)],.rd (Z4 (usL d d.frames.length)),.any,.any,.any,.any]:List AV).getD ix' .any) (fun ix'=>([true,true,true,true,true,true,true,true,true,true,true,true]:List Bool).getD ix' true) [(35,fun(g:Value×Value×Nat)=>.int ((ZaC (usL d d.frames.length) f.toNat).length:Nat)),(34,fun(g:Value×Value×Nat)=>.rd (Xj (ZaC (usL d d.frames.length) f.toNat))),(1,fun(g:Value×Value×Nat)=>.int (f.toNat:Nat)),(2,fun(g:Value×Value×Nat)=>.int (t.toNat:Nat)),(8,fun(g:Value×Value×Nat)=>.ptr [Zb d.consts,Zb d.vars,YD d.frames,Z4 (usL d d.frames.length)]),(36,fun(g:Value×Value×Nat)=>.int (k:Nat)),(10,fun(g:Value×Value×Nat)=>.lit vo),(12,fun(g:Value×Value×Nat)=>.int (ge (ZaC (usL d d.frames.length) f.toNat) k)),(13,fun(g:Value×Value×Nat)=>.at g.2.2 0)] (fun(j':Nat) (g:Value×Value×Nat)=>match j' with | 0=>[OB.row vo 3 1 (out.map ZcP),OB.set keyI z2.1.1 z2.1.2,OB.set keyI z1.1.1 z1.1.2] | 1=>[OB.row g.1 33 1 ((usL d d.frames.length).map YE),OB.row vo 3 1 (out.map ZcP),OB.set keyI z2.1.1 z2.1.2,OB.set keyI z1.1.1 z1.1.2] | 2=>[Zq2 [Zb d.consts,Zb d.vars,YD d.frames,.lit g.1] g.2.1,OB.row g.1 33 1 ((usL d d.frames.length).map YE),OB.row vo 3 1 (out.map ZcP),OB.set keyI z2.1.1 z2.1.2,OB.set keyI z1.1.1 z1.1.2] | 3=>[OB.var g.2.2 [Zb d.consts,Zb d.vars,YD d.frames,.lit g.1],OB.row g.1 33 1 ((usL d d.frames.length).map YE),OB.row vo 3 1 (out.map ZcP),OB.set keyI z2.1.1 z2.1.2,OB.set keyI z1.1.1 z1.1.2] | _=>[OB.var g.2.2 [Zb d.consts,Zb d.vars,YD d.frames,.lit g.1],OB.row g.1 33 1 ((usL d d.frames.length).map YE),OB.row vo 3 1 (out.map ZcP),OB.set keyI z2.1.1 z2.1.2,OB.set keyI z1.1.1 z1.1.2]) (fun(k':Nat) (g:Value×Value×Nat)=>match k' with | 0=>g.1 | 1=>g.2.1 | 2=>(.pointer (some ⟨g.2.2,0,none⟩)) | 3=>(.pointer (some ⟨g.2.2,0,none⟩)) | _=>undef) [8,9,10,11] 4 ((.slice none 0 0),(.slice none 0 0),0) (fun _=>rfl) h hJ Yh rfl rfl rfl rfl rfl rfl (fun j' g hj p hp=>by rcases j' with _ | _ | _ | _ | _ | j'<;>first | exact hp | exact List.mem_cons_of_mem _ hp | exact List.mem_cons_of_mem _ (List.mem_cons_of_mem _ hp) | (exfalso;omega)) ⟨?o11_1_0,⟨?o11_1_1,⟨?o11_1_2,⟨?o11_1_3,⟨?o11_1_4,⟨?o11_1_5,⟨?o11_1_6,⟨?o11_1_7,⟨?o11_1_8,⟨?o11_1_9,⟨?o11_1_10,⟨?o11_1_11,trivial⟩⟩⟩⟩⟩⟩⟩⟩⟩⟩⟩⟩ ⟨?e11_1_0,⟨?e11_1_1,⟨?e11_1_2,⟨?e11_1_3,trivial⟩⟩⟩⟩ ⟨.old 0 35 _ rfl rfl,⟨.old 1 34 _ rfl rfl,⟨.old 2 1 _ rfl rfl,⟨.old 3 2 _ rfl rfl,⟨.old 4 8 _ rfl rfl,⟨.old 5 36 _ rfl rfl,⟨.old 6 10 _ rfl rfl,⟨.old 7 12 _ rfl rfl,⟨.eff 3 11 13 (fun(g:Value×Value×Nat)=>(.pointer (some ⟨g.2.2,0,none⟩))) rfl rfl (fun _=>rfl) (fun _=>True.intro),trivial⟩⟩⟩⟩⟩⟩⟩⟩⟩ ?n11_1)))
 case o11_1_0=>exact fun _ O' _=>⟨rfl,fun _ _ _ hx hl _=>Yk rfl (hl.env 4 8 _ rfl rfl) hx⟩
 case o11_1_1=>exact fun _ O' _=>⟨rfl,fun _ _ _ hx hl _=>YL rfl (hl.dep 0 48 _ rfl rfl rfl rfl) hx⟩
 case o11_1_2=>exact fun _ O' _=>⟨rfl,fun _ _ _ hx hl _=>ZT ZkQ rfl (hl.dep 1 49 _ rfl rfl rfl rfl) hx⟩
 case o11_1_3=>exact fun _ O' _=>⟨rfl,fun _ _ _ hx hl _=>ZbH (k:=3) Zbs rfl (hl.dep 2 50 _ rfl rfl rfl rfl) (lb rfl) hx⟩
 case o11_1_4=>exact fun _ O' _=>⟨rfl,fun _ _ _ hx hl _=>Yk rfl (hl.env 4 8 _ rfl rfl) hx⟩
 case o11_1_5=>exact fun _ O' _=>⟨rfl,fun _ _ _ hx hl _=>YL rfl (hl.dep 4 52 _ rfl rfl rfl rfl) hx⟩
 case o11_1_6=>exact fun _ O' _=>⟨rfl,fun _ _ _ hx hl _=>ZT Zbk rfl (hl.dep 5 53 _ rfl rfl rfl rfl) hx⟩
 case o11_1_7=>exact fun _ O' _=>⟨rfl,fun _ _ _ hx hl _=>ZA ZmP rfl (hl.dep 6 54 _ rfl rfl rfl rfl) hx⟩
 case o11_1_8=>exact Zi rfl
 case o11_1_9=>exact Zi rfl
 case o11_1_10=>exact Zi rfl
 case o11_1_11=>exact Zi rfl
 case e11_1_0=>exact⟨_,rfl,rfl,rfl,rfl,fun g _ w hk hx hl _=>Zp (ZuR (O:=[]) (R:=[OB.row vo 3 1 (out.map ZcP),OB.set keyI z2.1.1 z2.1.2,OB.set keyI z1.1.1 z1.1.2]) (ZpE hJ (xs:=(usL d d.frames.length)) (by omega)) Zut rfl hS hJ0 Zq hk hx (Za (hl.dep 7 55 _ rfl rfl rfl rfl) Ze)) fun v w' ⟨i,hp,hv⟩=>⟨(i,g.2.1,g.2.2),rfl,fun k' hk'=>absurd hk' (Nat.not_lt_zero _),fun _=>hv.lit,hp⟩⟩
 case e11_1_1=>exact⟨_,rfl,rfl,rfl,rfl,fun g _ w hk hx hl hs=>Zp (ZjH (cs:=[Zb d.consts,Zb d.vars,YD d.frames,.lit g.1]) hk (Zmf (d:=d) (v:=g.1) Zla rfl (hl.dep 3 51 _ rfl rfl rfl rfl) (hs 0 8 _ 56 (by omega) rfl rfl rfl) (Zl0 (hx.2.1 _ (mo 0 rfl))) hx)) fun v w' hp=>⟨(g.1,v,g.2.2),rfl,fun k' hk'=>by rcases k' with _ | _ | _ | k'<;>first | rfl | omega,fun _=>rfl,hp⟩⟩
 case e11_1_2=>exact⟨_,rfl,rfl,rfl,rfl,fun g _ w hk hx _ hs=>Zp (ZrO (cs:=[Zb d.consts,Zb d.vars,YD d.frames,.lit g.1]) hJ rfl (hs 1 9 _ 57 (by omega) rfl rfl rfl) hk hx) fun v w' ⟨g',hv,hp⟩=>⟨(g.1,g.2.1,g'),rfl,fun k' hk'=>by rcases k' with _ | _ | _ | k'<;>first | rfl | omega,fun _=>hv,hp⟩⟩
 case e11_1_3=>exact⟨_,rfl,rfl,rfl,rfl,fun g _ w hk hx _ hs=>Zp (Zbo (.inl rfl) (hs 2 10 _ 58 (by omega) rfl rfl rfl) hk hx) fun v w' hp=>⟨g,rfl,fun _ _=>rfl,fun _=>hp.1,hp.2⟩⟩
 clear a w h
 rintro⟨z3,x4,b5⟩
 change ∀ a w,St All (SO S [OB.var b5 [Zb d.consts,Zb d.vars,YD d.frames,.lit z3],OB.row z3 33 1 ((usL d d.frames.length).map YE),OB.row vo 3 1 (out.map ZcP),OB.set keyI z2.1.1 z2.1.2,OB.set keyI z1.1.1 z1.1.2]) w0 77 [(35,.int ((ZaC (usL d d.frames.length) f.toNat).length:Nat)),(34,.rd (Xj (ZaC (usL d d.frames.length) f.toNat))),(1,.int (f.toNat:Nat)),(2,.int (t.toNat:Nat)),(8,.ptr [Zb d.consts,Zb d.vars,YD d.frames,Z4 (usL d d.frames.length)]),(36,.int (k:Nat)),(10,.lit vo),(12,.int (ge (ZaC (usL d d.frames.length) f.toNat) k)),(13,.at b5 0)] (XO J S w0.heap.size [OB.var b5 [Zb d.consts,Zb d.vars,YD d.frames,.lit z3],OB.row z3 33 1 ((usL d d.frames.length).map YE),OB.row vo 3 1 (out.map ZcP),OB.set keyI z2.1.1 z2.1.2,OB.set keyI z1.1.1 z1.1.2]) a w→_
 refine nx (ln 1 fun hl3=>?_)
 refine Zj (Zw (snK 1 tb rfl ?_))
 refine sq (.at b5 0) rfl rfl (lb rfl) (fun _ _ h=>Zk rfl (h.get 0 rfl) h.x) ?_
 refine sq (.at b5 3) rfl rfl (lb rfl) (fun _ _ h=>Zm Zbk rfl (h.get 0 rfl) h.x) ?_
 refine sq (.lit z3) rfl rfl (lb rfl) (fun _ _ h=>Zo (cs:=[Zb d.consts,Zb d.vars,YD d.frames,.lit z3]) ZmP rfl (Zd h.x (mo 0 rfl)) (h.get 0 rfl) rfl h.x) ?_
 refine snK 1 tb rfl ?_
 refine sq (.lit (X5 z3 (((ge (ZaC (usL d d.frames.length) f.toNat) k).toNat)*1))) rfl rfl (lb rfl) (fun _ _ h=>Y8 (i:=(ge (ZaC (usL d d.frames.length) f.toNat) k)) Za4 rfl (Zd h.x (mo 1 rfl)) (h.get 1 rfl) (h.get 0 rfl) sfz (by rw[List.length_map];exact sfz) h.x) ?_
 refine kw pm1 ?_
 refine Zf4 (c:=Xj ([]:List Int)) (i:=(ge (ZaC (usL d d.frames.length) f.toNat) k).toNat) hJ hJ0 ZlU rfl rfl rfl (by rw[List.length_map];exact sfz) (fun a w h=>⟨(h.get 0 rfl),(Zbg (Rel.of_lit (Go.Value.slice none 0 0)))⟩) ?_
 rw[show((usL d d.frames.length).map YE).set ((ge (ZaC (usL d d.frames.length) f.toNat) k).toNat) [Xj ([]:List Int)]=((usL d d.frames.length).set ((ge (ZaC (usL d d.frames.length) f.toNat) k).toNat) ([]:List Int)).map YE from List.map_set.symm]
 refine seK [6,7,8,9,10,11,12,13,14] [_,_,_,_,_,_,_,_,_] rfl ?_
 refine kw pm1 ?_
 refine kw pm1 ?_
 refine kw (B:=St All (SO S [OB.gr 33 b5 d (z3,(usL d d.frames.length).set ((ge (ZaC (usL d d.frames.length) f.toNat) k).toNat) ([]:List Int)),OB.row vo 3 1 (out.map ZcP),OB.set keyI z2.1.1 z2.1.2,OB.set keyI z1.1.1 z1.1.2]) w0 77 [(35,.int ((ZaC (usL d d.frames.length) f.toNat).length:Nat)),(34,.rd (Xj (ZaC (usL d d.frames.length) f.toNat))),(1,.int (f.toNat:Nat)),(2,.int (t.toNat:Nat)),(8,.ptr [Zb d.consts,Zb d.vars,YD d.frames,Z4 (usL d d.frames.length)]),(36,.int (k:Nat)),(10,.lit vo),(12,.int (ge (ZaC (usL d d.frames.length) f.toNat) k)),(13,.at b5 0)] (XO J S w0.heap.size [OB.gr 33 b5 d (z3,(usL d d.frames.length).set ((ge (ZaC (usL d d.frames.length) f.toNat) k).toNat) ([]:List Int)),OB.row vo 3 1 (out.map ZcP),OB.set keyI z2.1.1 z2.1.2,OB.set keyI z1.1.1 z1.1.2])) (fun h=>ZhB h) ?_
 refine nx (tw (fun h=>ZeI hS h (m:=8) (s:=13) rfl) ?_)
 refine tsq ?_
 refine snK 2 tb rfl ?_
 refine Y7 (O:=[]) (R:=[OB.row vo 3 1 (out.map ZcP),OB.set keyI z2.1.1 z2.1.2,OB.set keyI z1.1.1 z1.1.2]) (ZdJ hJ (d:=d) (us:=((z3,(usL d d.frames.length).set ((ge (ZaC (usL d d.frames.length) f.toNat) k).toNat) ([]:List Int)).2)) (n:=f.toNat) (by first | exact YV _ _ | exact Zd8 (YV _ _) _) (by first | omega | (rw[List.length_set];omega))) Zeh rfl rfl rfl (lb rfl) hS hJ0 Zq (fun a w h=>(Za (h.get 1 rfl) (Za (h.get 0 rfl) Ze))) fun z6=>?_
 refine snK 1 tb rfl ?_
 refine sq (.bool (decide ((t.toNat:Int)∈z6.1.2))) rfl rfl (lb rfl) (fun _ _ h=>Z8 (Kd:=keyI) (xs:=z6.1.2) Xs ZM (t.toNat:Int) rfl (Zd h.x (mo 0 rfl)) (h.get 1 rfl) (h.get 0 rfl) h.x) ?_
 refine snK 1 tb rfl ?_
 refine seK [0,7,8,9,10,11,12,13,14] [_,_,_,_,_,_,_,_,_] rfl ?_
 refine nx (cj 0 (fun hb5=>?_) fun hb5=>?_)
 have e6:ZhY (usL d d.frames.length) f.toNat t.toNat (ge (ZaC (usL d d.frames.length) f.toNat) k)=true:=Zjl hb4 fun h=>Zji hb5 ((z6.2.iff _).2 h)
 refine Zw (snK 2 tb rfl ?_)
 refine sq (.rd (Xj ([(ge (ZaC (usL d d.frames.length) f.toNat) k)]))) rfl rfl (lb rfl) (fun _ _ h=>Yx Yc Ziv rfl (h.get 0 rfl) (Zr hS _ h.keep h.x _ (Nat.le_refl _)) (jo hJ h.x)) ?_
 refine kw pm1 ?_
 refine YX (f:=ZcP) (m:=2) (s:=71) out ([(ge (ZaC (usL d d.frames.length) f.toNat) k)]) (fun _=>rfl) ZjX hJ hJ0 rfl rfl rfl (lb rfl) rfl rfl (fun a w h=>(h.get 0 rfl)) (by have:=Zi1 (usL d d.frames.length) f.toNat;simp;omega) (by have:=Zi1 (usL d d.frames.length) f.toNat;simp;omega) fun v7=>?_
 refine snK 1 tb rfl ?_
 refine seK [0,2,6,7,8,9,10,11] [_,_,_,_,_,_,_,_] rfl ?_
 refine nx (ln 1 fun hl4=>?_)
 refine YQ tb hJ [0,2,3,4,5,6,1001] [.int (k+1:Nat),_] [0] [_,_,_,_,_,_,_] rfl ⟨Yv,trivial⟩ ?_
 refine kw pm1 ?_
 refine kw Zy ?_
 exact Xi (k+1,v7,out++([(ge (ZaC (usL d d.frames.length) f.toNat) k)])) [1,2,3,4,5,6,0] ⟨by omega,by rw[Yo (by omega),e6,←f1_2];simp,by first | omega | (simp;omega)⟩
 have e6:ZhY (usL d d.frames.length) f.toNat t.toNat (ge (ZaC (usL d d.frames.length) f.toNat) k)=false:=Zjm hb4 ((z6.2.iff _).1 (ZhW hb5))
 refine Zc (nx (YQ tb hJ [1,2,3,4,5,7,1001] [.int (k+1:Nat),_] [0] [_,_,_,_,_,_,_] rfl ⟨Yv,trivial⟩ ?_))
 refine kw Zy ?_
 exact Xi (k+1,vo,out) [0,1,2,3,4,6,5] ⟨by omega,by rw[Yo (by omega),e6,←f1_2];simp,by first | omega | (simp;omega)⟩
 try simp at hb3
 refine Zx (nx (qso tb hJ [1001,1002] [_,_,_] [_,_] ?_))
 refine tw (fun h=>Yq hS h (m:=0) (s:=6) rfl) ?_
 exact Zg (fun a w h=>X1 (m:=0) (k:=1) rfl (YM h) rfl rfl (congrArg (fun z=>AV.rd (Xj z)) (show out=(if Zft d f t=0 then ZpM (usL d d.frames.length) f.toNat t.toNat else [])from by first | exact c1.symm | exact c0.symm | (rw[if_neg c9];done) | (rw[if_pos c0,f1_2,ZC (by omega)];rfl))) (eI (by first | exact c1.symm | exact c0.symm | (rw[if_neg c9];done) | (rw[if_pos c0,f1_2,ZC (by omega)];rfl))))
end Go.Proofs.YtapelgeodldlcaaGreatDoor
namespace Go.Proofs.YtapelgeodldlcaaGreatDoor
def Y1 (s:ByteArray) (ys:List ByteArray):Fr:=⟨s,decide (((ys.length:Nat):Int)>0),[],[],[(⟨#[124,45]⟩:ByteArray),(⟨#[120]⟩:ByteArray)],[],[],ys⟩
def smallD:Db:=⟨[(⟨#[124,45]⟩:ByteArray),(⟨#[120]⟩:ByteArray)],[],[Y1 ⟨#[97]⟩ [],Y1 ⟨#[98]⟩ [],Y1 ⟨#[116]⟩ [⟨#[97]⟩],Y1 ⟨#[117]⟩ [⟨#[116]⟩,⟨#[98]⟩]]⟩
theorem smChd:Zk2 smallD 3=0:=by kernel_rfl
theorem smRd:rdE smallD [3,0]=0:=by kernel_rfl
theorem Zsu:smallD.frames.length=4:=rfl
theorem smUs:usL smallD 4=[[],[],[0],[1,2]]:=by kernel_rfl
theorem rch20:Rch [[],[],[0],[1,2]] 2 0:=.one (by decide)
theorem rch30:Rch [[],[],[0],[1,2]] 3 0:=.step _ 2 _ (by decide) rch20
theorem rch31:Rch [[],[],[0],[1,2]] 3 1:=.one (by decide)
theorem rch32:Rch [[],[],[0],[1,2]] 3 2:=.one (by decide)
theorem rch1:Rch ([[],[],[0],[1,2]].set 1 []) 3 0:=.step _ 2 _ (by decide) (.one (by decide))
theorem Zjf {us:List (List Int)} {a b:Int} (h:Rch us a b) (h0:ge us a.toNat=[]):a=b:=by
 cases h with
 | refl=>rfl
 | step _ x _ hx k=>rw[h0]at hx;cases hx
theorem rch2:¬ Rch ([[],[],[0],[1,2]].set 2 []) 3 0:=fun h=>by
 cases h with
 | step _ x _ hx hk=>
  have:x=1∨x=2:=by simpa using(show x∈[1,2]from hx)
  rcases this with rfl | rfl
  · exact absurd (Zjf hk rfl) (by decide)
  · exact absurd (Zjf hk rfl) (by decide)
theorem smNed:ZhV (usL smallD smallD.frames.length) (3:Int).toNat=[0,1,2]:=by
 rw[Zsu,smUs]
 unfold ZhV
 rw[show(3:Int).toNat=3 from rfl,show List.range 3=[0,1,2]from rfl]
 have h0:=rch30
 have h1:=rch31
 have h2:=rch32
 simp[List.filter,h0,h1,h2]
theorem smMst:ZpM (usL smallD smallD.frames.length) (3:Int).toNat (0:Int).toNat=[2]:=by
 have hn:=smNed
 rw[Zsu,smUs]at hn ⊢
 have h1:ZhY [[],[],[0],[1,2]] 3 0 0=false:=ZhX (by decide)
 have h2:ZhY [[],[],[0],[1,2]] 3 0 1=false:=Zjm (by decide) rch1
 have h3:ZhY [[],[],[0],[1,2]] 3 0 2=true:=Zjl (by decide) rch2
 have h4:ZhY [[],[],[0],[1,2]] 3 0 3=false:=ZhX (by decide)
 unfold ZpM ZaC
 rw[hn]
 simp[List.filter,h1,h2,h3,h4]
theorem Zre:Zft smallD 3 0=0:=by
 rw[Zft,smRd,Zsu,smUs]
 have:=rch30
 simp[this]
theorem smHw:∀ f∈smallD.frames,f.wide.length*32≤140737488351232:=by
 intro f hf
 have:f=Y1 ⟨#[97]⟩ []∨f=Y1 ⟨#[98]⟩ []∨f=Y1 ⟨#[116]⟩ [⟨#[97]⟩]∨f=Y1 ⟨#[117]⟩ [⟨#[116]⟩,⟨#[98]⟩]:=by simpa [smallD]using hf
 rcases this with rfl | rfl | rfl | rfl<;>exact Nat.zero_le _
def ZtF (d:Db):Bool:=decide (((d.frames.length:Nat):Int)≤(30:Int))&& !(d.frames.any fun f'=>decide ((200:Int)< ((f'.proof.length:Nat):Int)))
end Go.Proofs.YtapelgeodldlcaaGreatDoor
set_option maxHeartbeats 8000000
set_option maxRecDepth 100000
namespace Go.Proofs.YtapelgeodldlcaaGreatDoor
open Go.RowKit
theorem Zc6 {J:World→Prop} (hJ:Stab J) (s:ByteArray) (ys:List ByteArray)  :Fn Tryz.prog J 28 [.str s,.rd (Zb ys)] (.agg (frC (Y1 s ys))):=by
 refine Zu (N:=12) Tryz.func28 rfl rfl (lb rfl) fun S w0 hS hJ0=>?_
 refine tw Yj ?_
 refine ln 1 fun hl1=>?_
 refine tsq ?_
 refine ZP XH hJ rfl rfl rfl (lb rfl) fun b1=>?_
 refine seK [0,1,2] [_,_,_] rfl ?_
 refine nx (tsq ?_)
 refine snK 2 tb rfl ?_
 refine sq (.int (ys.length:Nat)) rfl rfl (lb rfl) (fun _ _ h=>ZaD Zv rfl (h.get 0 rfl) h.x) ?_
 refine snK 1 tb rfl ?_
 refine sq (.rd (Zb ([(⟨#[124,45]⟩:ByteArray),(⟨#[120]⟩:ByteArray)]:List ByteArray))) rfl rfl (lb rfl) (fun a _ h=>Qt (k:=2) (us:=[a.eval (Go.Operand.const (Go.Value.string { data:= #[124,45] })),a.eval (Go.Operand.const (Go.Value.string { data:= #[120] }))]) Zn Zdm rfl (by simp) (Zz (Rel.of_lit (Go.Value.string { data:= #[124,45] }) (lb rfl)) (Zz (Rel.of_lit (Go.Value.string { data:= #[120] }) (lb rfl)) Yb)) rfl (by decide) (by decide) (Zr hS _ h.keep h.x _ (Nat.le_refl _)) (jo hJ h.x)) ?_
 refine snK 1 tb rfl ?_
 refine sq (.agg (frC (⟨s,decide ((0:Int)< (ys.length:Int)),[],[],([(⟨#[124,45]⟩:ByteArray),(⟨#[120]⟩:ByteArray)]:List ByteArray),[],[],ys⟩:Fr))) rfl rfl (lb rfl) (fun _ _ h=>Zmg (s:=s) (b:=(decide ((0:Int)< (ys.length:Int)))) (xs:=([(⟨#[124,45]⟩:ByteArray),(⟨#[120]⟩:ByteArray)]:List ByteArray)) (ys:=ys) Zlb rfl (h.get 5 rfl) (h.get 2 rfl) (h.get 1 rfl) (h.get 0 rfl) h.x) ?_
 refine ZE (b:=b1) (off:=0) (cs:=[.lit (.string (⟨#[]⟩:ByteArray)),.lit (.bool false),YW ([]:List Hy),Xm ([]:List Pr),Zb ([]:List ByteArray),YW ([]:List Hy),Xm ([]:List Pr),Zb ([]:List ByteArray)]) (es:=[.lit (.string ((⟨s,decide ((0:Int)< (ys.length:Int)),[],[],([(⟨#[124,45]⟩:ByteArray),(⟨#[120]⟩:ByteArray)]:List ByteArray),[],[],ys⟩:Fr).label)),.lit (.bool ((⟨s,decide ((0:Int)< (ys.length:Int)),[],[],([(⟨#[124,45]⟩:ByteArray),(⟨#[120]⟩:ByteArray)]:List ByteArray),[],[],ys⟩:Fr).thm)),YW ((⟨s,decide ((0:Int)< (ys.length:Int)),[],[],([(⟨#[124,45]⟩:ByteArray),(⟨#[120]⟩:ByteArray)]:List ByteArray),[],[],ys⟩:Fr).hyps),Xm ((⟨s,decide ((0:Int)< (ys.length:Int)),[],[],([(⟨#[124,45]⟩:ByteArray),(⟨#[120]⟩:ByteArray)]:List ByteArray),[],[],ys⟩:Fr).apart),Zb ((⟨s,decide ((0:Int)< (ys.length:Int)),[],[],([(⟨#[124,45]⟩:ByteArray),(⟨#[120]⟩:ByteArray)]:List ByteArray),[],[],ys⟩:Fr).text),YW ((⟨s,decide ((0:Int)< (ys.length:Int)),[],[],([(⟨#[124,45]⟩:ByteArray),(⟨#[120]⟩:ByteArray)]:List ByteArray),[],[],ys⟩:Fr).dummies),Xm ((⟨s,decide ((0:Int)< (ys.length:Int)),[],[],([(⟨#[124,45]⟩:ByteArray),(⟨#[120]⟩:ByteArray)]:List ByteArray),[],[],ys⟩:Fr).wide),Zb ((⟨s,decide ((0:Int)< (ys.length:Int)),[],[],([(⟨#[124,45]⟩:ByteArray),(⟨#[120]⟩:ByteArray)]:List ByteArray),[],[],ys⟩:Fr).proof)]) (news:=[.lit (.string ((⟨s,decide ((0:Int)< (ys.length:Int)),[],[],([(⟨#[124,45]⟩:ByteArray),(⟨#[120]⟩:ByteArray)]:List ByteArray),[],[],ys⟩:Fr).label)),.lit (.bool ((⟨s,decide ((0:Int)< (ys.length:Int)),[],[],([(⟨#[124,45]⟩:ByteArray),(⟨#[120]⟩:ByteArray)]:List ByteArray),[],[],ys⟩:Fr).thm)),YW ((⟨s,decide ((0:Int)< (ys.length:Int)),[],[],([(⟨#[124,45]⟩:ByteArray),(⟨#[120]⟩:ByteArray)]:List ByteArray),[],[],ys⟩:Fr).hyps),Xm ((⟨s,decide ((0:Int)< (ys.length:Int)),[],[],([(⟨#[124,45]⟩:ByteArray),(⟨#[120]⟩:ByteArray)]:List ByteArray),[],[],ys⟩:Fr).apart),Zb ((⟨s,decide ((0:Int)< (ys.length:Int)),[],[],([(⟨#[124,45]⟩:ByteArray),(⟨#[120]⟩:ByteArray)]:List ByteArray),[],[],ys⟩:Fr).text),YW ((⟨s,decide ((0:Int)< (ys.length:Int)),[],[],([(⟨#[124,45]⟩:ByteArray),(⟨#[120]⟩:ByteArray)]:List ByteArray),[],[],ys⟩:Fr).dummies),Xm ((⟨s,decide ((0:Int)< (ys.length:Int)),[],[],([(⟨#[124,45]⟩:ByteArray),(⟨#[120]⟩:ByteArray)]:List ByteArray),[],[],ys⟩:Fr).wide),Zb ((⟨s,decide ((0:Int)< (ys.length:Int)),[],[],([(⟨#[124,45]⟩:ByteArray),(⟨#[120]⟩:ByteArray)]:List ByteArray),[],[],ys⟩:Fr).proof)]) hJ hJ0 ZbY rfl rfl rfl (lb rfl) rfl (fun a w h=>⟨(h.get 7 rfl),(h.get 0 rfl)⟩) ?_
 refine seK [2,7] [_,_] rfl ?_
 refine nx (ln 0 fun hl2=>?_)
 exact Zg (fun a w h=>QW (cs:=[.lit (.string ((⟨s,decide ((0:Int)< (ys.length:Int)),[],[],([(⟨#[124,45]⟩:ByteArray),(⟨#[120]⟩:ByteArray)]:List ByteArray),[],[],ys⟩:Fr).label)),.lit (.bool ((⟨s,decide ((0:Int)< (ys.length:Int)),[],[],([(⟨#[124,45]⟩:ByteArray),(⟨#[120]⟩:ByteArray)]:List ByteArray),[],[],ys⟩:Fr).thm)),YW ((⟨s,decide ((0:Int)< (ys.length:Int)),[],[],([(⟨#[124,45]⟩:ByteArray),(⟨#[120]⟩:ByteArray)]:List ByteArray),[],[],ys⟩:Fr).hyps),Xm ((⟨s,decide ((0:Int)< (ys.length:Int)),[],[],([(⟨#[124,45]⟩:ByteArray),(⟨#[120]⟩:ByteArray)]:List ByteArray),[],[],ys⟩:Fr).apart),Zb ((⟨s,decide ((0:Int)< (ys.length:Int)),[],[],([(⟨#[124,45]⟩:ByteArray),(⟨#[120]⟩:ByteArray)]:List ByteArray),[],[],ys⟩:Fr).text),YW ((⟨s,decide ((0:Int)< (ys.length:Int)),[],[],([(⟨#[124,45]⟩:ByteArray),(⟨#[120]⟩:ByteArray)]:List ByteArray),[],[],ys⟩:Fr).dummies),Xm ((⟨s,decide ((0:Int)< (ys.length:Int)),[],[],([(⟨#[124,45]⟩:ByteArray),(⟨#[120]⟩:ByteArray)]:List ByteArray),[],[],ys⟩:Fr).wide),Zb ((⟨s,decide ((0:Int)< (ys.length:Int)),[],[],([(⟨#[124,45]⟩:ByteArray),(⟨#[120]⟩:ByteArray)]:List ByteArray),[],[],ys⟩:Fr).proof)]) (m:=1) rfl ZfX h rfl rfl (show([.lit (.string ((⟨s,decide ((0:Int)< (ys.length:Int)),[],[],([(⟨#[124,45]⟩:ByteArray),(⟨#[120]⟩:ByteArray)]:List ByteArray),[],[],ys⟩:Fr).label)),.lit (.bool ((⟨s,decide ((0:Int)< (ys.length:Int)),[],[],([(⟨#[124,45]⟩:ByteArray),(⟨#[120]⟩:ByteArray)]:List ByteArray),[],[],ys⟩:Fr).thm)),YW ((⟨s,decide ((0:Int)< (ys.length:Int)),[],[],([(⟨#[124,45]⟩:ByteArray),(⟨#[120]⟩:ByteArray)]:List ByteArray),[],[],ys⟩:Fr).hyps),Xm ((⟨s,decide ((0:Int)< (ys.length:Int)),[],[],([(⟨#[124,45]⟩:ByteArray),(⟨#[120]⟩:ByteArray)]:List ByteArray),[],[],ys⟩:Fr).apart),Zb ((⟨s,decide ((0:Int)< (ys.length:Int)),[],[],([(⟨#[124,45]⟩:ByteArray),(⟨#[120]⟩:ByteArray)]:List ByteArray),[],[],ys⟩:Fr).text),YW ((⟨s,decide ((0:Int)< (ys.length:Int)),[],[],([(⟨#[124,45]⟩:ByteArray),(⟨#[120]⟩:ByteArray)]:List ByteArray),[],[],ys⟩:Fr).dummies),Xm ((⟨s,decide ((0:Int)< (ys.length:Int)),[],[],([(⟨#[124,45]⟩:ByteArray),(⟨#[120]⟩:ByteArray)]:List ByteArray),[],[],ys⟩:Fr).wide),Zb ((⟨s,decide ((0:Int)< (ys.length:Int)),[],[],([(⟨#[124,45]⟩:ByteArray),(⟨#[120]⟩:ByteArray)]:List ByteArray),[],[],ys⟩:Fr).proof)]:List CD)=[.lit (.string ((Y1 s ys).label)),.lit (.bool ((Y1 s ys).thm)),YW ((Y1 s ys).hyps),Xm ((Y1 s ys).apart),Zb ((Y1 s ys).text),YW ((Y1 s ys).dummies),Xm ((Y1 s ys).wide),Zb ((Y1 s ys).proof)]from rfl))
theorem Zr5 {J:World→Prop} (hJ:Stab J)   :Fn Tryz.prog J 12 [] (.agg (dbC smallD)):=by
 refine Zu (N:=15) Tryz.func12 rfl rfl (lb rfl) fun S w0 hS hJ0=>?_
 refine tw Yj ?_
 refine tsq ?_
 refine ZP ZbG hJ rfl rfl rfl (lb rfl) fun b1=>?_
 refine seK [0] [_] rfl ?_
 refine nx (qso tb hJ [0,1000] [_] [_,_] ?_)
 refine tsq ?_
 refine sq (.rd (Zb ([(⟨#[124,45]⟩:ByteArray),(⟨#[120]⟩:ByteArray)]:List ByteArray))) rfl rfl (lb rfl) (fun a _ h=>Qt (k:=2) (us:=[a.eval (Go.Operand.const (Go.Value.string { data:= #[124,45] })),a.eval (Go.Operand.const (Go.Value.string { data:= #[120] }))]) Zn Zdm rfl (by simp) (Zz (Rel.of_lit (Go.Value.string { data:= #[124,45] }) (lb rfl)) (Zz (Rel.of_lit (Go.Value.string { data:= #[120] }) (lb rfl)) Yb)) rfl (by decide) (by decide) (Zr hS _ h.keep h.x _ (Nat.le_refl _)) (jo hJ h.x)) ?_
 refine snK 1 tb rfl ?_
 refine sq (.agg (frC (Y1 (⟨#[97]⟩:ByteArray) ([]:List ByteArray)))) rfl rfl (lb rfl) (fun _ _ h=>Zbu ((Zc6 hJ (⟨#[97]⟩:ByteArray) ([]:List ByteArray)).r) ZfK rfl (h.get 0 rfl) (Zr hS _ h.keep h.x) (h.x.1) Zq (Za (Rel.of_lit (Go.Value.string { data:= #[97] }) (lb rfl)) (Za (Zbg (Rel.of_lit (Go.Value.slice none 0 0))) Ze)) (jo hJ h.x)) ?_
 refine snK 1 tb rfl ?_
 refine sq (.agg (frC (Y1 (⟨#[98]⟩:ByteArray) ([]:List ByteArray)))) rfl rfl (lb rfl) (fun _ _ h=>Zbu ((Zc6 hJ (⟨#[98]⟩:ByteArray) ([]:List ByteArray)).r) ZfK rfl (h.get 0 rfl) (Zr hS _ h.keep h.x) (h.x.1) Zq (Za (Rel.of_lit (Go.Value.string { data:= #[98] }) (lb rfl)) (Za (Zbg (Rel.of_lit (Go.Value.slice none 0 0))) Ze)) (jo hJ h.x)) ?_
 refine snK 1 tb rfl ?_
 refine sq (.rd (Zb ([(⟨#[97]⟩:ByteArray)]))) rfl rfl (lb rfl) (fun _ _ h=>Yx Zn Zby rfl (Rel.of_lit (Go.Value.string { data:= #[97] }) (lb rfl)) (Zr hS _ h.keep h.x _ (Nat.le_refl _)) (jo hJ h.x)) ?_
 refine sq (.agg (frC (Y1 (⟨#[116]⟩:ByteArray) ([(⟨#[97]⟩:ByteArray)])))) rfl rfl (lb rfl) (fun _ _ h=>Zbu ((Zc6 hJ (⟨#[116]⟩:ByteArray) ([(⟨#[97]⟩:ByteArray)])).r) ZfK rfl (h.get 1 rfl) (Zr hS _ h.keep h.x) (h.x.1) Zq (Za (Rel.of_lit (Go.Value.string { data:= #[116] }) (lb rfl)) (Za (h.get 0 rfl) Ze)) (jo hJ h.x)) ?_
 refine snK 1 tb rfl ?_
 refine sq (.rd (Zb ([(⟨#[116]⟩:ByteArray),(⟨#[98]⟩:ByteArray)]:List ByteArray))) rfl rfl (lb rfl) (fun a _ h=>Qt (k:=2) (us:=[a.eval (Go.Operand.const (Go.Value.string { data:= #[116] })),a.eval (Go.Operand.const (Go.Value.string { data:= #[98] }))]) Zn Zdm rfl (by simp) (Zz (Rel.of_lit (Go.Value.string { data:= #[116] }) (lb rfl)) (Zz (Rel.of_lit (Go.Value.string { data:= #[98] }) (lb rfl)) Yb)) rfl (by decide) (by decide) (Zr hS _ h.keep h.x _ (Nat.le_refl _)) (jo hJ h.x)) ?_
 refine sq (.agg (frC (Y1 (⟨#[117]⟩:ByteArray) ([(⟨#[116]⟩:ByteArray),(⟨#[98]⟩:ByteArray)]:List ByteArray)))) rfl rfl (lb rfl) (fun _ _ h=>Zbu ((Zc6 hJ (⟨#[117]⟩:ByteArray) ([(⟨#[116]⟩:ByteArray),(⟨#[98]⟩:ByteArray)]:List ByteArray)).r) ZfK rfl (h.get 1 rfl) (Zr hS _ h.keep h.x) (h.x.1) Zq (Za (Rel.of_lit (Go.Value.string { data:= #[117] }) (lb rfl)) (Za (h.get 0 rfl) Ze)) (jo hJ h.x)) ?_
 refine sq (.rd (YD ([(Y1 (⟨#[97]⟩:ByteArray) ([]:List ByteArray)),(Y1 (⟨#[98]⟩:ByteArray) ([]:List ByteArray)),(Y1 (⟨#[116]⟩:ByteArray) ([(⟨#[97]⟩:ByteArray)])),(Y1 (⟨#[117]⟩:ByteArray) ([(⟨#[116]⟩:ByteArray),(⟨#[98]⟩:ByteArray)]:List ByteArray))]))) rfl rfl (lb rfl) (fun _ _ h=>Zky Ye (fun w=>by kernel_rfl) rfl (h.get 8 rfl) (h.get 6 rfl) (h.get 3 rfl) (h.get 0 rfl) (Zr hS _ h.keep h.x _ (Nat.le_refl _)) (jo hJ h.x)) ?_
 refine sq (.agg (dbC (⟨([(⟨#[124,45]⟩:ByteArray),(⟨#[120]⟩:ByteArray)]:List ByteArray),[],[(Y1 (⟨#[97]⟩:ByteArray) ([]:List ByteArray)),(Y1 (⟨#[98]⟩:ByteArray) ([]:List ByteArray)),(Y1 (⟨#[116]⟩:ByteArray) ([(⟨#[97]⟩:ByteArray)])),(Y1 (⟨#[117]⟩:ByteArray) ([(⟨#[116]⟩:ByteArray),(⟨#[98]⟩:ByteArray)]:List ByteArray))]⟩:Db))) rfl rfl (lb rfl) (fun _ _ h=>Zmh (xs:=([(⟨#[124,45]⟩:ByteArray),(⟨#[120]⟩:ByteArray)]:List ByteArray)) (fs:=([(Y1 (⟨#[97]⟩:ByteArray) ([]:List ByteArray)),(Y1 (⟨#[98]⟩:ByteArray) ([]:List ByteArray)),(Y1 (⟨#[116]⟩:ByteArray) ([(⟨#[97]⟩:ByteArray)])),(Y1 (⟨#[117]⟩:ByteArray) ([(⟨#[116]⟩:ByteArray),(⟨#[98]⟩:ByteArray)]:List ByteArray))])) Zlc rfl (h.get 11 rfl) (h.get 0 rfl) h.x) ?_
 refine ZE (b:=b1) (off:=0) (cs:=[Zb ([]:List ByteArray),Zb ([]:List ByteArray),YD ([]:List Fr)]) (es:=[Zb ((⟨([(⟨#[124,45]⟩:ByteArray),(⟨#[120]⟩:ByteArray)]:List ByteArray),[],[(Y1 (⟨#[97]⟩:ByteArray) ([]:List ByteArray)),(Y1 (⟨#[98]⟩:ByteArray) ([]:List ByteArray)),(Y1 (⟨#[116]⟩:ByteArray) ([(⟨#[97]⟩:ByteArray)])),(Y1 (⟨#[117]⟩:ByteArray) ([(⟨#[116]⟩:ByteArray),(⟨#[98]⟩:ByteArray)]:List ByteArray))]⟩:Db).consts),Zb ((⟨([(⟨#[124,45]⟩:ByteArray),(⟨#[120]⟩:ByteArray)]:List ByteArray),[],[(Y1 (⟨#[97]⟩:ByteArray) ([]:List ByteArray)),(Y1 (⟨#[98]⟩:ByteArray) ([]:List ByteArray)),(Y1 (⟨#[116]⟩:ByteArray) ([(⟨#[97]⟩:ByteArray)])),(Y1 (⟨#[117]⟩:ByteArray) ([(⟨#[116]⟩:ByteArray),(⟨#[98]⟩:ByteArray)]:List ByteArray))]⟩:Db).vars),YD ((⟨([(⟨#[124,45]⟩:ByteArray),(⟨#[120]⟩:ByteArray)]:List ByteArray),[],[(Y1 (⟨#[97]⟩:ByteArray) ([]:List ByteArray)),(Y1 (⟨#[98]⟩:ByteArray) ([]:List ByteArray)),(Y1 (⟨#[116]⟩:ByteArray) ([(⟨#[97]⟩:ByteArray)])),(Y1 (⟨#[117]⟩:ByteArray) ([(⟨#[116]⟩:ByteArray),(⟨#[98]⟩:ByteArray)]:List ByteArray))]⟩:Db).frames)]) (news:=[Zb ((⟨([(⟨#[124,45]⟩:ByteArray),(⟨#[120]⟩:ByteArray)]:List ByteArray),[],[(Y1 (⟨#[97]⟩:ByteArray) ([]:List ByteArray)),(Y1 (⟨#[98]⟩:ByteArray) ([]:List ByteArray)),(Y1 (⟨#[116]⟩:ByteArray) ([(⟨#[97]⟩:ByteArray)])),(Y1 (⟨#[117]⟩:ByteArray) ([(⟨#[116]⟩:ByteArray),(⟨#[98]⟩:ByteArray)]:List ByteArray))]⟩:Db).consts),Zb ((⟨([(⟨#[124,45]⟩:ByteArray),(⟨#[120]⟩:ByteArray)]:List ByteArray),[],[(Y1 (⟨#[97]⟩:ByteArray) ([]:List ByteArray)),(Y1 (⟨#[98]⟩:ByteArray) ([]:List ByteArray)),(Y1 (⟨#[116]⟩:ByteArray) ([(⟨#[97]⟩:ByteArray)])),(Y1 (⟨#[117]⟩:ByteArray) ([(⟨#[116]⟩:ByteArray),(⟨#[98]⟩:ByteArray)]:List ByteArray))]⟩:Db).vars),YD ((⟨([(⟨#[124,45]⟩:ByteArray),(⟨#[120]⟩:ByteArray)]:List ByteArray),[],[(Y1 (⟨#[97]⟩:ByteArray) ([]:List ByteArray)),(Y1 (⟨#[98]⟩:ByteArray) ([]:List ByteArray)),(Y1 (⟨#[116]⟩:ByteArray) ([(⟨#[97]⟩:ByteArray)])),(Y1 (⟨#[117]⟩:ByteArray) ([(⟨#[116]⟩:ByteArray),(⟨#[98]⟩:ByteArray)]:List ByteArray))]⟩:Db).frames)]) hJ hJ0 ZdB rfl rfl rfl (lb rfl) rfl (fun a w h=>⟨(h.get 13 rfl),(h.get 0 rfl)⟩) ?_
 refine seK [1,3,6,12,13] [_,_,_,_,_] rfl ?_
 refine nx (ln 0 fun hl1=>?_)
 refine ln 1 fun hl2=>?_
 refine ln 2 fun hl3=>?_
 refine ln 3 fun hl4=>?_
 exact Zg (fun a w h=>QW (cs:=[Zb ((⟨([(⟨#[124,45]⟩:ByteArray),(⟨#[120]⟩:ByteArray)]:List ByteArray),[],[(Y1 (⟨#[97]⟩:ByteArray) ([]:List ByteArray)),(Y1 (⟨#[98]⟩:ByteArray) ([]:List ByteArray)),(Y1 (⟨#[116]⟩:ByteArray) ([(⟨#[97]⟩:ByteArray)])),(Y1 (⟨#[117]⟩:ByteArray) ([(⟨#[116]⟩:ByteArray),(⟨#[98]⟩:ByteArray)]:List ByteArray))]⟩:Db).consts),Zb ((⟨([(⟨#[124,45]⟩:ByteArray),(⟨#[120]⟩:ByteArray)]:List ByteArray),[],[(Y1 (⟨#[97]⟩:ByteArray) ([]:List ByteArray)),(Y1 (⟨#[98]⟩:ByteArray) ([]:List ByteArray)),(Y1 (⟨#[116]⟩:ByteArray) ([(⟨#[97]⟩:ByteArray)])),(Y1 (⟨#[117]⟩:ByteArray) ([(⟨#[116]⟩:ByteArray),(⟨#[98]⟩:ByteArray)]:List ByteArray))]⟩:Db).vars),YD ((⟨([(⟨#[124,45]⟩:ByteArray),(⟨#[120]⟩:ByteArray)]:List ByteArray),[],[(Y1 (⟨#[97]⟩:ByteArray) ([]:List ByteArray)),(Y1 (⟨#[98]⟩:ByteArray) ([]:List ByteArray)),(Y1 (⟨#[116]⟩:ByteArray) ([(⟨#[97]⟩:ByteArray)])),(Y1 (⟨#[117]⟩:ByteArray) ([(⟨#[116]⟩:ByteArray),(⟨#[98]⟩:ByteArray)]:List ByteArray))]⟩:Db).frames)]) (m:=4) rfl Zbs h rfl rfl (show([Zb ((⟨([(⟨#[124,45]⟩:ByteArray),(⟨#[120]⟩:ByteArray)]:List ByteArray),[],[(Y1 (⟨#[97]⟩:ByteArray) ([]:List ByteArray)),(Y1 (⟨#[98]⟩:ByteArray) ([]:List ByteArray)),(Y1 (⟨#[116]⟩:ByteArray) ([(⟨#[97]⟩:ByteArray)])),(Y1 (⟨#[117]⟩:ByteArray) ([(⟨#[116]⟩:ByteArray),(⟨#[98]⟩:ByteArray)]:List ByteArray))]⟩:Db).consts),Zb ((⟨([(⟨#[124,45]⟩:ByteArray),(⟨#[120]⟩:ByteArray)]:List ByteArray),[],[(Y1 (⟨#[97]⟩:ByteArray) ([]:List ByteArray)),(Y1 (⟨#[98]⟩:ByteArray) ([]:List ByteArray)),(Y1 (⟨#[116]⟩:ByteArray) ([(⟨#[97]⟩:ByteArray)])),(Y1 (⟨#[117]⟩:ByteArray) ([(⟨#[116]⟩:ByteArray),(⟨#[98]⟩:ByteArray)]:List ByteArray))]⟩:Db).vars),YD ((⟨([(⟨#[124,45]⟩:ByteArray),(⟨#[120]⟩:ByteArray)]:List ByteArray),[],[(Y1 (⟨#[97]⟩:ByteArray) ([]:List ByteArray)),(Y1 (⟨#[98]⟩:ByteArray) ([]:List ByteArray)),(Y1 (⟨#[116]⟩:ByteArray) ([(⟨#[97]⟩:ByteArray)])),(Y1 (⟨#[117]⟩:ByteArray) ([(⟨#[116]⟩:ByteArray),(⟨#[98]⟩:ByteArray)]:List ByteArray))]⟩:Db).frames)]:List CD)=[Zb smallD.consts,Zb smallD.vars,YD smallD.frames]from rfl))
theorem Zln {J:World→Prop} (hJ:Stab J)  (hG:X8 J):Fn Tryz.prog J 5 [] (.bool true):=by
 refine Zu (N:=33) Tryz.func5 rfl rfl (lb rfl) fun S w0 hS hJ0=>?_
 refine tw Yj ?_
 refine qso tb hJ [] [_] [] ?_
 refine tsq ?_
 refine sq (.agg (dbC smallD)) rfl rfl (lb rfl) (fun _ _ h=>ZeS (Zr5 hJ  ) ZuF rfl (Zr hS _ h.keep h.x) (h.x.1) Ze (jo hJ h.x)) ?_
 refine Qi (cs:=dbC smallD) ZiD rfl rfl rfl (lb rfl) rfl rfl rfl (by decide) (m:=0) rfl rfl (fun a w h=>Zr hS _ h.keep h.x _ (Nat.le_refl _)) (fun a w h w' hk'=>Yw hJ _ _ hk' h.x) ?_
 refine seK [0] [_] rfl ?_
 refine nx (tsq ?_)
 refine snK 1 tb rfl ?_
 refine Y7 (O:=[]) (R:=[]) (Zs1 hJ (d:=smallD) (i:=(3:Int)) (by exact smHw) (by exact hG)) ZuE rfl rfl rfl (lb rfl) hS hJ0 Zq (fun a w h=>(Za (h.get 0 rfl) (Za (Rel.of_lit (Go.Value.int Go.IntKind.i64 3)) Ze))) fun z1=>?_
 refine snK 5 tb rfl ?_
 refine seK [0,1,7] [_,_,_] rfl ?_
 refine nx (ZI tb hJ [0,1,1003,1005,1006] [_,.tup [.rd (Xj (if Zft smallD (3:Int) (0:Int)=0 then ZpM (usL smallD smallD.frames.length) (3:Int).toNat (0:Int).toNat else [])),.int (Zft smallD (3:Int) (0:Int))],_,_,_,_,_] [1] [_,_,_,_,_] rfl ⟨iFo hS hJ (p_Must hJ (d:=smallD) (f:=(3:Int)) (t:=(0:Int)) (by exact smHw) (by exact hG)) ZuD,trivial⟩ ?_)
 refine ln 2 fun hl1=>?_
 refine tw (fun h=>Yq hS h (m:=1) (s:=2) rfl) ?_
 refine ZI tb hJ [1016] [_,_,_,_,_,_,_,_,.rd (Xj ([(0:Int),(1:Int),(2:Int)]:List Int)),.bool (decide ((if Zk2 smallD (3:Int)=0 then ZhV (usL smallD smallD.frames.length) (3:Int).toNat else [])=([(0:Int),(1:Int),(2:Int)]:List Int))),_,_,_,.rd (Xj ([(2:Int)])),.bool (decide ((if Zft smallD (3:Int) (0:Int)=0 then ZpM (usL smallD smallD.frames.length) (3:Int).toNat (0:Int).toNat else [])=([(2:Int)]))),_,_] [8,9,13,14] [_] rfl ⟨fun a _ hk hx _ _=>Qt (k:=3) (us:=[a.eval (Go.Operand.const (Go.Value.int Go.IntKind.i64 0)),a.eval (Go.Operand.const (Go.Value.int Go.IntKind.i64 1)),a.eval (Go.Operand.const (Go.Value.int Go.IntKind.i64 2))]) Yc ZbP rfl (by simp) (Zz (Rel.of_lit (Go.Value.int Go.IntKind.i64 0)) (Zz (Rel.of_lit (Go.Value.int Go.IntKind.i64 1)) (Zz (Rel.of_lit (Go.Value.int Go.IntKind.i64 2)) Yb))) rfl (by decide) (by decide) (Zr hS _ hk hx _ (Nat.le_refl _)) (jo hJ hx),iFo hS hJ (Zjc hJ (xs:=(if Zk2 smallD (3:Int)=0 then ZhV (usL smallD smallD.frames.length) (3:Int).toNat else [])) (ys:=([(0:Int),(1:Int),(2:Int)]:List Int)) ) Zn8,fun _ _ hk hx _ _=>Yx Yc Ziv rfl (Rel.of_lit (Go.Value.int Go.IntKind.i64 2)) (Zr hS _ hk hx _ (Nat.le_refl _)) (jo hJ hx),iFo hS hJ (Zjc hJ (xs:=(if Zft smallD (3:Int) (0:Int)=0 then ZpM (usL smallD smallD.frames.length) (3:Int).toNat (0:Int).toNat else [])) (ys:=([(2:Int)])) ) Zn8,trivial⟩ ?_
 exact Zg (Qw (m:=0) rfl rfl (eB (by rw[if_pos smChd,if_pos Zre,smNed,smMst,smChd,Zre];simp)))
theorem w_Few1 {J:World→Prop} (hJ:Stab J) (f:Fr)  :Fn Tryz.prog J 27 [.agg (frC f)] (.bool (decide ((200:Int)< (f.proof.length:Int)))):=by
 refine Zu (N:=7) Tryz.func27 rfl rfl (lb rfl) fun S w0 hS hJ0=>?_
 clear hJ0
 refine hqs tb hJ [1000] [.ptr (frC f),_] [0] [_] rfl ⟨fun _ _ hk hx hl _=>YP rfl (hl.env 0 0 _ rfl rfl) (hS _ hk.size) (js hJ hx),trivial⟩ ?_
 refine hqs tb hJ [1001,1004] [_,_,.int (f.proof.length:Nat),_,_] [2] [_,_] rfl ⟨YG Zv,trivial⟩ ?_
 refine ln 0 fun hl1=>?_
 exact Zg (rtn (m:=1) rfl rfl rfl)
theorem w_Few {J:World→Prop} (hJ:Stab J) (d:Db)  :Fn Tryz.prog J 11 [.agg (dbC d)] (.bool (ZtF d)):=by
 refine Zu (N:=13) Tryz.func11 rfl rfl (lb rfl) fun S w0 hS hJ0=>?_
 clear hJ0
 refine hqs tb hJ [1000] [.ptr (dbC d),_] [0] [_] rfl ⟨fun _ _ hk hx hl _=>YP rfl (hl.env 0 0 _ rfl rfl) (hS _ hk.size) (js hJ hx),trivial⟩ ?_
 refine hqs tb hJ [1001,1010] [_,_,.int (d.frames.length:Nat),_,_,_,_,.bool (d.frames.any (fun(f':Fr)=>decide ((200:Int)< (f'.proof.length:Int)))),_,_,_] [2,7] [_,_] rfl ⟨YG YK,fun _ _ hk hx hl hc=>Y9 (ZdN hJ (xs:=d.frames) (f:=27) (caps:=[]) (Os:=[]) (p:=(fun(f':Fr)=>decide ((200:Int)< (f'.proof.length:Int)))) (fun q'=>(w_Few1 hJ q').rr) (Zuu)) Zuv rfl (nm hS hk) (hx) Zq (Za (hl.dep 6 9 _ rfl rfl rfl hc) (Za (QQ 27) Ze)) (js hJ hx),trivial⟩ ?_
 refine ln 0 fun hl1=>?_
 exact Zg (rtn (m:=1) rfl rfl (eB (rfl)))
end Go.Proofs.YtapelgeodldlcaaGreatDoor
namespace Go.Proofs.YtapelgeodldlcaaGreatDoor
theorem Zny (d:Db) (s:ByteArray):ZaI d s=Yz (fun f=>decide (f.label=s)) d.frames:=rfl
theorem Zig {d:Db} {s:ByteArray} (h:¬ ZaI d s<0):0≤ZaI d s∧ZaI d s<d.frames.length:=by
 rw[Zny]at h ⊢
 have:=Xa (p:=fun f:Fr=>decide (f.label=s)) (xs:=d.frames) (by omega)
 omega
section
variable {us:List (List Int)} {rk out:List Int} {n:Nat}
end
end Go.Proofs.YtapelgeodldlcaaGreatDoor
set_option maxHeartbeats 8000000
set_option maxRecDepth 100000
namespace Go.Proofs.YtapelgeodldlcaaGreatDoor
open Go.RowKit
theorem Zs3 {J:World→Prop} (hJ:Stab J) (f:Fr) (s:ByteArray)  :Fn Tryz.prog J 33 [.agg (frC f),.ptr [.lit (.string s)]] (.bool (decide (f.label=s))):=by
 refine Zu (N:=8) Tryz.func33 rfl rfl (lb rfl) fun S w0 hS hJ0=>?_
 clear hJ0
 refine hqs tb hJ [1,1000] [.ptr (frC f),_] [0] [_,_] rfl ⟨fun _ _ hk hx hl _=>YP rfl (hl.env 0 0 _ rfl rfl) (hS _ hk.size) (js hJ hx),trivial⟩ ?_
 refine qs tb hJ [1004] [_,_,_,_,_] [_] ?_
 exact Zg (rtn (m:=0) rfl rfl rfl)
theorem p_Find {J:World→Prop} (hJ:Stab J) (d:Db) (s:ByteArray)  :Fn Tryz.prog J 17 [.agg (dbC d),.str s] (.int (ZaI d s)):=by
 refine Zu (N:=9) Tryz.func17 rfl rfl (lb rfl) fun S w0 hS hJ0=>?_
 clear hJ0
 refine hqs tb hJ [1000,1001] [.ptr (dbC d),.ptr [.lit (.string s)],_] [0,1] [_,_] rfl ⟨fun _ _ hk hx hl _=>YP rfl (hl.env 0 0 _ rfl rfl) (hS _ hk.size) (js hJ hx),fun _ _ hk hx hl _=>ZbA rfl (hl.env 1 1 _ rfl rfl) (hS _ hk.size) (js hJ hx),trivial⟩ ?_
 refine hqs tb hJ [1001,1004] [_,_,.fn 33 [.ptr [.lit (.string s)]],.int (Yz (fun(f':Fr)=>decide (f'.label=s)) d.frames),_] [2,3] [_,_] rfl ⟨fun _ _ _ hx hl _=>Xy (caps:=[(Go.Operand.tmp 3)]) rfl (Za (hl.env 1 3 _ rfl rfl) Ze) hx,fun _ _ hk hx hl _=>Y9 (ZcN hJ (xs:=d.frames) (f:=33) (caps:=[.ptr [.lit (.string s)]]) (Os:=[]) (p:=(fun(f':Fr)=>decide (f'.label=s))) (fun q'=>(Zs3 hJ q' s).r) (Zur)) Zn6 rfl (nm hS hk) (hx) Zq (Za (hl.dep 1 6 _ rfl rfl rfl rfl) (Za (hl.dep 2 7 _ rfl rfl rfl rfl) Ze)) (js hJ hx),trivial⟩ ?_
 refine ln 0 fun hl1=>?_
 exact Zg (rtn (m:=1) rfl rfl (eI (rfl)))
end Go.Proofs.YtapelgeodldlcaaGreatDoor
namespace Go.Proofs.YtapelgeodldlcaaGreatDoor
def Zb1 (d:Db):Bool:=ZtF d&&decide (Qf d=0)
theorem Zkr {d:Db} (h:Zb1 d=true):Qf d=0:=by
 simp[Zb1]at h;exact h.2
theorem Zkq {d:Db} (h:Zb1 d=true):d.frames.length≤30:=by
 simp[Zb1,ZtF]at h;omega
end Go.Proofs.YtapelgeodldlcaaGreatDoor
set_option maxHeartbeats 8000000
set_option maxRecDepth 100000
namespace Go.Proofs.YtapelgeodldlcaaGreatDoor
open Go.RowKit
theorem Zr6 {J:World→Prop} (hJ:Stab J) (d:Db) (hw:∀ f∈d.frames,f.wide.length*32≤140737488351232) (hG:X8 J):Fn Tryz.prog J 4 [.agg (dbC d)] (.bool (Zb1 d)):=by
 refine Zu (N:=10) Tryz.func4 rfl rfl (lb rfl) fun S w0 hS hJ0=>?_
 refine tw Yj ?_
 refine ZI tb hJ [1000] [.ptr (dbC d),_] [0] [_] rfl ⟨fun _ _ hk hx hl _=>YP rfl (hl.env 0 0 _ rfl rfl) (Zr hS _ hk hx _ (Nat.le_refl _)) (jo hJ hx),trivial⟩ ?_
 refine ZI tb hJ [1007] [_,.bool (ZtF d),_,_,.int (Qf d),_,_,_] [1,4] [_] rfl ⟨iFo hS hJ (w_Few hJ (d:=d) ) ZuG,fun _ _ hk hx hl hc=>ZeS (Zfr hJ (d:=d) (by have hc':((ZtF d)==true)=true:=hc;(try simp at hc');(exact hw)) (by have hc':((ZtF d)==true)=true:=hc;(try simp at hc');(exact hG))) ZjM rfl (Zr hS _ hk hx) (hx.1) (Za (hl.dep 3 6 _ rfl rfl rfl hc) Ze) (jo hJ hx),trivial⟩ ?_
 exact Zg (Qw (m:=0) rfl rfl (eB (rfl)))
end Go.Proofs.YtapelgeodldlcaaGreatDoor
namespace Go.Proofs.YtapelgeodldlcaaGreatDoor
def Zsg (d:Db) (l:List ByteArray):Bool:=l.any fun s=>decide (ZaI d s<0)
def Zhq (d:Db) (l:List ByteArray):Int:=if Qf d=0 then(if Zsg d l then 5 else 0)else Qf d
theorem Zlz {d:Db} {l:List ByteArray} {k:Nat} (h:k<l.length) (h0:Zsg d (l.take k)=false) (h1:¬ ZaI d (ge l k)<0):Zsg d (l.take (k+1))=false:=by
 unfold Zsg at h0 ⊢
 rw[ZO h,List.any_append,h0]
 simp only[List.any_cons,List.any_nil,Bool.or_false,Bool.false_or]
 exact decide_eq_false h1
theorem ZoH {d:Db} {l:List ByteArray} {k:Nat} (h:k<l.length) (h1:ZaI d (ge l k)<0):Zsg d l=true:=by
 unfold Zsg
 rw[List.any_eq_true]
 exact⟨_,ZF h,decide_eq_true h1⟩
def ZaE (d:Db) (l:List ByteArray) (x:Int):Prop:=∃ s∈l,Rch (usL d d.frames.length) (ZaI d s) x
theorem Zj9 (d:Db) (x:Int):¬ ZaE d [] x:=fun⟨_,h,_⟩=>by cases h
theorem Zhv {d:Db} {l:List ByteArray} {k:Nat} (h:k<l.length) (x:Int):ZaE d (l.take (k+1)) x↔ZaE d (l.take k) x∨Rch (usL d d.frames.length) (ZaI d (ge l k)) x:=by
 unfold ZaE
 rw[ZO h]
 constructor
 · rintro⟨s,hs,hr⟩
   rcases List.mem_append.1 hs with hs | hs
   · exact .inl ⟨s,hs,hr⟩
   · rw[List.mem_singleton.1 hs]at hr;exact .inr hr
 · rintro(⟨s,hs,hr⟩ | hr)
   · exact⟨s,List.mem_append_left _ hs,hr⟩
   · exact⟨_,List.mem_append_right _ (List.mem_singleton.2 rfl),hr⟩
open Classical in
noncomputable def ZaK (d:Db) (l:List ByteArray) (m:Nat):List Int:=((List.range m).filter fun(p:Nat)=>decide (¬ ZaE d l (p:Int))).map fun(p:Nat)=>(p:Int)
theorem ZiF (d:Db) (l:List ByteArray) (m:Nat):(ZaK d l m).length≤m:=by
 unfold ZaK
 rw[List.length_map]
 exact Nat.le_trans (List.length_filter_le _ _) (by simp)
open Classical in
theorem Zf0 (d:Db) (l:List ByteArray) (m:Nat):ZaK d l (m+1)=ZaK d l m++(if ZaE d l m then []else [(m:Int)]):=by
 unfold ZaK
 rw[List.range_succ,List.filter_append,List.map_append]
 by_cases h:ZaE d l m<;>simp[h]
theorem ZeK (ts:List Int) (k:Int):(ZB (ts.map fun x=>(x,true)) k).isSome=decide (k∈ts):=by
 rw[Xq]
 simp
theorem ZhG {ts:List Int} {k:Int} (h:(ZB (ts.map fun x=>(x,true)) k).isSome=true):k∈ts∧(ZB (ts.map fun x=>(x,true)) k).getD default=true:=by
 have hk:k∈ts:=by rw[ZeK]at h;simpa using h
 refine⟨hk,?_⟩
 clear h
 induction ts with
 | nil=>cases hk
 | cons t ts ih=>
  rw[List.map_cons,Xr]
  by_cases e:k=t
  · rw[if_pos e];rfl
  · rw[if_neg e]
    exact ih ((List.mem_cons.1 hk).resolve_left e)
theorem ZoS {ts vis:List Int} {k:Int} (h1:vis.Nodup) (h2:∀ q∈vis,q∈ts) (h3:k∉vis) (h4:k∈ts):ts.length-(vis++[k]).length<ts.length-vis.length:=by
 have hn:(vis++[k]).Nodup:=by
  rw[List.nodup_append]
  exact⟨h1,by simp,fun x hx y hy e=>by rw[List.mem_singleton.1 hy]at e;subst e;exact h3 hx⟩
 have:=Zb8 (ys:=ts) hn fun x hx=>by
  rcases List.mem_append.1 hx with h | h
  · exact h2 x h
  · rw[List.mem_singleton.1 h];exact h4
 rw[List.length_append,List.length_singleton]at this ⊢
 omega
end Go.Proofs.YtapelgeodldlcaaGreatDoor
set_option maxHeartbeats 8000000
set_option maxRecDepth 100000
namespace Go.Proofs.YtapelgeodldlcaaGreatDoor
open Go.RowKit
theorem Zs4 {J:World→Prop} (hJ:Stab J) (M:Nat) (T1:Nat) (xs:List Int) (ts:List Int)  :FnM (ι:= { q':List Int // ∀ k',k'∈q'↔k'∈xs∨k'∈ts }) Tryz.prog J 18 [] [.lit (.map (some M)),.lit (.map (some T1))] [OB.set keyI M xs,OB.set keyI T1 ts] (fun _=>.tup []) (fun i'=>[OB.set keyI M (i'.1),OB.set keyI T1 ts]):=by
 refine ZX (N:=16) Tryz.func18 rfl rfl (lb rfl) fun S w0 R hS hJ0 hH=>?_
 refine Z6 (B:=St All (SO S (OB.set keyI M xs::OB.set keyI T1 ts::R)) w0 16 [(0,.lit (.map (some M))),(1,.lit (.map (some T1)))] (XO J S w0.heap.size (OB.set keyI M xs::OB.set keyI T1 ts::R))) ?_ fun a w h=>h
 refine tsq ?_
 refine snK 1 tb rfl ?_
 refine kw pm1 ?_
 refine ZiN (Kd:=keyI) (f:=(fun b:Bool=>AV.bool b)) (L:=(ts.map fun x=>(x,true))) Zhy hJ hJ0 rfl rfl rfl (lb rfl) (fun a w h=>(h.get 0 rfl)) fun b1=>?_
 refine seK [0,2] [_,_] rfl ?_
 refine nx (Zf (lpo (ι:=(List Int)×(List Int)) (fun(vis,tn)=>(∀ q',q'∈tn↔q'∈xs∨q'∈vis)∧(vis.Nodup)∧(∀ q'∈vis,q'∈ts)) (fun(vis,tn)=>(OB.iter b1 keyI (fun b:Bool=>AV.bool b) T1 (ts.map fun x=>(x,true)) vis::OB.set keyI M tn::R)) (fun(_,_)=>[]) (fun(vis,_)=>ts.length-vis.length) [0,1] [_,_] (([]:List Int),xs) ⟨fun q'=>by simp,by simp,fun q' h=>by simp at h⟩ ?_))
 rintro⟨vis,tn⟩ ⟨f1_1,f1_2,f1_3⟩
 refine tsq ?_
 refine ZlO (Kd:=keyI) (f:=(fun b:Bool=>AV.bool b)) (L:=(ts.map fun x=>(x,true))) (vis:=vis) (fun _ _=>trivial) hJ hJ0 rfl rfl rfl (lb rfl) (fun a w h=>(h.get 0 rfl)) fun z2 h0z2 h1z2=>?_
 refine sq (.bool z2.1) rfl rfl (lb rfl) (fun _ _ h=>YY rfl (h.get 0 rfl) rfl h.x) ?_
 refine seK [0,2,3] [_,_,_] rfl ?_
 refine nx (cjS 0 (fun hb1=>?_) fun hb1=>?_)
 refine tw (ob0 (congrArg (fun z'=>OB.iter b1 keyI (fun b:Bool=>AV.bool b) T1 (ts.map fun x=>(x,true)) (z')) (show(if z2.1 then vis++[z2.2]else vis)=(vis++[z2.2])from by rw[hb1];rfl))) ?_
 refine Zc (nx (Zf (Zj (YQ tb hJ [1,2,1003,1004] [.tup [.int z2.2,.bool ((ZB (ts.map fun x=>(x,true)) z2.2).getD default)],_,_,_,_] [0] [_,_,_,_] rfl ⟨fun _ _ _ hx hl _=>Zmc (Kd:=keyI) (f:=(fun b:Bool=>AV.bool b)) (L:=(ts.map fun x=>(x,true))) (k:=z2.2) rfl (Zd hx (mo 0 rfl)) (trivial) (hl.env 1 7 _ rfl rfl) hx,trivial⟩ ?_))))
 refine kw (sa 3 rfl (show(.bool ((ZB (ts.map fun x=>(x,true)) z2.2).getD default):AV)= .bool true from by rw[(ZhG (h1z2 hb1).2).2])) ?_
 refine nx (Zw (snK 3 tb rfl ?_))
 refine kw pm1 ?_
 refine Q0 Xs hJ hJ0 z2.2 rfl rfl (.inl rfl) (fun a w h=>⟨(h.get 2 rfl),(h.get 1 rfl),(h.get 0 rfl)⟩) ?_
 refine seK [3,4] [_,_] rfl ?_
 refine kw pm1 ?_
 exact Xi (vis++[z2.2],XT tn z2.2) [0,1] ⟨fun q'=>by rw[mem_addS,f1_1,List.mem_append,List.mem_singleton,or_assoc],by rw[List.nodup_append];exact⟨f1_2,by simp,fun x hx y hy e=>by rw[List.mem_singleton.1 hy]at e;subst e;exact(h1z2 hb1).1 hx⟩,fun q' hq'=>by rcases List.mem_append.1 hq' with h | h;exact f1_3 q' h;rw[List.mem_singleton.1 h];exact(ZhG (h1z2 hb1).2).1⟩ (hm:=(show ts.length-(vis++[z2.2]).length<ts.length-vis.length from ZoS f1_2 f1_3 (h1z2 hb1).1 (ZhG (h1z2 hb1).2).1))
 refine tw (ob0 (congrArg (fun z'=>OB.iter b1 keyI (fun b:Bool=>AV.bool b) T1 (ts.map fun x=>(x,true)) (z')) (show(if z2.1 then vis++[z2.2]else vis)=vis from by rw[hb1];rfl))) ?_
 refine Zx (kw ZeH ?_)
 refine kw pm1 ?_
 exact fun a w h=>Xt  ⟨tn,by intro k';rw[f1_1];exact⟨fun h9=>h9.imp id (f1_3 k'),fun h9=>h9.imp id fun h8=>h0z2 hb1 k' (by rw[ZeK];exact decide_eq_true h8)⟩⟩ rfl h rfl
theorem Zpv {J:World→Prop} (hJ:Stab J) (d:Db) (l:List ByteArray) (hw:∀ f∈d.frames,f.wide.length*32≤140737488351232) (hG:X8 J):Fn Tryz.prog J 6 [.agg (dbC d),.rd (Zb l)] (.tup [.rd (Xj (if Zhq d l=0 then ZaK d l d.frames.length else [])),.int (Zhq d l)]):=by
 refine Zu (N:=56) Tryz.func6 rfl rfl (lb rfl) fun S w0 hS hJ0=>?_
 refine tw Yj ?_
 refine ln 1 fun hl1=>?_
 refine ZI tb hJ [1,1000] [.ptr (dbC d),_,_] [0] [_,_] rfl ⟨fun _ _ hk hx hl _=>YP rfl (hl.env 0 0 _ rfl rfl) (Zr hS _ hk hx _ (Nat.le_refl _)) (jo hJ hx),trivial⟩ ?_
 refine ZI tb hJ [0,1,1005,1006] [_,.tup [gAV (rdE d ([]:List Int)) [Zb d.consts,Zb d.vars,YD d.frames,Z4 (usL d d.frames.length)],.int (rdE d ([]:List Int))],_,_,_,_,_] [1] [_,_,_,_] rfl ⟨fun _ _ hk hx hl _=>ZeS (ZhR hJ (d:=d) (ns:=([]:List Int)) (hw) (hG)) Zil rfl (Zr hS _ hk hx) (hx.1) (Za (hl.dep 0 15 _ rfl rfl rfl rfl) (Za (Zbg (Rel.of_lit (Go.Value.slice none 0 0))) Ze)) (jo hJ hx),trivial⟩ ?_
 refine Zj (qso tb hJ [0,1,2,3,1001] [_,_] [_,_,_,_,_] ?_)
 refine cj 4 (fun hb1=>?_) fun hb1=>?_
 have c1:¬ Qf d=0:=by rw[←Zaq];exact Zji hb1
 have c2:Zhq d l=Qf d:=if_neg c1
 refine qso tb hJ [1001,1002] [_,_,_] [_,_] ?_
 refine tw (fun h=>Zao h (m:=0) (s:=4) rfl) ?_
 exact Zg (fun a w h=>X1 (m:=0) (k:=1) rfl (YM h) rfl rfl (congrArg (fun z=>AV.rd (Xj z)) (show([]:List Int)=(if Zhq d l=0 then ZaK d l d.frames.length else [])from by first | (rw[c2,Zaq];done) | exact c2.symm | exact c0.symm | (rw[c2,if_neg c1];done) | (rw[c2];rfl) | (rw[if_pos c0,f2_2,show q=d.frames.length by omega]))) (eI (by first | (rw[c2,Zaq];done) | exact c2.symm | exact c0.symm | (rw[c2,if_neg c1];done) | (rw[c2];rfl) | (rw[if_pos c0,f2_2,show q=d.frames.length by omega]))))
 have e0:Qf d=0:=by rw[←Zaq];exact ZhW hb1
 have c3:=Zcj e0
 have hul:=ZaO d d.frames.length
 refine tw (sa 2 rfl (show(gAV (rdE d ([]:List Int)) [Zb d.consts,Zb d.vars,YD d.frames,Z4 (usL d d.frames.length)]:AV)= .ptr [Zb d.consts,Zb d.vars,YD d.frames,Z4 (usL d d.frames.length)]from Zcd (by rw[Zaq];exact e0))) ?_
 refine Zc (nx (tsq ?_))
 refine QC keyI hJ rfl rfl rfl (lb rfl) fun m1=>?_
 refine snK 1 tb rfl ?_
 refine seK [0,2,3,4] [_,_,_,_] rfl ?_
 refine nx (Zj (ZI tb hJ [0,2,3,1000,1001,1002] [_,.int (l.length:Nat),_] [1] [_,_,_,_,_,_] rfl ⟨YG Zv,trivial⟩ ?_))
 refine Zf (lpo (ι:=Nat×(List Int)) (fun(k,us)=>(k≤l.length)∧(∀ x,x∈us↔ZaE d (l.take k) x)∧(Zsg d (l.take k)=false)) (fun(_,us)=>[OB.set keyI m1 us]) (fun(k,_)=>[(25,.int (k:Nat))]) (fun(k,_)=>l.length-k) [0,1,2,3,4,5] [_,_,_,_,_] (0,([]:List Int)) ⟨Nat.zero_le _,fun x=>by simp[Zj9],rfl⟩ ?_)
 rintro⟨k,us⟩ ⟨f1_1,f1_2,f1_3⟩
 refine qso tb hJ [0,1,2,3,4,5,1000] [_] [_,_,_,_,_,_,_] ?_
 refine cjS 6 (fun hb2=>?_) fun hb2=>?_
 try simp at hb2
 refine Zc (nx (Zj (Zf (ZI tb hJ [0,1,2,3,4,5,1002] [.ptr [.lit (.string (ge l k))],_,_] [0] [_,_,_,_,_,_,_] rfl ⟨iIx Zn,trivial⟩ ?_))))
 refine ZI tb hJ [0,1,2,3,4,5,1003] [_,_,.int (ZaI d (ge l k)),_] [2] [_,_,_,_,_,_,_] rfl ⟨iFo hS hJ (p_Find hJ (d:=d) (s:=(ge l k)) ) ZuC,trivial⟩ ?_
 refine Zj (qso tb hJ [0,1,2,3,4,5,6,1001] [_,_] [_,_,_,_,_,_,_,_] ?_)
 refine cj 7 (fun hb3=>?_) fun hb3=>?_
 have c2:Zhq d l=5:=by rw[Zhq,if_pos e0,if_pos (ZoH (by omega) (of_decide_eq_true hb3))]
 refine qso tb hJ [1000,1001] [_,_] [_,_] ?_
 refine tw (fun h=>Zao h (m:=0) (s:=4) rfl) ?_
 exact Zg (fun a w h=>X1 (m:=0) (k:=1) rfl (YM h) rfl rfl (congrArg (fun z=>AV.rd (Xj z)) (show([]:List Int)=(if Zhq d l=0 then ZaK d l d.frames.length else [])from by first | (rw[c2,Zaq];done) | exact c2.symm | exact c0.symm | (rw[c2,if_neg c1];done) | (rw[c2];rfl) | (rw[if_pos c0,f2_2,show q=d.frames.length by omega]))) (eI (by first | (rw[c2,Zaq];done) | exact c2.symm | exact c0.symm | (rw[c2,if_neg c1];done) | (rw[c2];rfl) | (rw[if_pos c0,f2_2,show q=d.frames.length by omega]))))
 have e4:=of_decide_eq_false hb3
 have e5:=Zig e4
 have e8:(((ZaI d (ge l k)).toNat:Nat):Int)=(ZaI d (ge l k)):=by omega
 refine Zc (nx (tw (sa 6 rfl (congrArg AV.int (show ZaI d (ge l k)=(((ZaI d (ge l k)).toNat:Nat):Int)from by omega))) ?_))
 refine Zw (snK 3 tb rfl ?_)
 refine Y7 (O:=[]) (R:=[OB.set keyI m1 us]) (ZdJ hJ (d:=d) (us:=(usL d d.frames.length)) (n:=((ZaI d (ge l k)).toNat)) (YV _ _) (by rw[ZaO];omega)) Zeh rfl rfl rfl (lb rfl) hS hJ0 Zq (fun a w h=>(Za (h.get 1 rfl) (Za (h.get 0 rfl) Ze))) fun z2=>?_
 refine kw pm1 ?_
 refine Y7 (O:=[OB.set keyI m1 us,OB.set keyI z2.1.1 z2.1.2]) (R:=[]) (Zs4 hJ (M:=m1) (T1:=z2.1.1) (xs:=us) (ts:=z2.1.2) ) ZuB rfl rfl rfl (lb rfl) hS hJ0 Zq (fun a w h=>(Za (h.get 3 rfl) (Za (h.get 0 rfl) Ze))) fun z3=>?_
 refine seK [5,6,7,8,9,10] [_,_,_,_,_,_] rfl ?_
 refine nx (YQ tb hJ [0,1,2,3,4,1001] [.int (k+1:Nat),_] [0] [_,_,_,_,_,_] rfl ⟨Yv,trivial⟩ ?_)
 refine kw pm1 ?_
 refine kw Zy ?_
 exact Xi (k+1,z3.1) [0,1,2,3,4,5] ⟨by omega,fun x=>by rw[Zhv (by omega),z3.2 x,f1_2,z2.2.iff,e8],Zlz (by omega) f1_3 e4⟩
 try simp at hb2
 have e2:∀ x,x∈us↔ZaE d l x:=by rw[ZC (by omega)]at f1_2;exact f1_2
 have c0:Zhq d l=0:=by rw[ZC (by omega)]at f1_3;rw[Zhq,if_pos e0,f1_3];rfl
 refine Zx (nx (qso tb hJ [0,1,1000] [_] [_,_,_] ?_))
 refine Zj (ZI tb hJ [0,2,1001,1002,1003] [_,_,.int (d.frames.length:Nat),_] [2] [_,_,_,_,_] rfl ⟨YG YK,trivial⟩ ?_)
 refine ln 2 fun hl2=>?_
 refine Zf (tw (Z7 3 1 hJ) ?_)
 refine lpo (ι:=Nat×Value×(List Int)) (fun(q,_,out)=>(q≤d.frames.length)∧(out=ZaK d l q)) (fun(_,vp,out)=>[OB.row vp 3 1 (out.map ZcP),OB.set keyI m1 us]) (fun(q,vp,_)=>[(43,.int (q:Nat)),(12,.lit vp)]) (fun(q,_,_)=>d.frames.length-q) [0,3,4,1] [_,_] (0,(.slice none 0 0),([]:List Int)) ⟨Nat.zero_le _,rfl⟩ ?_
 rintro⟨q,vp,out⟩ ⟨f2_1,f2_2⟩
 refine qso tb hJ [0,1,2,3,1000] [_] [_,_,_,_,_] ?_
 refine cjS 4 (fun hb4=>?_) fun hb4=>?_
 try simp at hb4
 refine Zc (nx (Zj (Zf (qso tb hJ [0,1,2,3,1001] [_,_] [_,_,_,_,_] ?_))))
 refine ZI tb hJ [0,1,2,3,4,1003] [_,_,.bool (decide ((q:Int)∈us)),_] [2] [_,_,_,_,_,_] rfl ⟨fun _ _ _ hx hl _=>Z8 (Kd:=keyI) (xs:=us) Xs ZM (q:Int) rfl (Zd hx (mo 1 rfl)) (hl.dep 0 46 _ rfl rfl rfl rfl) (hl.dep 1 47 _ rfl rfl rfl rfl) hx,trivial⟩ ?_
 refine cj 5 (fun hb5=>?_) fun hb5=>?_
 have e6:¬ ZaE d l (q:Int):=by have h:=Zji hb5;rwa [e2]at h
 refine Zw (snK 2 tb rfl ?_)
 refine sq (.rd (Xj ([(q:Int)]))) rfl rfl (lb rfl) (fun _ _ h=>Yx Yc Ziv rfl (h.get 0 rfl) (Zr hS _ h.keep h.x _ (Nat.le_refl _)) (jo hJ h.x)) ?_
 refine YX (f:=ZcP) (m:=2) (s:=50) out ([(q:Int)]) (fun _=>rfl) ZjX hJ hJ0 rfl rfl rfl (lb rfl) rfl rfl (fun a w h=>(h.get 0 rfl)) (by have:=ZiF d l q;rw[f2_2];simp;omega) (by have:=ZiF d l q;rw[f2_2];simp;omega) fun v4=>?_
 refine snK 1 tb rfl ?_
 refine seK [0,2,5,6,7] [_,_,_,_,_] rfl ?_
 refine nx (ln 1 fun hl3=>?_)
 refine YQ tb hJ [0,2,3,1001] [.int (q+1:Nat),_] [0] [_,_,_,_] rfl ⟨Yv,trivial⟩ ?_
 exact Xi (q+1,v4,out++([(q:Int)])) [1,2,3,0] ⟨by omega,by rw[Zf0,←f2_2];first | (rw[if_neg e6];done) | (rw[if_pos e6];simp;done)⟩
 have e6:ZaE d l (q:Int):=by have h:=ZhW hb5;rwa [e2]at h
 refine Zc (nx (YQ tb hJ [0,1,3,1001] [.int (q+1:Nat),_] [0] [_,_,_,_] rfl ⟨Yv,trivial⟩ ?_))
 exact Xi (q+1,vp,out) [0,1,3,2] ⟨by omega,by rw[Zf0,←f2_2];first | (rw[if_neg e6];done) | (rw[if_pos e6];simp;done)⟩
 try simp at hb4
 refine Zx (nx (qso tb hJ [1001,1002] [_,_,_] [_,_] ?_))
 refine tw (fun h=>Yq hS h (m:=0) (s:=4) rfl) ?_
 exact Zg (fun a w h=>X1 (m:=0) (k:=1) rfl (YM h) rfl rfl (congrArg (fun z=>AV.rd (Xj z)) (show out=(if Zhq d l=0 then ZaK d l d.frames.length else [])from by first | (rw[c2,Zaq];done) | exact c2.symm | exact c0.symm | (rw[c2,if_neg c1];done) | (rw[c2];rfl) | (rw[if_pos c0,f2_2,show q=d.frames.length by omega]))) (eI (by first | (rw[c2,Zaq];done) | exact c2.symm | exact c0.symm | (rw[c2,if_neg c1];done) | (rw[c2];rfl) | (rw[if_pos c0,f2_2,show q=d.frames.length by omega]))))
end Go.Proofs.YtapelgeodldlcaaGreatDoor
namespace Go.Proofs.YtapelgeodldlcaaGreatDoor
section
variable {n:Rn} {P:Program} {S:Nat→Prop} {X:World→Prop} {o:Oper} {a:Act} {w:World} {t u:TypeId} {x y:Operand}
theorem Zrl {i j:Nat} (hop:o.op= .binOp .sub t x y u) (h1:Rel S w (.int (i:Int)) (a.eval x)) (h2:Rel S w (.int (j:Int)) (a.eval y)) (hl:j≤i) (hi:i≤9223372036854775807) (hx:X w):Z5 n P o a w (Yu S X (.int ((i-j:Nat):Int)) w):=by
 rw[show((i-j:Nat):Int)=(i:Int)-(j:Int) by omega]
 exact Zeu hop h1 h2 (by omega) (by omega) hx
end
end Go.Proofs.YtapelgeodldlcaaGreatDoor
namespace Go.Proofs.YtapelgeodldlcaaGreatDoor
open Go.RowKit
def OB.clp (v:Value) (rows:List (List CD)):OB where
 blk:=fun _=>False
 inv:=fun _ S w=>(∃ ad n,v= .slice ad n n)∧Rel S w (.rd (.sl rows)) v
 mv:=fun⟨h1,h2⟩ hk _ hs=>⟨h1,Rel.move hk hs h2⟩
 lt:=fun _ _ h=>h.elim
def Zed:Value→Value
 | .slice ad n _=>.slice ad n n
 | v=>v
section
variable {n:Rn} {N:Nat} {P:Program} {J:World→Prop} {S:Nat→Prop} {O:List OB} {w0:World} {env:List (Nat×AV)} {Q:Exit→Act→World→Prop}
theorem Zsy {v:Value} {e:TypeId} {size:Nat} {rows:List (List CD)} {lo m:Nat} {T:Nat→Prop} {w:World} (hm:m≤rows.length) (h:(OB.row v e size rows).inv lo T w):(OB.row (Za6 v m) e size (rows.take m)).inv lo T w:=by
 obtain⟨us,⟨h0,h1⟩,h2,h3⟩:=h
 have hl:us.length=rows.length*size:=h0
 refine⟨us.take (m*size),⟨?_,?_⟩,?_,fun r hr=>h3 r (List.mem_of_mem_take hr)⟩
 · rw[List.length_take,List.length_take,hl,Nat.min_eq_left hm]
   exact Nat.min_eq_left (Nat.mul_le_mul_right _ hm)
 · rw[List.length_take,Nat.min_eq_left hm]
   rcases h1 with⟨rfl,hz⟩ | ⟨g,cap,cur,rfl,hb,hg,hnc,hcm,hcs,ht⟩
   · have:m=0:=by omega
     subst this
     exact .inl ⟨rfl,rfl⟩
   · refine .inr ⟨g,cap,cur,rfl,hb,hg,Nat.le_trans hm hnc,hcm,hcs,?_⟩
     rw[←ht,List.take_take,Nat.min_eq_left (Nat.mul_le_mul_right _ hm)]
 · have hf:(rows.take m).flatten=rows.flatten.take (m*size):=by
    have key:∀(rows:List (List CD)) (m:Nat),(∀ r∈rows,r.length=size)→m≤rows.length→(rows.take m).flatten=rows.flatten.take (m*size):=by
     intro rows
     induction rows with
     | nil=>intro m _ hm;simp at hm;subst hm;simp
     | cons r rs ih=>
      intro m hr hm
      cases m with
      | zero=>simp
      | succ m=>
       have hrl:=hr r (by simp)
       simp only[List.take_succ_cons,List.flatten_cons]
       rw[ih m (fun q hq=>hr q (by simp[hq])) (by simpa using hm)]
       have e1:(m+1)*size=r.length+m*size:=by rw[hrl,Nat.succ_mul];omega
       rw[e1,List.take_length_add_append]
    exact key rows m h3 hm
   rw[hf]
   refine RdL.of_get (by rw[List.length_take,List.length_take,h2.length]) fun i c u hc hu=>?_
   rw[List.getElem?_take]at hc hu
   split at hc
   · rename_i hi
     rw[if_pos hi]at hu
     exact h2.get hc hu
   · cases hc
theorem st_cut {a:Act} {w:World} {v:Value} {e:TypeId} {size:Nat} {rows:List (List CD)} {m:Nat} (hm:m≤rows.length) (h:St All (SO S (OB.row v e size rows::O)) w0 N env (XO J S w0.heap.size (OB.row v e size rows::O)) a w):
 St All (SO S (OB.row (Za6 v m) e size (rows.take m)::O)) w0 N env (XO J S w0.heap.size (OB.row (Za6 v m) e size (rows.take m)::O)) a w:=by
 have hblk:∀ k,(OB.row (Za6 v m) e size (rows.take m)).blk k↔ (OB.row v e size rows).blk k:=fun k=>by
  show(Za6 v m).ownBlock=some k↔v.ownBlock=some k
  cases v with
  | slice ad l c=>cases ad<;>exact Iff.rfl
  | _=>exact Iff.rfl
 have hs:∀ k,SO S (OB.row v e size rows::O) k→SO S (OB.row (Za6 v m) e size (rows.take m)::O) k:=fun k hk=>⟨hk.1,fun p hp=>by
  rcases List.mem_cons.1 hp with rfl | hp
  · rw[hblk];exact hk.2 (OB.row v e size rows) (by simp)
  · exact hk.2 p (by simp[hp])⟩
 have hpw:=List.pairwise_cons.1 h.x.2.2
 refine⟨h.defs,h.size,h.keep,⟨h.x.1,fun p hp=>?_,.cons (fun p hp k hk=>hpw.1 p hp k ((hblk k).1 hk)) hpw.2⟩,fun p hp=>⟨(h.env p hp).1,(h.env p hp).2.sub fun k _=>hs k⟩⟩
 rcases List.mem_cons.1 hp with rfl | hp
 · exact OB.sub (Zsy hm (h.x.2.1 (OB.row v e size rows) (by simp))) fun k _=>hs k
 · exact OB.sub (h.x.2.1 p (by simp[hp])) fun k _=>hs k
theorem Zr2 {w:World} {v:Value} {e:TypeId} {size:Nat} {rows:List (List CD)} (hS:∀ b,w0.heap.size≤b→S b) (hk:Keeps All w0 w) (hx:XO J S w0.heap.size (OB.row v e size rows::O) w):
 ZaM J S w0 (OB.row v e size rows::O) w (OB.clp (Zed v) rows::O) w:=by
 have hi:=hx.2.1 (OB.row v e size rows) (by simp)
 have hfree:∀ k,(OB.row v e size rows).blk k→SO S O k:=fun k hk=>⟨hS k ((OB.row v e size rows).lt hi k hk).1,fun p hp=>(List.pairwise_cons.1 hx.2.2).1 p hp k hk⟩
 have hsub:∀ k,SO S O k→SO S (OB.clp (Zed v) rows::O) k:=fun k hk=>⟨hk.1,fun p hp=>by
  rcases List.mem_cons.1 hp with rfl | hp
  · exact fun e=>e
  · exact hk.2 p hp⟩
 refine⟨hk,⟨hx.1,fun p hp=>?_,.cons (fun _ _ _ e=>e.elim) (List.pairwise_cons.1 hx.2.2).2⟩,fun av u hr=>hr.sub fun k _ hk=>hsub k hk.drop⟩
 rcases List.mem_cons.1 hp with rfl | hp
 · refine OB.sub (S:=SO S O) ?_ fun k _=>hsub k
   have hr:=ZeM (fun k hk=>hfree k hk) (OB.sub hi fun k _ hk=>hk.drop)
   obtain⟨us,⟨h0,h1⟩,h2,h3⟩:=hi
   rcases h1 with⟨rfl,hz⟩ | ⟨g,cap,cur,rfl,hb,hg,hnc,hcm,hcs,ht⟩
   · exact⟨⟨_,_,rfl⟩,hr⟩
   · refine⟨⟨_,_,rfl⟩,?_⟩
     simp only[Zed,Rel]
     refine Rd.of_cells (n:=size) (us:=us) (Nat.le_refl _) (by omega) (Array.getElem?_eq_some_iff.1 hg).1 (hfree g rfl) h3 (h2.sub fun k _ hk=>hk.drop) fun j u hj=>?_
     have hc:=World.ownsRow.cells (w:=w) (base:=w0.heap.size) (e:=e) (size:=size) (v:=.slice (some ⟨g,0,none⟩) rows.length cap) (n:=rows.length) (xs:=us) ⟨h0,.inr ⟨g,cap,cur,rfl,hb,hg,hnc,hcm,hcs,ht⟩⟩ (g:=g) rfl j u hj
     rw[show(⟨g,0,none⟩:Addr).add j=⟨g,0+j,none⟩ by unfold Addr.add;split<;>simp_all]at hc
     exact hc
 · exact OB.sub (hx.2.1 p (by simp[hp])) fun k _ hk=>hsub k hk.drop
theorem Zj3 {t e ty:TypeId} {size bytes:Nat} (ht:ZfZ P t e size bytes) (hJ:Stab J) {w:World} (hk:Keeps All w0 w) {v:Value} {rows news:List (List CD)} {y:Value} (h:XO J S w0.heap.size (OB.clp v rows::O) w) (hrl:∀ r∈rows,r.length=size)
 (hy:Rel (SO S (OB.clp v rows::O)) w (.rd (.sl news)) y) (hn:∀ r∈news,r.length=size) (hpos:0<news.length) (h63:rows.length+news.length≤maxLen) (hb:(rows.length+news.length)*bytes≤140737488355328):
 ∃ v' w',(Builtin.append_ #[t,t] ty #[v,y]).run P w= .ok v' w'∧okLit v'∧ZaM J S w0 (OB.clp v rows::O) w (OB.row v' e size (rows++news)::O) w':=by
 obtain⟨ht,⟨i,z,hi,hz,his,hib,hzs⟩,hsz,hs⟩:=ht
 subst his
 subst hib
 have h63':rows.length+news.length≤9223372036854775807:=by simp only[maxLen]at h63;omega
 obtain⟨⟨ad,nn,rfl⟩,hr⟩:=h.2.1 (OB.clp v rows) (by simp)
 simp only[Rel]at hy hr
 obtain⟨ad1,cap1,hv1,hlc1,hcm1⟩:=hr.form
 injection hv1 with e1 e2 e3
 subst e1
 subst e2
 obtain⟨ad2,cap2,rfl,hlc2,hcm2⟩:=hy.form
 obtain⟨b2,off2,rfl,_⟩:=hy.at (List.getElem?_eq_getElem hpos)
 obtain⟨nu,hnl,hnr,hnc⟩:=hy.flat hn hpos
 have htl:XO J S w0.heap.size O w:=⟨h.1,fun p hp=>OB.sub (h.2.1 p (by simp[hp])) fun _ _ hk=>hk.drop,(List.pairwise_cons.1 h.2.2).2⟩
 have fin:∀(os:List Value),os.length=rows.length*i.size→RdL (SO S (OB.clp (.slice ad rows.length rows.length) rows::O)) w rows.flatten os→∀ old,old<rows.length+news.length→
  ZaM J S w0 (OB.clp (.slice ad rows.length rows.length) rows::O) w (OB.row (.slice (some ⟨w.heap.size,0,none⟩) (rows.length+news.length) (grownCap w (rows.length+news.length) old e)) e i.size (rows++news)::O)
   (w.drew.alloc (.cells (os.toArray++nu.toArray++Builtin.zeroCells z.cells (grownCap w (rows.length+news.length) old e-(rows.length+news.length))) e)):=fun os hol hor old ho=>by
  have hkk:Keeps All w (w.drew.alloc (.cells (os.toArray++nu.toArray++Builtin.zeroCells z.cells (grownCap w (rows.length+news.length) old e-(rows.length+news.length))) e)):=(Keeps.refl _ _).drew.alloc _
  have hge:=grownCap_ge w (rows.length+news.length) old e
  have hcm:=grownCap_le_maxLen w (rows.length+news.length) old e h63
  have hlen:(os++nu).length=(rows.length+news.length)*i.size:=by rw[List.length_append,hol,hnl,Nat.add_mul]
  have hsub:∀ k,k<w.heap.size→SO S (OB.clp (.slice ad rows.length rows.length) rows::O) k→SO S (OB.row (.slice (some ⟨w.heap.size,0,none⟩) (rows.length+news.length) (grownCap w (rows.length+news.length) old e)) e i.size (rows++news)::O) k:=fun k hlt hk=>⟨hk.1,fun p hp=>by
   rcases List.mem_cons.1 hp with rfl | hp
   · intro e'
     have e'':some w.heap.size=some k:=e'
     injection e'' with e''
     omega
   · exact hk.2 p (by simp[hp])⟩
  have hinv:(OB.row (.slice (some ⟨w.heap.size,0,none⟩) (rows.length+news.length) (grownCap w (rows.length+news.length) old e)) e i.size (rows++news)).inv w0.heap.size (SO S ((OB.row (.slice (some ⟨w.heap.size,0,none⟩) (rows.length+news.length) (grownCap w (rows.length+news.length) old e)) e i.size (rows++news))::O)) (w.drew.alloc (.cells (os.toArray++nu.toArray++Builtin.zeroCells z.cells (grownCap w (rows.length+news.length) old e-(rows.length+news.length))) e)):=by
   refine⟨os++nu,⟨by rw[hlen,List.length_append],.inr ⟨w.heap.size,_,_,by rw[List.length_append],hk.size,heap_alloc_new w.drew _,by rw[List.length_append];exact hge,hcm,?_,?_⟩⟩,?_,fun r hr=>(List.mem_append.1 hr).elim (hrl r) (hn r)⟩
   · simp only[Array.size_append,List.size_toArray,size_zeroCells,hzs,hol,hnl,←Nat.add_mul]
     congr 1
     omega
   · simp only[Array.toList_append,List.append_assoc]
     rw[←List.append_assoc,List.length_append,←hlen]
     exact List.take_left
   · rw[List.flatten_append]
     exact RdL.append (hor.move hkk fun k hlt hs=>⟨trivial,hsub k hlt hs⟩) (hnr.move hkk fun k hlt hs=>⟨trivial,hsub k hlt hs⟩)
  obtain⟨g1,_⟩:=Zdr hJ htl hkk (fun k hk=>by
   have e'':some w.heap.size=some k:=hk
   injection e'' with e''
   omega) hinv
  exact⟨hk.trans hkk,g1,fun av u hr=>Rel.move hkk (fun k hlt hs=>⟨trivial,hsub k hlt hs⟩) hr⟩
 cases ad with
 | none=>
  have h0:rows=[]:=by
   cases rows with
   | nil=>rfl
   | cons r rs=>obtain⟨b,off,hb',_⟩:=hr.at (i:=0) (r:=r) rfl;cases hb'
  subst h0
  simp only[List.length_nil,Nat.zero_add,List.nil_append]at fin h63' hb ⊢
  have hrun:=run_append_nil (P:=P) w t ty e i z ht hi hz ⟨b2,off2,none⟩ news.length cap2 nu hnl (fun j u hj=>by rw[Go.WideShapes.add_plain];exact hnc j u hj) hpos (by omega) (by omega)
  have hf:=fin [] (by simp) trivial 0 hpos
  simp only[Array.empty_append]at hf
  exact⟨_,_,hrun,True.intro,hf⟩
 | some ad=>
  have hos:∃ os:List Value,os.length=rows.length*i.size∧RdL (SO S (OB.clp (.slice (some ad) rows.length rows.length) rows::O)) w rows.flatten os∧∀ j u,os[j]?=some u→w.cell? (ad.add j)=some u:=by
   rcases Nat.eq_zero_or_pos rows.length with h0 | h0
   · have hr0:=List.eq_nil_of_length_eq_zero h0
     subst hr0
     exact⟨[],by simp,trivial,fun j u hj=>by simp at hj⟩
   · obtain⟨b,off,e',_⟩:=hr.at (List.getElem?_eq_getElem h0)
     injection e' with e'
     subst e'
     obtain⟨os,g1,g2,g3⟩:=hr.flat hrl h0
     exact⟨os,g1,g2,fun j u hj=>by rw[Go.WideShapes.add_plain];exact g3 j u hj⟩
  obtain⟨os,hol,hor,hoc⟩:=hos
  have hrun:=run_append_grow (P:=P) w t ty e i z ht hi hz ad rows.length rows.length os hol hoc ⟨b2,off2,none⟩ news.length cap2 nu hnl (fun j u hj=>by rw[Go.WideShapes.add_plain];exact hnc j u hj) (by omega) (by omega) (growslice_fits (by omega) hb)
  exact⟨_,_,hrun,True.intro,fin os hol hor _ (by omega)⟩
end
section
variable {n:Rn} {N:Nat} {P:Program} {J X:World→Prop} {S S' S'':Nat→Prop} {O:List OB} {w0:World} {env:List (Nat×AV)} {Q:Exit→Act→World→Prop}
variable {o:Oper} {a:Act} {w:World} {x y:Operand} {t e:TypeId} {k:Nat} {v:Value} {rows:List (List CD)}
theorem Q8 {lo:Nat} {i:Int} (h1:Yl P t e k) (hop:o.op= .indexAddr t x y) (hi:∃ l,(OB.row v e k rows).inv l S w) (h:Rel S' w (.lit (ZeF v lo k)) (a.eval x)) (hy:Rel S'' w (.int i) (a.eval y)) (h0:0≤i) (hl:(lo:Int)+i< (rows.length:Int)) (hx:X w):
 Z5 n P o a w (Yu S X (.lit (X5 v ((lo+i.toNat)*k))) w):=by
 obtain⟨l,hi⟩:=hi
 obtain⟨g,cap,us,cur,rfl,hc⟩:=Zb0 hi (by omega)
 have hcap:rows.length≤cap:=by
  obtain⟨us,⟨_,h3⟩,_⟩:=hi
  rcases h3 with⟨h4,_⟩ | ⟨g',cap',cur',h4,_,_,h5,_⟩
  · cases h4
  · injection h4 with e1 e2 e3;omega
 have hne:¬ cap=lo:=by omega
 have hsub:ZeF (.slice (some ⟨g,0,none⟩) rows.length cap) lo k= .slice (some ⟨g,lo*k,none⟩) (rows.length-lo) (cap-lo):=by
  simp only[ZeF,if_neg hne,Option.map_some,ZbN]
  simp
 rw[hsub]at h
 have hi2:0≤i∧i< ((rows.length-lo:Nat):Int):=⟨h0,by omega⟩
 refine Zt (v:=.pointer (some ⟨g,(lo+i.toNat)*k,none⟩)) ?_ (Rel.of_lit _) hx
 rw[Nat.add_mul]
 simp[execOp,hop,h.lit,hy.lit,Instr.indexAt,asIntOf,Sem.run_bind,run_underlying h1.1,h1.2 w,hi2.1,hi2.2,ZbN]
theorem Zde {rows:List (List CD)} {m:Nat} (hm:rows.length=m) {S':Nat→Prop} (h1:P.underlying t=some (.slice e)) (hop:o.op= .call { callee:=.builtin .len,args:= #[x],argTypes:= #[t] }) (hi:∃ lo,(OB.row v e k rows).inv lo S w) (h:Rel S' w (.lit v) (a.eval x)) (hx:X w):
 Z5 n P o a w (Yu S X (.int m) w):=by
 subst hm
 obtain⟨lo,us,g1,_⟩:=hi
 refine Zt (v:=.int .i64 rows.length) ?_ (Rel.of_lit _) hx
 rcases g1.2 with⟨hv,h4⟩ | ⟨g,cap,cur,hv,_⟩
 · simp[execOp,hop,h.lit,hv,resolve,invoke,builtin,Builtin.len_,Sem.run_bind,run_underlying h1,goInt,h4]
 · simp[execOp,hop,h.lit,hv,resolve,invoke,builtin,Builtin.len_,Sem.run_bind,run_underlying h1,goInt]
theorem Zkj {α:Type} {f:α→List CD} {ops:Array Oper} {rest:List Oper} {size bytes d m s:Nat} (xs ys:List α) (hf:∀ x,(f x).length=size) (ht:ZfZ P t e size bytes) (hJ:Stab J)
 (hg:o.guard=none) (hop:o.op= .call { callee:=.builtin .append,args:= #[x,y],argTypes:= #[t,t] }) (hd:o.dst=some d) (hN:d<N) (hx:x= .tmp s) (he:env[m]?=some (s,.lit v))
 (hy:∀ a w,St All (SO S (OB.clp v (xs.map f)::O)) w0 N env (XO J S w0.heap.size (OB.clp v (xs.map f)::O)) a w→Rel (SO S (OB.clp v (xs.map f)::O)) w (.rd (.sl (ys.map f))) (a.eval y)) (hpos:0<ys.length) (hb:(xs.length+ys.length)*bytes≤140737488355328) (h63:xs.length+ys.length≤9223372036854775807)
 (next:∀ v' a w,St All (SO S (OB.row v' e size ((xs++ys).map f)::O)) w0 N ((d,.lit v')::YA d env) (XO J S w0.heap.size (OB.row v' e size ((xs++ys).map f)::O)) a w→wpListIn n.F n.d P ops Q rest a w):
 ∀ a w,St All (SO S (OB.clp v (xs.map f)::O)) w0 N env (XO J S w0.heap.size (OB.clp v (xs.map f)::O)) a w→wpListIn n.F n.d P ops Q (o::rest) a w:=by
 refine Zcv (O2:=fun v'=>OB.row v' e size ((xs++ys).map f)::O) (av:=fun v'=>.lit v') hg hd hN (fun a w h=>?_) next
 obtain⟨v',w',hrun,hok,hs⟩:=Zj3 (ty:=o.type) ht hJ h.keep h.x (Q2 hf) (hy a w h) (Q2 hf) (by simpa using hpos) (by simp only[List.length_map,maxLen];exact h63) (by simp only[List.length_map];exact hb)
 rw[←List.map_append]at hs
 have hv:a.eval x=v:=by rw[hx];exact(h.get m he).lit
 refine ZL (v:=v') (w':=w') ?_ ⟨v',hs,Rel.of_lit _ hok⟩
 simp[execOp,hop,resolve,invoke,builtin,hv,hrun,Result.andThen]
end
end Go.Proofs.YtapelgeodldlcaaGreatDoor
