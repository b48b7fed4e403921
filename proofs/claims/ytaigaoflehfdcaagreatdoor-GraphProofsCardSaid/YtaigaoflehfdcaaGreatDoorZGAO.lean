/-
  CONTRACT: postorder: its function value hands yield the needed steps, in postorder.
-/
import Derived.Test.YtaigaoflehfdcaaGreatDoorZGAN
namespace Go.Proofs.YtaigaoflehfdcaaGreatDoor
open Go.RowKit Go.Shelf
attribute [local go_sem] Oper.semAt_some
theorem Zem (u:Value) (w:World):
 Calls Tryz.prog 54 #[.agg #[u]] w fun e w'=>e= .returned (.func (.func 86) #[] #[.pointer (some ⟨w.heap.size,0,none⟩)])∧w.alloc (.cells #[u] 28)=w':=by
 go_enter Tryz.func54,Tryz.ntmps54
 go_wp2
 go_ret
 exact⟨rfl,rfl⟩
theorem Zcz:∀ args w,(callFunc 86 args).run Tryz.prog w= .ok (.enter 86 args) w:=enters_of Tryz.func86 (by kernel_rfl) rfl
set_option maxHeartbeats 1000000 in
theorem ZbJ (ss:List Stp) (hok:Okay ss) (pb:Nat) (Prot:Nat→Prop) (hp:Prot pb) (w:World) (hP:∀ k,Prot k→k<w.heap.size)
 (hd:∃ u,w.cell? ⟨pb,0,none⟩=some u∧IsSteps Prot w u ss):
 ZoM Tryz.prog 86 #[.pointer (some ⟨pb,0,none⟩)] (fun x:Nat=>.int .i64 (x:Int)) Prot 4 (post ss) w:=by
 intro n l J W hW hJ hY h0
 have hsz:=hW.size
 have hv:=ZsM ss hok l W.heap.size pb Prot hp (fun k hk=>by have:=hP k hk;omega) J hJ hY ss.length (ss.length-1) []
 have hlen:ss.length≤2000:=hok.2.1
 have hpos:1≤ss.length:=hok.1
 have hmk:=Zll ss.length hlen
 obtain⟨u,c1,hu⟩:=hd
 have c1':W.cell? ⟨pb,0,none⟩=some u:=hW.cell (p:=⟨pb,0,none⟩) trivial c1
 have hu':IsSteps Prot W u ss:=hu.keep hW fun _ _ _=>trivial
 have hpb:pb<W.heap.size:=by have:=hP _ hp;omega
 have hpb1:pb<W.heap.size+1:=by omega
 have hpb2:pb<W.heap.size+1+1:=by omega
 have hpb3:pb<W.heap.size+1+1+1:=by omega
 obtain⟨a,cap,rfl,hl,hx⟩:=hu
 clear hx c1
 have HJ:=hid hJ
 have HP:=hid hP
 clear hJ hY hP
 refine callsIn_of_wp Tryz.func86 rfl trivial ?_ rfl
 simp only[Tryz.ntmps86,List.size_toArray,List.length_cons,List.length_nil,Nat.reduceAdd,Nat.reduceSub,Array.replicate_succ,Array.replicate_zero,List.push_toArray,List.append_toArray,List.nil_append,List.cons_append]
 gi_wp2
 refine⟨trivial,fun h=>by simp[Fence.wide]at h,?_⟩
 rw[show((ss.length:Int)-1)=((ss.length-1:Nat):Int)from by omega]
 refine(hv _ (List.replicate ss.length false) (n-1) (by omega) (by omega) ?hV ?hD ?hJ ?hpre).mono ?_
 case hV=>
  refine⟨by simp,by simp,?_,?_,?_,?_,_,?_,hu'.keep (T:=Prot) ?_ fun _ _ h=>h⟩
  · repeat (first | (refine IsRow.newAt ?_;(simp;done)) | refine IsRow.alloc ?_ _)
  · repeat (first | (refine IsRow.newAt ?_;(simp;done)) | refine IsRow.alloc ?_ _)
  · repeat (first | (refine IsRow.newAt ?_;(simp;done)) | refine IsRow.alloc ?_ _)
  · repeat (first | (refine IsRow.newAt ?_;(simp;done)) | refine IsRow.alloc ?_ _)
  · exact Keeps.cell (S:=All) (by repeat (first | exact Keeps.refl _ _ | refine Keeps.alloc ?_ _)) trivial c1'
  · repeat (first | exact Keeps.refl _ _ | refine Keeps.alloc ?_ _)
 case hD=>
  intro j hj
  rw[List.getElem?_replicate,if_pos (by omega)]
  simp
 case hJ=>exact HJ.out _ _ _ h0 (Nat.le_refl _) (by repeat (first | exact Keeps.refl _ _ | refine Keeps.alloc ?_ _))
 case hpre=>exact List.prefix_refl _
 rintro e w2 ⟨rfl,D',_,_,_,hj2,_⟩
 gi_wp2
 go_end0
 exact⟨⟨_,rfl⟩,hj2⟩
end Go.Proofs.YtaigaoflehfdcaaGreatDoor
