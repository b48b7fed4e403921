/-
  CONTRACT: renumbered: a step whose Args have other numbers, in new memory.
  SHARING, in plain Lean: what share's rounds make of the steps and of the numbers.
  PLAIN LAW: the key of a step tells it; so the map finds a step where it lies.
  PLAIN LAW: share depends on the tree alone, and keeps it.
  PLAIN LAW: Expand and Ordered keep the tree; Ordered done twice is Ordered.
  CONTRACTS: the form of a proof.
  CONTRACT: postorder: the iterator over the needed steps. Its own four blocks: the box of yield, the row of marks, the box of the marks, the box of visit.
-/
import Derived.Deep.DeepCutAuto
import Derived.Test.YtaigaoflehfdcaaGreatDoorZGAM
import Derived.Test.YtaigaoflehfdcaaGreatDoorZGAH
namespace Go.Proofs.YtaigaoflehfdcaaGreatDoor
open Go.RowKit
def ZaC (now:List Int) (a:Int):Int:=now.getD a.toNat 0
set_option maxHeartbeats 800000 in
theorem Zhp (s:Stp) (now:List Int) (v vn:Value) (w:World) (hv:ZkQ All w v s) (hn:IsInts All w vn now) (hlen:s.args.length≤40) (ha:∀ a∈s.args,0≤a∧a<now.length):
 Calls Tryz.prog 55 #[v,vn] w fun e w'=>∃ nb,e= .returned (.agg #[.string s.label,.slice (some ⟨nb,0,none⟩) s.args.length s.args.length])∧w.heap.size≤nb∧IsRow w' nb 3 (ints (s.args.map (ZaC now)))∧Keeps All w w':=by
 obtain⟨va,rfl,hva⟩:=hv
 have hva':=hva
 have hn':=hn
 obtain⟨a,cap,rfl,hl,hx,h⟩:=hva
 obtain⟨a2,cap2,rfl,hl2,hx2,h2⟩:=hn
 clear h h2 hx hx2
 have Ha:=hid ha
 clear ha
 have hmk:=Zey s.args.length (by omega)
 go_enter Tryz.func55,Tryz.ntmps55
 go_wp2
 go_cut [5] (fun t5 wx=>∃ ob nb,t5= .pointer (some ⟨ob,0,none⟩)∧w.heap.size+2≤ob∧w.heap.size+2≤nb∧ob≠nb∧IsRow wx w.heap.size 69 [.string s.label,.slice a s.args.length cap]∧
  IsRow wx (w.heap.size+1) 69 [.string ⟨#[]⟩,.slice none 0 0]∧IsRow wx ob 69 [.string s.label,.slice (some ⟨nb,0,none⟩) s.args.length s.args.length]∧IsRow wx nb 3 (ints (List.replicate s.args.length 0))∧Keeps All w wx)
 case first=>
  go_region
  · go_wp2
    go_meet
    case rel=>exact⟨w.heap.size+1+1+1,w.heap.size+1+1,rfl,by omega,by omega,by omega,
     by repeat (first | (refine IsRow.newAt ?_;(simp;done)) | refine IsRow.drew ?_ | refine IsRow.alloc ?_ _),
     by repeat (first | (refine IsRow.newAt ?_;(simp;done)) | refine IsRow.drew ?_ | refine IsRow.alloc ?_ _),
     by repeat (first | (refine IsRow.newAt ?_;(simp;done)) | refine IsRow.drew ?_ | refine IsRow.alloc ?_ _),
     by repeat (first | (refine IsRow.newAt ?_;(simp;done)) | refine IsRow.drew ?_ | refine IsRow.alloc ?_ _),
     by repeat (first | exact Keeps.refl _ _ | refine Keeps.drew ?_ | refine Keeps.alloc ?_ _)⟩
  · go_wp2
    go_meet
    case rel=>exact⟨w.heap.size+1+1,w.heap.size+1+1+1,rfl,by omega,by omega,by omega,
     by repeat (first | (refine IsRow.newAt ?_;(simp;done)) | refine IsRow.drew ?_ | refine IsRow.alloc ?_ _),
     by repeat (first | (refine IsRow.newAt ?_;(simp;done)) | refine IsRow.drew ?_ | refine IsRow.alloc ?_ _),
     by repeat (first | (refine IsRow.newAt ?_;(simp;done)) | refine IsRow.drew ?_ | refine IsRow.alloc ?_ _),
     by repeat (first | (refine IsRow.newAt ?_;(simp;done)) | refine IsRow.drew ?_ | refine IsRow.alloc ?_ _),
     by repeat (first | exact Keeps.refl _ _ | refine Keeps.drew ?_ | refine Keeps.alloc ?_ _)⟩
 case rest=>
  obtain⟨ob,nb,rfl,hob,hnb,hne,r0,r1,r2,r3,hk⟩:=hcut
  have c0:=r0.cell 1
  simp only[List.getElem?_cons_succ,List.getElem?_cons_zero]at c0
  go_wp2
  go_loopw [6,7,18] (fun i6 i7 i wr=>∃ k:Nat,k≤s.args.length∧i= .int .i64 k∧IsRow wr (w.heap.size+1) 69 [.string ⟨#[]⟩,.slice none 0 0]∧
   IsRow wr ob 69 [.string s.label,.slice (some ⟨nb,0,none⟩) s.args.length s.args.length]∧IsRow wr nb 3 (ints ((s.args.map (ZaC now)).take k++List.replicate (s.args.length-k) 0))∧Keeps All w wr) (fun _ _ i _=>s.args.length-(intOf i).toNat)
  case atStart=>exact⟨0,Nat.zero_le _,rfl,r1,r2,by simpa using r3,hk⟩
  case round=>
   obtain⟨k,hkl,rfl,r1,r2,r3,hk⟩:=hrel
   by_cases hlt:k<s.args.length
   · obtain⟨q1,q2⟩:=Ha.out _ (List.getElem_mem hlt)
     have hcell:∃ b off,a=some ⟨b,off,none⟩∧wr.cell? ⟨b,off+k,none⟩=some (.int .i64 s.args[k]):=by
      obtain⟨_,_,he,_,_,h⟩:=hva'
      cases he
      rcases h with⟨h,_⟩ | ⟨b,off,rfl,hB,_,hc⟩
      · rw[h]at hlt;simp at hlt
      · exact⟨b,off,rfl,hk.cell (p:=⟨b,off+k,none⟩) trivial (hc k hlt)⟩
     have hcell2:∃ b off,a2=some ⟨b,off,none⟩∧wr.cell? ⟨b,off+s.args[k].toNat,none⟩=some (.int .i64 (ZaC now s.args[k])):=by
      obtain⟨_,_,he,_,_,h⟩:=hn'
      cases he
      have hlt2:s.args[k].toNat<now.length:=by omega
      rcases h with⟨h,_⟩ | ⟨b,off,rfl,hB,_,hc⟩
      · rw[h]at hlt2;simp at hlt2
      · exact⟨b,off,rfl,hk.cell (p:=⟨b,off+s.args[k].toNat,none⟩) trivial (by rw[hc _ hlt2];simp[ZaC,List.getD,List.getElem?_eq_getElem hlt2])⟩
     have hnext:Hid ((ints ((s.args.map (ZaC now)).take k++List.replicate (s.args.length-k) 0)).set k (.int .i64 (ZaC now s.args[k]))=ints ((s.args.map (ZaC now)).take (k+1)++List.replicate (s.args.length-(k+1)) 0)):=by
      have hf:=Zqt (s.args.map (ZaC now)) 0 k (by simpa using hlt)
      simp only[List.length_map,List.getElem_map]at hf
      rw[ZdS,hf];rfl
     have hget:=Zqu (s.args.map (ZaC now)) 0 k (by simpa using hlt)
     simp only[List.length_map]at hget
     obtain⟨b,off,rfl,c1⟩:=hcell
     obtain⟨b2,off2,rfl,c2⟩:=hcell2
     have c3:wr.cell? ⟨nb,k,none⟩=some (.int .i64 0):=by
      rw[r3.cell,Q9,hget];rfl
     clear hget
     have c4:=r3.frozen k
     have c5:=r2.cell 1
     simp only[List.getElem?_cons_succ,List.getElem?_cons_zero]at c5
     generalize s.args[k]=x at q1 q2 c1 c2 hnext
     generalize ZaC now x=y at c2 hnext
     go_wp2
     go_region
     go_wp2
     go_roundw
     case rel=>
      refine⟨k+1,by omega,by go_num,(r1.other (by omega) _ _).drew,(r2.other (by omega) _ _).drew,?_,(hk.setCell (fun(h:nb<_)=>absurd h (by omega)) _).drew⟩
      rw[←hnext.out];exact(r3.set k _).drew
     case measure=>simp[intOf];omega
   · obtain⟨d0,d1,_,_⟩:=r2.two
     obtain⟨d2,d3,d4,d5⟩:=r1.two
     obtain rfl:k=s.args.length:=by omega
     simp only[Nat.sub_self,List.replicate_zero,List.append_nil]at r3
     rw[show(s.args.map (ZaC now)).take s.args.length=s.args.map (ZaC now)from by rw[List.take_of_length_le (by simp)]]at r3
     go_wp2
     refine bodyPost_ret (v:=.agg #[.string s.label,.slice (some ⟨nb,0,none⟩) s.args.length s.args.length]) ?_ rfl ?_
     · have k2:=((r1.set 0 (.string s.label)).set 1 (.slice (some ⟨nb,0,none⟩) s.args.length s.args.length)).two
       simp[results,Tryz.results55,go_sem,k2]
     · refine⟨nb,rfl,by omega,?_,?_⟩
       · exact(r3.other (by omega) _ _).other (by omega) _ _
       · exact(hk.setCell (fun(h:w.heap.size+1<_)=>absurd h (by omega)) _).setCell (fun(h:w.heap.size+1<_)=>absurd h (by omega)) _
end Go.Proofs.YtaigaoflehfdcaaGreatDoor
namespace Go.Proofs.YtaigaoflehfdcaaGreatDoor
def ZaP (ss:List Stp) (now:List Int) (x:Nat):Stp:=⟨(ss[x]?.map Stp.label).getD ByteArray.empty,((ss[x]?.map Stp.args).getD []).map (ZaC now)⟩
def Xr (ss:List Stp) (st:List Stp×List Int) (x:Nat):List Stp×List Int:=
 (Zff st.1 (ZaP ss st.2 x),st.2.set x ((ZaT st.1 (ZaP ss st.2 x):Nat):Int))
def Yg (ss:List Stp) (o:List Nat):List Stp×List Int:=o.foldl (Xr ss) ([],List.replicate ss.length 0)
def ZaN (ss:List Stp):List Stp:=(Yg ss (post ss)).1
theorem Zdl (ss:List Stp) (o:List Nat) (x:Nat):Yg ss (o++[x])=Xr ss (Yg ss o) x:=by simp[Yg]
theorem Zfa (ss:List Stp) (s:Stp):(Zff ss s).length≤ss.length+1:=by
 unfold Zff
 split<;>simp
theorem Zkn (k:ByteArray×ByteArray):∀(K:List (ByteArray×ByteArray)) (i n:Nat),Qt k K i=some n→i≤n∧n<i+K.length
 | [],i,n,h=>by simp[Qt]at h
 | x::K,i,n,h=>by
  simp only[Qt]at h
  split at h
  · cases h;simp
  · have:=Zkn k K (i+1) n h;simp;omega
theorem Zr6 (ss:List Stp) (s:Stp):ZaT ss s≤ss.length:=by
 unfold ZaT
 split
 · rename_i n h
   have:=Zkn _ _ _ _ h
   simp at this;omega
 · exact Nat.le_refl _
theorem ZbG (ss:List Stp) (o:List Nat):(Yg ss o).1.length≤o.length∧(Yg ss o).2.length=ss.length∧∀ y∈(Yg ss o).2,0≤y∧y≤(o.length:Int):=by
 have key:∀(o:List Nat) (st:List Stp×List Int) (m:Nat),st.1.length≤m→st.2.length=ss.length→(∀ y∈st.2,0≤y∧y≤(m:Int))→
  (o.foldl (Xr ss) st).1.length≤m+o.length∧(o.foldl (Xr ss) st).2.length=ss.length∧∀ y∈(o.foldl (Xr ss) st).2,0≤y∧y≤((m+o.length:Nat):Int):=by
  intro o
  induction o with
  | nil=>intro st m h1 h2 h3;exact⟨h1,h2,h3⟩
  | cons x o ih=>
   intro st m h1 h2 h3
   have:=ih (Xr ss st x) (m+1) (by have:=Zfa st.1 (ZaP ss st.2 x);simp only[Xr];omega) (by simp[Xr,h2]) (fun y hy=>by
    simp only[Xr]at hy
    rcases List.mem_or_eq_of_mem_set hy with h | h
    · have:=h3 y h;omega
    · have:=Zr6 st.1 (ZaP ss st.2 x);omega)
   simp only[List.foldl_cons,List.length_cons]
   rw[show m+(o.length+1)=m+1+o.length by omega]
   exact this
 have:=key o ([],List.replicate ss.length 0) 0 (by simp) (by simp) (fun y hy=>by rw[List.eq_of_mem_replicate hy];omega)
 simpa [Yg]using this
def Zo5 (l:List UInt8):Nat:=l.foldl (fun acc b=>acc*10+(b.toNat-48)) 0
theorem ZkX (l:List UInt8) (b:UInt8):Zo5 (l++[b])=Zo5 l*10+(b.toNat-48):=by simp[Zo5]
theorem XJ (u:Nat):Zo5 (Lib.decDigits u)=u∧∀ b∈Lib.decDigits u,48≤b.toNat∧b.toNat≤57:=by
 induction u using Nat.strongRecOn with
 | _ u ih=>
  have hb:∀ d:Nat,d<10→(UInt8.ofNat (48+d)).toNat=48+d:=fun d hd=>by
   rw[UInt8.toNat_ofNat'];omega
  by_cases h:u<10
  · rw[Lib.decDigits,dif_pos h]
    have h1:=hb u h
    refine⟨?_,?_⟩
    · show 0*10+((UInt8.ofNat (48+u)).toNat-48)=u
      rw[h1];omega
    · intro b hb2
      simp only[List.mem_singleton]at hb2
      rw[hb2,h1];omega
  · rw[Lib.decDigits,dif_neg h]
    obtain⟨i1,i2⟩:=ih (u/10) (by omega)
    have h1:=hb (u%10) (by omega)
    refine⟨?_,?_⟩
    · rw[ZkX,i1,h1];omega
    · intro b hb2
      rcases List.mem_append.1 hb2 with h2 | h2
      · exact i2 b h2
      · simp only[List.mem_singleton]at h2
        rw[h2,h1];omega
theorem ZcB {a b:Nat} (h:Lib.decDigits a=Lib.decDigits b):a=b:=by
 rw[←(XJ a).1,←(XJ b).1,h]
theorem Zqh {a b:Int} (h:Lib.itoa a=Lib.itoa b):a=b:=by
 have no:∀(u v:Nat),Lib.decDigits u≠45::Lib.decDigits v:=fun u v he=>by
  have:=(XJ u).2 45 (by rw[he];simp)
  have h45:(45:UInt8).toNat=45:=rfl
  omega
 unfold Lib.itoa at h
 split at h<;>split at h
 · have:=ZcB (List.cons.inj h).2
   omega
 · exact absurd h.symm (no _ _)
 · exact absurd h (no _ _)
 · have:=ZcB h
   omega
theorem ZhM (a:Int):∀ b∈Lib.itoa a,b≠32:=by
 intro b hb he
 subst he
 have h32:(32:UInt8).toNat=32:=rfl
 unfold Lib.itoa at hb
 split at hb
 · rcases List.mem_cons.1 hb with h | h
   · exact absurd h (by decide)
   · have:=(XJ _).2 _ h;omega
 · have:=(XJ _).2 _ hb;omega
theorem Zmq:∀(l m x y:List UInt8),(∀ b∈l,b≠32)→(∀ b∈m,b≠32)→l++32::x=m++32::y→l=m∧x=y
 | [],[],x,y,_,_,h=>⟨rfl,(List.cons.inj h).2⟩
 | [],b::m,x,y,_,hm,h=>absurd (List.cons.inj h).1.symm (hm b (by simp))
 | b::l,[],x,y,hl,_,h=>absurd (List.cons.inj h).1 (hl b (by simp))
 | b::l,c::m,x,y,hl,hm,h=>by
  obtain⟨h1,h2⟩:=List.cons.inj h
  obtain⟨h3,h4⟩:=Zmq l m x y (fun b hb=>hl b (by simp[hb])) (fun b hb=>hm b (by simp[hb])) h2
  exact⟨by rw[h1,h3],h4⟩
theorem ZfL:∀(l m:List Int),Y0 l=Y0 m→l=m
 | [],[],_=>rfl
 | [],b::m,h=>by simp[Y0]at h
 | a::l,[],h=>by simp[Y0]at h
 | a::l,b::m,h=>by
  have e:∀(a:Int) (l:List Int),Y0 (a::l)=Lib.itoa a++32::Y0 l:=fun a l=>by simp[Y0]
  rw[e,e]at h
  obtain⟨h1,h2⟩:=Zmq _ _ _ _ (ZhM a) (ZhM b) h
  rw[Zqh h1,ZfL l m h2]
theorem Zdt {s t:Stp} (h:Yx s=Yx t):s=t:=by
 unfold Yx at h
 obtain⟨h1,h2⟩:=Prod.mk.inj h
 refine Stp.ext' h1 (ZfL _ _ ?_)
 have h3:=congrArg (fun b:ByteArray=>b.data.toList) h2
 simpa using h3
theorem ZeQ (s:Stp):∀(out:List Stp) (i:Nat),Qt (Yx s) (out.map Yx) i=if s∈out then some (i+out.idxOf s)else none
 | [],i=>by simp[Qt]
 | t::out,i=>by
  simp only[List.map_cons,Qt]
  by_cases h:s=t
  · subst h
    simp
  · have hk:¬ Yx t=Yx s:=fun e=>h (Zdt e).symm
    have hk':¬ Yx s=Yx t:=fun e=>h (Zdt e)
    have ih:=ZeQ s out (i+1)
    simp only[hk',if_false,ih,List.mem_cons,h,false_or]
    have ht:(t==s)=false:=by simp;exact fun e=>h e.symm
    simp only[List.idxOf_cons,ht,cond_false]
    split
    · congr 1;omega
    · rfl
theorem Zfb (out:List Stp) (s:Stp):Zff out s=if s∈out then out else out++[s]:=by
 unfold Zff
 rw[ZeQ]
 split<;>rename_i h
 · split at h
   · rename_i h2;rw[if_pos h2]
   · cases h
 · split at h
   · cases h
   · rename_i h2;rw[if_neg h2]
theorem Zd5 (out:List Stp) (s:Stp):ZaT out s=out.idxOf s:=by
 unfold ZaT
 rw[ZeQ]
 by_cases h:s∈out
 · simp[h]
 · rw[if_neg h];exact(List.idxOf_eq_length h).symm
def Back (ss:List Stp):Prop:=∀ i (h:i<ss.length),∀ a∈ss[i].args,0≤a∧a< (i:Int)
theorem Back.kids {ss:List Stp} (h:Back ss):∀ i,∀ a∈ZQ ss i,a<i:=by
 intro i a ha
 by_cases hi:i<ss.length
 · rw[X5 hi]at ha
   obtain⟨b,hb,rfl⟩:=List.mem_map.1 ha
   have:=h i hi b hb
   omega
 · simp[ZQ,List.getElem?_eq_none (Nat.le_of_not_lt hi)]at ha
theorem Okay.back {ss:List Stp} (h:Okay ss):Back ss:=fun i hi=>(h.2.2 i hi).2
theorem Back.tree {ss:List Stp} (hb:Back ss) {i:Nat} (h:i<ss.length):treeAt ss i= .node ss[i].label (ss[i].args.map fun a=>treeAt ss a.toNat):=by
 rw[Zeb hb.kids,X5 h,List.map_map]
 simp[h]
theorem Back.ahead {ss ts:List Stp} (hs:Back ss) (ht:Back ts) (hp:ss<+:ts):∀ i,i<ss.length→treeAt ts i=treeAt ss i:=by
 intro i
 induction i using Nat.strongRecOn with
 | _ i ih=>
  intro hi
  obtain⟨r,rfl⟩:=hp
  have hi2:i< (ss++r).length:=by simp;omega
  rw[ht.tree hi2,hs.tree hi]
  simp only[List.getElem_append_left hi,Tree.node.injEq,true_and]
  refine List.map_congr_left fun a ha=>?_
  have:=hs i hi a ha
  exact ih a.toNat (by omega) (by omega)
structure Terse (ss:List Stp):Prop where
 nodup:ss.Nodup
 back:Back ss
theorem Terse.nil:Terse []:=⟨List.nodup_nil,fun i h=>by simp at h⟩
theorem Back.snoc {ss:List Stp} {s:Stp} (h:Back ss) (hs:∀ a∈s.args,0≤a∧a< (ss.length:Int)):Back (ss++[s]):=by
 intro i hi a ha
 by_cases hl:i<ss.length
 · simp only[List.getElem_append_left hl]at ha
   exact h i hl a ha
 · obtain rfl:i=ss.length:=by simp at hi;omega
   simp at ha
   exact hs a ha
theorem Terse.one {ss:List Stp} (h:Terse ss):∀ i j,i<ss.length→j<ss.length→treeAt ss i=treeAt ss j→i=j:=by
 intro i
 induction i using Nat.strongRecOn with
 | _ i ih=>
  intro j hi hj he
  rw[h.back.tree hi,h.back.tree hj]at he
  obtain⟨h1,h2⟩:=Tree.node.inj he
  have hlen:ss[i].args.length=ss[j].args.length:=by simpa using congrArg List.length h2
  have hargs:ss[i].args=ss[j].args:=by
   refine List.ext_getElem hlen fun k hk1 hk2=>?_
   have h3:(ss[i].args.map fun a=>treeAt ss a.toNat)[k]'(by simpa using hk1)=(ss[j].args.map fun a=>treeAt ss a.toNat)[k]'(by simpa using hk2):=by simp only[h2]
   simp only[List.getElem_map]at h3
   have b1:=h.back i hi _ (List.getElem_mem hk1)
   have b2:=h.back j hj _ (List.getElem_mem hk2)
   have:=ih ss[i].args[k].toNat (by omega) ss[j].args[k].toNat (by omega) (by omega) h3
   omega
  have hst:ss[i]=ss[j]:=Stp.ext' h1 hargs
  exact(List.getElem_inj h.nodup).1 hst
mutual
def shT:Tree→List Stp→List Stp×Nat
 | .node l ks,out=>(Zff (shTs ks out).1 ⟨l,(shTs ks out).2⟩,ZaT (shTs ks out).1 ⟨l,(shTs ks out).2⟩)
def shTs:List Tree→List Stp→List Stp×List Int
 | [],out=>(out,[])
 | k::ks,out=>((shTs ks (shT k out).1).1,((shT k out).2:Int)::(shTs ks (shT k out).1).2)
end
structure ShOk (out:List Stp) (t:Tree) (r:List Stp×Nat):Prop where
 lean:Terse r.1
 pre:out<+:r.1
 lt:r.2<r.1.length
 tree:treeAt r.1 r.2=t
theorem ZoK {out:List Stp} (h:Terse out) (s:Stp) (hs:∀ a∈s.args,0≤a∧a< (out.length:Int)):Terse (Zff out s)∧out<+:Zff out s∧ZaT out s< (Zff out s).length∧(Zff out s)[ZaT out s]?=some s:=by
 rw[Zfb,Zd5]
 by_cases hm:s∈out
 · rw[if_pos hm]
   refine⟨h,List.prefix_rfl,List.idxOf_lt_length_iff.2 hm,?_⟩
   rw[List.getElem?_eq_getElem (List.idxOf_lt_length_iff.2 hm),List.getElem_idxOf]
 · rw[if_neg hm,List.idxOf_eq_length hm]
   refine⟨⟨?_,h.back.snoc hs⟩,List.prefix_append _ _,by simp,by simp⟩
   rw[List.nodup_append]
   exact⟨h.nodup,by simp,fun a ha b hb=>by simp at hb;rintro rfl;exact hm (hb▸ha)⟩
mutual
theorem shT_ok:∀(t:Tree) (out:List Stp),Terse out→ShOk out t (shT t out)
 | .node l ks,out,h=>by
  obtain⟨h1,h2,h3,h4,h5⟩:=shTs_ok ks out h
  obtain⟨a1,a2,a3,a4⟩:=ZoK h1 ⟨l,(shTs ks out).2⟩ (fun a ha=>h4 a ha)
  refine⟨a1,h2.trans a2,a3,?_⟩
  show treeAt (Zff (shTs ks out).1 ⟨l,(shTs ks out).2⟩) (ZaT (shTs ks out).1 ⟨l,(shTs ks out).2⟩)=_
  rw[a1.back.tree a3]
  have he:=a4
  rw[List.getElem?_eq_getElem a3]at he
  rw[Option.some.inj he]
  simp only[Tree.node.injEq,true_and]
  refine(List.map_congr_left fun a ha=>?_).trans h5
  have:=h4 a ha
  exact h1.back.ahead a1.back a2 a.toNat (by omega)
theorem shTs_ok:∀(ks:List Tree) (out:List Stp),Terse out→Terse (shTs ks out).1∧out<+:(shTs ks out).1∧(shTs ks out).2.length=ks.length∧
 (∀ a∈(shTs ks out).2,0≤a∧a< ((shTs ks out).1.length:Int))∧((shTs ks out).2.map fun a=>treeAt (shTs ks out).1 a.toNat)=ks
 | [],out,h=>by simp[shTs,h]
 | k::ks,out,h=>by
  obtain⟨b1,b2,b3,b4⟩:=shT_ok k out h
  obtain⟨c1,c2,c3,c4,c5⟩:=shTs_ok ks _ b1
  simp only[shTs]
  have hle:=c2.length_le
  refine⟨c1,b2.trans c2,by simp[c3],?_,?_⟩
  · intro a ha
    rcases List.mem_cons.1 ha with h | h
    · omega
    · exact c4 a h
  · simp only[List.map_cons,c5,Int.toNat_natCast,List.cons.injEq,and_true]
    rw[b1.back.ahead c1.back c2 _ b3,b4]
end
theorem ZmA {out:List Stp} (h:Terse out):∀ n,n<out.length→shT (treeAt out n) out=(out,n):=by
 intro n
 induction n using Nat.strongRecOn with
 | _ n ih=>
  intro hn
  rw[h.back.tree hn]
  have hk:∀(l:List Int),(∀ a∈l,0≤a∧a< (n:Int))→shTs (l.map fun a=>treeAt out a.toNat) out=(out,l):=by
   intro l
   induction l with
   | nil=>intro _;rfl
   | cons a l ihl=>
    intro hl
    have ha:=hl a (by simp)
    simp only[List.map_cons,shTs,ih a.toNat (by omega) (by omega),ihl fun b hb=>hl b (by simp[hb])]
    congr 2
    omega
  simp only[shT,hk _ (h.back n hn)]
  have he:(⟨out[n].label,out[n].args⟩:Stp)=out[n]:=rfl
  rw[he,Zfb,Zd5,if_pos (List.getElem_mem hn),List.Nodup.idxOf_getElem h.nodup]
structure ShSt (ss:List Stp) (pre:List Nat) (outs:List Stp) (now:List Int):Prop where
 lean:Terse outs
 len:now.length=ss.length
 at_:∀ x∈pre,∃ n:Nat,now[x]?=some (n:Int)∧n<outs.length∧treeAt outs n=treeAt ss x
theorem ShSt.round {ss:List Stp} {pre:List Nat} {outs:List Stp} {now:List Int} {x:Nat} (hok:Okay ss) (h:ShSt ss pre outs now) (hx:x<ss.length) (hxp:x∉pre) (hk:∀ a∈ZQ ss x,a∈pre):
 ShSt ss (pre++[x]) (Xr ss (outs,now) x).1 (Xr ss (outs,now) x).2∧outs<+:(Xr ss (outs,now) x).1∧
  ∀(ns:List Int),(∀ a∈ns,0≤a∧a< (outs.length:Int))→(ns.map fun a=>treeAt outs a.toNat)=(ZQ ss x).map (treeAt ss)→ZaP ss now x=⟨ss[x].label,ns⟩:=by
 have hargs:∀ a∈ss[x].args,∃ n:Nat,ZaC now a=(n:Int)∧n<outs.length∧treeAt outs n=treeAt ss a.toNat:=by
  intro a ha
  obtain⟨n,h1,h2,h3⟩:=h.at_ a.toNat (hk _ (by rw[X5 hx];exact List.mem_map.2 ⟨a,ha,rfl⟩))
  exact⟨n,by rw[ZaC,List.getD_eq_getElem?_getD,h1];rfl,h2,h3⟩
 have hst:ZaP ss now x=⟨ss[x].label,ss[x].args.map (ZaC now)⟩:=by simp[ZaP,hx]
 have hb:∀ a∈(ZaP ss now x).args,0≤a∧a< (outs.length:Int):=by
  rw[hst]
  intro a ha
  obtain⟨b,hb,rfl⟩:=List.mem_map.1 ha
  obtain⟨n,h1,h2,_⟩:=hargs b hb
  rw[h1];omega
 obtain⟨a1,a2,a3,a4⟩:=ZoK h.lean (ZaP ss now x) hb
 refine⟨⟨a1,by simp[Xr,h.len],?_⟩,a2,?_⟩
 · intro y hy
   by_cases hyx:y=x
   · subst hyx
     refine⟨ZaT outs (ZaP ss now y),by simp only[Xr];rw[List.getElem?_set_self (by rw[h.len];exact hx)],a3,?_⟩
     show treeAt (Zff outs (ZaP ss now y)) _=_
     have he:=a4
     rw[List.getElem?_eq_getElem a3]at he
     have he':=Option.some.inj he
     rw[a1.back.tree a3,he',hok.back.tree hx,hst]
     simp only[Tree.node.injEq,true_and,List.map_map]
     refine List.map_congr_left fun a ha=>?_
     obtain⟨n,h1,h2,h3⟩:=hargs a ha
     simp only[Function.comp_apply,h1,Int.toNat_natCast]
     rw[←h3]
     rw[hst]at a1 a2
     exact h.lean.back.ahead a1.back a2 n h2
   · have hyp:y∈pre:=by
      rcases List.mem_append.1 hy with h | h
      · exact h
      · simp at h;exact absurd h hyx
     obtain⟨n,h1,h2,h3⟩:=h.at_ y hyp
     refine⟨n,by simp only[Xr];rw[List.getElem?_set_ne (fun e=>hyx e.symm)];exact h1,Nat.lt_of_lt_of_le h2 a2.length_le,?_⟩
     rw[←h3]
     exact h.lean.back.ahead a1.back a2 n h2
 · intro ns hns he
   rw[hst]
   congr 1
   rw[X5 hx,List.map_map]at he
   have hlen:ns.length=ss[x].args.length:=by simpa using congrArg List.length he
   refine List.ext_getElem (by simp[hlen]) fun k hk1 hk2=>?_
   simp only[List.length_map]at hk1
   obtain⟨n,h1,h2,h3⟩:=hargs _ (List.getElem_mem hk1)
   simp only[List.getElem_map,h1]
   have hb:=hns _ (List.getElem_mem hk2)
   have h4:(ns.map fun a=>treeAt outs a.toNat)[k]'(by simpa using hk2)=(ss[x].args.map (treeAt ss∘Int.toNat))[k]'(by simpa using hk1):=by simp only[he]
   simp only[List.getElem_map,Function.comp_apply]at h4
   have:=h.lean.one n ns[k].toNat h2 (by omega) (h3.trans h4.symm)
   omega
theorem Zfx {ss:List Stp} (hok:Okay ss):∀(f i:Nat) (pre:List Nat),i<f→i<ss.length→Shut (ZQ ss) pre→ShSt ss pre (Yg ss pre).1 (Yg ss pre).2→
 ShSt ss (Qs (ZQ ss) f i pre) (Yg ss (Qs (ZQ ss) f i pre)).1 (Yg ss (Qs (ZQ ss) f i pre)).2∧
  (Yg ss (Qs (ZQ ss) f i pre)).1=(shT (treeAt ss i) (Yg ss pre).1).1
 | 0,i,pre,h,_,_,_=>by omega
 | f+1,i,pre,hf,hi,hs,hst=>by
  by_cases hm:i∈pre
  · have ht:Qs (ZQ ss) (f+1) i pre=pre:=by simp[Qs,hm]
    rw[ht]
    refine⟨hst,?_⟩
    obtain⟨n,h1,h2,h3⟩:=hst.at_ i hm
    rw[←h3,ZmA hst.lean n h2]
  · have ht:Qs (ZQ ss) (f+1) i pre=(ZQ ss i).foldl (fun o a=>Qs (ZQ ss) f a o) pre++[i]:=by simp[Qs,hm]
    have key:∀(l:List Nat) (pre:List Nat),(∀ a∈l,a<i)→Shut (ZQ ss) pre→ShSt ss pre (Yg ss pre).1 (Yg ss pre).2→
     ShSt ss (l.foldl (fun o a=>Qs (ZQ ss) f a o) pre) (Yg ss (l.foldl (fun o a=>Qs (ZQ ss) f a o) pre)).1 (Yg ss (l.foldl (fun o a=>Qs (ZQ ss) f a o) pre)).2∧
      (Yg ss (l.foldl (fun o a=>Qs (ZQ ss) f a o) pre)).1=(shTs (l.map (treeAt ss)) (Yg ss pre).1).1:=by
     intro l
     induction l with
     | nil=>intro pre _ _ h;exact⟨h,rfl⟩
     | cons a l ih=>
      intro pre hl h1 h2
      have ha:=hl a (by simp)
      obtain⟨i1,i2⟩:=Zfx hok f a pre (by omega) (by omega) h1 h2
      have h3:=Zcf (ZQ ss) id (fun x a ha=>hok.kid ha) f a pre (by simp only[id];omega) h1
      obtain⟨j1,j2⟩:=ih (Qs (ZQ ss) f a pre) (fun b hb=>hl b (by simp[hb])) h3 i1
      refine⟨j1,?_⟩
      rw[List.foldl_cons,j2,i2]
      rfl
    have hshut:=Zcf (ZQ ss) id (fun x a ha=>hok.kid ha) (f+1) i pre (by simp only[id];omega) hs
    obtain⟨k1,k2⟩:=key (ZQ ss i) pre (fun a ha=>hok.kid ha) hs hst
    rw[ht]at hshut ⊢
    obtain⟨n1,n2⟩:=hshut _ _ List.prefix_rfl
    generalize (ZQ ss i).foldl (fun o a=>Qs (ZQ ss) f a o) pre=pre' at k1 k2 n1 n2 ⊢
    obtain⟨r1,r2,r3⟩:=k1.round hok hi n1 n2
    rw[Zdl]
    refine⟨r1,?_⟩
    obtain⟨t1,t2,t3,t4,t5⟩:=shTs_ok ((ZQ ss i).map (treeAt ss)) (Yg ss pre).1 hst.lean
    rw[←k2]at t4 t5
    have hstp:=r3 _ t4 t5
    show Zff (Yg ss pre').1 (ZaP ss (Yg ss pre').2 i)=_
    rw[hstp,Zeb hok.kids,k2]
    simp[shT,hi]
theorem Zed {ss:List Stp} (hok:Okay ss):ZaN ss=(shT (Zav ss) []).1:=by
 have h0:=hok.1
 have h:=Zfx hok ss.length (ss.length-1) [] (by omega) (by omega) (ZjH _) ⟨Terse.nil,by simp[Yg],fun x hx=>by cases hx⟩
 exact h.2
mutual
theorem shT_new:∀(t:Tree) (out:List Stp),Terse out→∀ p,out.length≤p→p< (shT t out).1.length→tsize (treeAt (shT t out).1 p)≤tsize t
 | .node l ks,out,h,p,h1,h2=>by
  obtain⟨a1,a2,a3,a4,a5⟩:=shTs_ok ks out h
  have hw:=shT_ok (.node l ks) out h
  by_cases hp:p< (shTs ks out).1.length
  · have h3:=shTs_new ks out h p h1 hp
    have hpre:(shTs ks out).1<+:(shT (.node l ks) out).1:=by
     show _<+:Zff _ _
     rw[Zfb]
     split
     · exact List.prefix_rfl
     · exact List.prefix_append _ _
    rw[a1.back.ahead hw.lean.back hpre p hp]
    simp only[tsize]
    omega
  · have hlen:(shT (.node l ks) out).1.length≤(shTs ks out).1.length+1:=Zfa _ _
    have hat:(shT (.node l ks) out).2=p:=by
     show ZaT _ _=p
     have hgt:(Zff (shTs ks out).1 ⟨l,(shTs ks out).2⟩).length≠(shTs ks out).1.length:=by
      show(shT (.node l ks) out).1.length≠_
      omega
     rw[Zfb]at hgt
     rw[Zd5]
     split at hgt
     · exact absurd rfl hgt
     · rename_i hm
       rw[List.idxOf_eq_length hm]
       omega
    have:=hw.tree
    rw[hat]at this
    rw[this]
    exact Nat.le_refl _
theorem shTs_new:∀(ks:List Tree) (out:List Stp),Terse out→∀ p,out.length≤p→p< (shTs ks out).1.length→tsize (treeAt (shTs ks out).1 p)≤tsizes ks
 | [],out,h,p,h1,h2=>by simp only[shTs]at h2;omega
 | k::ks,out,h,p,h1,h2=>by
  obtain⟨b1,b2,b3,b4⟩:=shT_ok k out h
  obtain⟨c1,c2,c3,c4,c5⟩:=shTs_ok ks _ b1
  simp only[tsizes]
  by_cases hp:p< (shT k out).1.length
  · have h3:=shT_new k out h p h1 hp
    show tsize (treeAt (shTs ks (shT k out).1).1 p)≤_
    rw[b1.back.ahead c1.back c2 p hp]
    omega
  · have h3:=shTs_new ks _ b1 p (by omega) h2
    show tsize (treeAt (shTs ks (shT k out).1).1 p)≤_
    omega
end
mutual
theorem flat_tree:∀(t:Tree) (pre:List Stp),Back pre→Back (pre++flat t pre.length)∧treeAt (pre++flat t pre.length) (pre.length+tsize t-1)=t
 | .node l ks,pre,h=>by
  obtain⟨h1,h2,h3⟩:=flats_tree ks pre h
  have hlen:(pre++(flats ks pre.length).1).length=pre.length+tsizes ks:=by rw[List.length_append,flats_length]
  have hb:Back (pre++flat (.node l ks) pre.length):=by
   simp only[flat,←List.append_assoc]
   exact h1.snoc fun a ha=>by rw[hlen];exact h2 a ha
  refine⟨hb,?_⟩
  simp only[flat,tsize,←List.append_assoc]at hb ⊢
  have hi:pre.length+(tsizes ks+1)-1< (pre++(flats ks pre.length).1++[(⟨l,(flats ks pre.length).2⟩:Stp)]).length:=by simp[flats_length]
  rw[hb.tree hi]
  have hget:(pre++(flats ks pre.length).1++[(⟨l,(flats ks pre.length).2⟩:Stp)])[pre.length+(tsizes ks+1)-1]=⟨l,(flats ks pre.length).2⟩:=by
   rw[List.getElem_append_right (by rw[hlen];omega)]
   simp
  rw[hget]
  simp only[Tree.node.injEq,true_and]
  refine(List.map_congr_left fun a ha=>?_).trans h3
  have:=h2 a ha
  exact h1.ahead hb (List.prefix_append _ _) a.toNat (by rw[hlen];omega)
theorem flats_tree:∀(ks:List Tree) (pre:List Stp),Back pre→Back (pre++(flats ks pre.length).1)∧(∀ a∈(flats ks pre.length).2,0≤a∧a< ((pre.length+tsizes ks:Nat):Int))∧
 ((flats ks pre.length).2.map fun a=>treeAt (pre++(flats ks pre.length).1) a.toNat)=ks
 | [],pre,h=>by simp[flats,h]
 | k::ks,pre,h=>by
  obtain⟨h1,h2⟩:=flat_tree k pre h
  have hlen:(pre++flat k pre.length).length=pre.length+(flat k pre.length).length:=List.length_append
  obtain⟨h3,h4,h5⟩:=flats_tree ks (pre++flat k pre.length) h1
  have hb:=Zb2 (k::ks) pre.length
  rw[hlen]at h3 h4 h5
  simp only[flats,List.append_assoc]at h3 h5 hb ⊢
  refine⟨h3,hb,?_⟩
  simp only[List.map_cons,List.cons.injEq]
  refine⟨?_,h5⟩
  have hp:=Zg8 k
  rw[flat_length]at hlen ⊢
  rw[show(((pre.length+tsize k:Nat):Int)-1).toNat=pre.length+tsize k-1 by omega]
  rw[show pre++(flat k pre.length++(flats ks (pre.length+tsize k)).1)=(pre++flat k pre.length)++(flats ks (pre.length+tsize k)).1 by rw[List.append_assoc]]
  rw[flat_length,←List.append_assoc]at h3
  refine(h1.ahead h3 (List.prefix_append _ _) _ (by rw[hlen];omega)).trans h2
end
mutual
def slim:Tree→Prop
 | .node _ ks=>ks.length≤40∧slims ks
def slims:List Tree→Prop
 | []=>True
 | k::ks=>slim k∧slims ks
end
theorem Zhj:∀(ks:List Tree),(∀ k∈ks,slim k)→slims ks
 | [],_=>trivial
 | k::ks,h=>⟨h k (by simp),Zhj ks fun x hx=>h x (by simp[hx])⟩
theorem Zms {ss:List Stp} (hok:Okay ss) (i:Nat):i<ss.length→slim (treeAt ss i):=by
 induction i using Nat.strongRecOn with
 | _ i ih=>
  intro hi
  rw[hok.back.tree hi]
  refine⟨by rw[List.length_map];exact(hok.2.2 i hi).1,Zhj _ fun k hk=>?_⟩
  obtain⟨a,ha,rfl⟩:=List.mem_map.1 hk
  have:=(hok.2.2 i hi).2 a ha
  exact ih a.toNat (by omega) (by omega)
mutual
theorem flat_slim:∀(t:Tree) (n:Nat),slim t→∀ s∈flat t n,s.args.length≤40
 | .node l ks,n,h,s,hs=>by
  simp only[flat,List.mem_append,List.mem_singleton]at hs
  rcases hs with hs | hs
  · exact flats_slim ks n h.2 s hs
  · rw[hs]
    show(flats ks n).2.length≤40
    rw[QV];exact h.1
theorem flats_slim:∀(ks:List Tree) (n:Nat),slims ks→∀ s∈(flats ks n).1,s.args.length≤40
 | [],n,h,s,hs=>by simp[flats]at hs
 | k::ks,n,h,s,hs=>by
  simp only[flats,List.mem_append]at hs
  rcases hs with hs | hs
  · exact flat_slim k n h.1 s hs
  · exact flats_slim ks _ h.2 s hs
end
theorem ZbM (ss:List Stp):(ZL ss).length=tsize (Zav ss):=flat_length _ _
theorem ZlE {ss:List Stp} (hok:Okay ss) (hb:tsize (Zav ss)≤2000):Okay (ZL ss)∧Zav (ZL ss)=Zav ss:=by
 have h0:=hok.1
 obtain⟨h1,h2⟩:=flat_tree (Zav ss) [] Terse.nil.back
 have hl:=ZbM ss
 have hp:=Zg8 (Zav ss)
 simp only[List.nil_append,List.length_nil,Nat.zero_add]at h1 h2
 refine⟨⟨by omega,by omega,fun i hi=>⟨flat_slim _ _ (Zms hok _ (by omega)) _ (List.getElem_mem hi),h1 i hi⟩⟩,?_⟩
 show treeAt (ZL ss) ((ZL ss).length-1)=_
 rw[hl]
 exact h2

end Go.Proofs.YtaigaoflehfdcaaGreatDoor
namespace Go.Proofs.YtaigaoflehfdcaaGreatDoor
open Go.RowKit Go.Shelf
theorem Zqy:∀ args w,(callFunc 64 args).run Tryz.prog w= .ok (.enter 64 args) w:=enters_of Tryz.func64 (by kernel_rfl) rfl
set_option maxHeartbeats 400000 in
theorem ZnP (ss:List Stp) (v:Value) (w:World) (hv:IsProof All w v ss):
 Calls Tryz.prog 36 #[v] w fun e w'=>e= .returned (.int .i64 (X1 ss))∧Keeps All w w':=by
 obtain⟨u,rfl,a,cap,rfl,hl,h⟩:=hv
 by_cases h1:ss.length<1
 · go_enter Tryz.func36,Tryz.ntmps36
   go_wp2
   go_ret
   exact⟨by simp[X1,h1],(Keeps.refl _ _).alloc _⟩
 by_cases h2:2000<ss.length
 · go_enter Tryz.func36,Tryz.ntmps36
   go_wp2
   go_ret
   exact⟨by simp[X1,h2],(Keeps.refl _ _).alloc _⟩
 rcases h with⟨rfl,_⟩ | ⟨b,off,rfl,hB,_,hc⟩
 · simp at h1
 have hM:Hid (X1 ss=Zaa 0 ss):=by simp[Hid,X1,h1,h2]
 have Hc:=hid hc
 clear hc
 go_enter Tryz.func36,Tryz.ntmps36
 go_wp2
 go_loopw [3,4,18] (fun i3 i4 i wr=>∃ k:Nat,k≤ss.length∧i= .int .i64 k∧Hid (Zaa 0 ss=Zaa k (ss.drop k))∧Keeps All (w.alloc (.cells #[.slice (some ⟨b,off,none⟩) ss.length cap] 28)) wr) (fun _ _ i _=>ss.length-(intOf i).toNat)
 case atStart=>exact⟨0,Nat.zero_le _,rfl,by simp[Hid],Keeps.refl _ _⟩
 case round=>
  obtain⟨k,hk,rfl,hn,hb⟩:=hrel
  by_cases hlt:k<ss.length
  · have hdrop:Hid (ss.drop k=ss[k]::ss.drop (k+1)):=List.drop_eq_getElem_cons hlt
    obtain⟨c1,va,c2,hva⟩:=Hc.out k hlt
    have hk0:Keeps All w wr:=((Keeps.refl All w).alloc _).trans hb
    have e1:wr.cell? ⟨b,off+k*2,none⟩=some (.string ss[k].label):=hk0.cell (p:=⟨b,off+k*2,none⟩) trivial c1
    have e2:wr.cell? ⟨b,off+k*2+1,none⟩=some va:=hk0.cell (p:=⟨b,off+k*2+1,none⟩) trivial c2
    clear c1 c2
    have hva2:IsInts All wr va ss[k].args:=hva.keep hk0 fun _ _ h=>h
    obtain⟨a2,cap2,rfl,hl2,hx2,h2'⟩:=hva
    clear h2'
    have hf:Hid (Zaa k (ss.drop k)=if 40<ss[k].args.length then 4 else if ss[k].args.any (XX k)then 3 else Zaa (k+1) (ss.drop (k+1))):=by rw[hdrop.out];rfl
    by_cases hlen:40<ss[k].args.length
    · go_wp2
      go_ret
      exact⟨ZcW (by rw[hM.out,hn.out,hf.out,if_pos hlen]),(((hk0.alloc _).alloc _))⟩
    have hcall:=Zfv 64 #[.pointer (some ⟨wr.heap.size,0,none⟩)] Zqy (XX k) ss[k].args (.slice a2 ss[k].args.length cap2) ((wr.alloc (.cells #[.int .i64 k] 3)).alloc (.cells #[.string ss[k].label,.slice a2 ss[k].args.length cap2] 69))
     (hva2.keep (((Keeps.refl _ _).alloc _).alloc _) fun _ _ h=>h) (fun x hx w' v hw he=>by
      subst he
      exact(ZtN x k wr.heap.size w' (hw.cell (p:=⟨wr.heap.size,0,none⟩) trivial (by simp[go_sem]))).mono fun e w'' ⟨he,hw2⟩=>⟨he,hw2▸Keeps.refl _ _⟩)
    generalize hq:ss[k].args.any (XX k)=q at hcall
    have hq':=hid hq
    clear hq
    cases q
    · go_wp2_with (go_at_call 63;refine hcall.mono ?_;clear hcall;rintro e w1 ⟨rfl,hb1⟩)
      go_roundw
      case rel=>exact⟨k+1,by omega,by go_num,by rw[hn.out,hf.out,if_neg hlen,hq'.out];rfl,((hb.alloc _).alloc _).trans hb1⟩
      case measure=>simp[intOf];omega
    · go_wp2_with (go_at_call 63;refine hcall.mono ?_;clear hcall;rintro e w1 ⟨rfl,hb1⟩)
      go_ret
      exact⟨ZcW (by rw[hM.out,hn.out,hf.out,if_neg hlen,hq'.out];rfl),((hk0.alloc _).alloc _).trans hb1⟩
  · go_wp2
    go_ret
    exact⟨ZcW (by rw[hM.out,hn.out,List.drop_eq_nil_of_le (by omega)];rfl),((Keeps.refl All w).alloc _).trans hb⟩
end Go.Proofs.YtaigaoflehfdcaaGreatDoor
namespace Go.Proofs.YtaigaoflehfdcaaGreatDoor
open Go.RowKit Go.Shelf
attribute [local go_sem] Oper.semAt_some
structure VState (ss:List Stp) (l n1 pb:Nat) (Prot:Nat→Prop) (W:World) (D:List Bool):Prop where
 size:n1+4≤W.heap.size
 len:D.length=ss.length
 yb:IsRow W n1 110 [.func (.yield l) #[] #[]]
 row:IsRow W (n1+1) 4 (bools D)
 db:IsRow W (n1+2) 138 [.slice (some ⟨n1+1,0,none⟩) ss.length ss.length]
 vb:IsRow W (n1+3) 110 [.func (.func 87) #[] #[.pointer (some ⟨n1+2,0,none⟩),.pointer (some ⟨pb,0,none⟩),.pointer (some ⟨n1+3,0,none⟩),.pointer (some ⟨n1,0,none⟩)]]
 pb:∃ u,W.cell? ⟨pb,0,none⟩=some u∧IsSteps Prot W u ss
theorem VState.keep {ss:List Stp} {l n1 pb:Nat} {Prot:Nat→Prop} {W W':World} {D:List Bool} (h:VState ss l n1 pb Prot W D) (hp:Prot pb)
 (hk:Keeps (fun k=>Prot k∨(n1≤k∧k<n1+4)) W W'):VState ss l n1 pb Prot W' D:=by
 obtain⟨u,h1,h2⟩:=h.pb
 exact⟨by have:=hk.size;have:=h.size;omega,h.len,h.yb.keep hk (Or.inr ⟨by omega,by omega⟩),h.row.keep hk (Or.inr ⟨by omega,by omega⟩),h.db.keep hk (Or.inr ⟨by omega,by omega⟩),h.vb.keep hk (Or.inr ⟨by omega,by omega⟩),
  u,hk.cell (p:=⟨pb,0,none⟩) (Or.inl hp) h1,h2.keep hk fun _ _ h=>Or.inl h⟩
theorem VState.mark {ss:List Stp} {l n1 pb:Nat} {Prot:Nat→Prop} {W:World} {D:List Bool} (h:VState ss l n1 pb Prot W D) (hp:Prot pb) (hP:∀ k,Prot k→k<n1) (i:Nat):
 VState ss l n1 pb Prot (W.setCell ⟨n1+1,i,none⟩ (.bool true)) (D.set i true):=by
 obtain⟨u,h1,h2⟩:=h.pb
 have hk:Keeps (fun k=>k≠n1+1) W (W.setCell ⟨n1+1,i,none⟩ (.bool true)):=(Keeps.refl _ _).setCell (fun _ hn=>hn rfl) _
 exact⟨by have:=hk.size;have:=h.size;omega,by simpa using h.len,h.yb.keep hk (by omega),by rw[←ZoE];exact h.row.set i _,h.db.keep hk (by omega),h.vb.keep hk (by omega),
  u,hk.cell (p:=⟨pb,0,none⟩) (show pb≠n1+1 by have:=hP _ hp;omega) h1,h2.keep hk fun k _ h=>by have:=hP _ h;omega⟩
set_option maxHeartbeats 1000000 in
theorem ZsM (ss:List Stp) (hok:Okay ss) (l n1 pb:Nat) (Prot:Nat→Prop) (hp:Prot pb) (hP:∀ k,Prot k→k<n1) (J:List Nat→World→Prop)
 (hJ:∀ pre A B,J pre A→n1≤A.heap.size→Keeps (fun k=>k<n1∨n1+4≤k) A B→J pre B)
 (hY:∀(m:Nat) (pre:List Nat) (x:Nat) (W1:World),J pre W1→(pre++[x])<+:post ss→n1+4≤W1.heap.size→YieldAt Fence.wide m Tryz.prog l #[.int .i64 (x:Int)] W1 fun e W'=>
  e= .returned (.bool true)∧J (pre++[x]) W'∧Keeps (fun k=>Prot k∨(n1≤k∧k<n1+4)) W1 W'):
 ∀(f i:Nat) (pre:List Nat) (W:World) (D:List Bool) (n:Nat),i<f→i<ss.length→VState ss l n1 pb Prot W D→(∀ j,j≤i→D[j]?=some (decide (j∈pre)))→J pre W→
  Qs (ZQ ss) f i pre<+:post ss→
  CallsIn Fence.wide n Tryz.prog 87 #[.int .i64 (i:Int),.pointer (some ⟨n1+2,0,none⟩),.pointer (some ⟨pb,0,none⟩),.pointer (some ⟨n1+3,0,none⟩),.pointer (some ⟨n1,0,none⟩)] W fun e W'=>
   e= .returned (.bool true)∧∃ D',VState ss l n1 pb Prot W' D'∧(∀ j,j≤i→D'[j]?=some (decide (j∈Qs (ZQ ss) f i pre)))∧(∀ j,i<j→D'[j]?=D[j]?)∧J (Qs (ZQ ss) f i pre) W'∧Keeps Prot W W':=by
 intro f
 induction f with
 | zero=>intro i pre W D n hi;omega
 | succ f ih=>
  intro i pre W D n hi hil hV hD hj hpre
  have hlen:ss.length≤2000:=hok.2.1
  have hDi:=hD i (Nat.le_refl _)
  obtain⟨c1,_⟩:=hV.db.one
  have c2:W.cell? ⟨n1+1,i,none⟩=some (.bool (decide (i∈pre))):=by rw[hV.row.cell,ZoF,hDi];rfl
  by_cases hm:i∈pre
  · have ht:Hid (Qs (ZQ ss) (f+1) i pre=pre):=by simp[Hid,Qs,hm]
    simp only[hm,decide_true]at c2
    have HD:=hid hD
    clear hD hDi ih hY hJ
    refine callsIn_of_wp Tryz.func87 rfl trivial ?_ rfl
    simp only[Tryz.ntmps87,List.size_toArray,List.length_cons,List.length_nil,Nat.reduceAdd,Nat.reduceSub,Array.replicate_succ,Array.replicate_zero,List.push_toArray,List.append_toArray,List.nil_append,List.cons_append]
    gi_wp2
    go_ret
    refine⟨rfl,D,hV,?_,fun _ _=>rfl,?_⟩
    · rw[ht.out];exact HD.out
    · rw[ht.out];exact⟨hj,Keeps.refl _ _⟩
  · have ht:Hid (Qs (ZQ ss) (f+1) i pre=(ZQ ss i).foldl (fun o a=>Qs (ZQ ss) f a o) pre++[i]):=by simp[Hid,Qs,hm]
    simp only[hm,decide_false]at c2
    have HD:=hid hD
    have Hpre:Hid (Qs (ZQ ss) (f+1) i pre<+:post ss):=hpre
    have HJ:=hid hJ
    have HY:=hid hY
    have HP:=hid hP
    have HI:=hid ih
    clear hD hDi ih hJ hY hP hpre
    have hV1:=hV.mark hp HP.out i
    have hj1:J pre (W.setCell ⟨n1+1,i,none⟩ (.bool true)):=HJ.out _ _ _ hj (by have:=hV.size;omega) ((Keeps.refl _ _).setCell (fun _ hn=>by simp at hn;omega) _)
    have hk1:Keeps Prot W (W.setCell ⟨n1+1,i,none⟩ (.bool true)):=(Keeps.refl _ _).setCell (fun _ (hn:Prot (n1+1))=>by have:=HP.out _ hn;omega) _
    have c3:=hV.row.frozen i
    obtain⟨c4,_⟩:=hV1.db.one
    obtain⟨u,c5,a,cap,rfl,_,hu⟩:=hV1.pb
    rcases hu with⟨hu,_⟩ | ⟨b,off,rfl,hB,hPb,hc⟩
    · rw[hu]at hil;simp at hil
    obtain⟨_,va,c6,hva⟩:=hc i hil
    clear hc
    have hva':=hva
    obtain⟨a2,cap2,rfl,hl2,hx2,h2⟩:=hva'
    clear h2 hx2
    obtain⟨W1,hW1⟩:∃ W1,W.setCell ⟨n1+1,i,none⟩ (.bool true)=W1:=⟨_,rfl⟩
    refine callsIn_of_wp Tryz.func87 rfl trivial ?_ rfl
    simp only[Tryz.ntmps87,List.size_toArray,List.length_cons,List.length_nil,Nat.reduceAdd,Nat.reduceSub,Array.replicate_succ,Array.replicate_zero,List.push_toArray,List.append_toArray,List.nil_append,List.cons_append]
    rw[hW1]at hV1 hj1 hk1 c4 c5 c6 hva hB
    gi_wp2
    gi_loopw [8,23] (fun i8 iv wr=>∃(k:Nat) (D':List Bool),k≤ss[i].args.length∧iv= .int .i64 k∧VState ss l n1 pb Prot wr D'∧
     Hid (∀ j,j<i→D'[j]?=some (decide (j∈((ZQ ss i).take k).foldl (fun o a=>Qs (ZQ ss) f a o) pre)))∧Hid (D'[i]?=some true)∧Hid (∀ j,i<j→D'[j]?=D[j]?)∧
     J (((ZQ ss i).take k).foldl (fun o a=>Qs (ZQ ss) f a o) pre) wr∧Keeps Prot W wr∧IsInts Prot wr (.slice a2 ss[i].args.length cap2) ss[i].args) (fun _ iv _=>ss[i].args.length-(intOf iv).toNat)
    case atStart=>
     refine⟨0,D.set i true,Nat.zero_le _,rfl,hV1,?_,?_,?_,hj1,hk1,hva⟩
     · intro j hj
       rw[List.getElem?_set_ne (by omega)]
       exact HD.out j (by omega)
     · show _=_
       rw[List.getElem?_set_self (by rw[hV.len];exact hil)]
     · intro j hj
       rw[List.getElem?_set_ne (by omega)]
    case round=>
     obtain⟨k,D',hk,rfl,hV',hD',hDi',hDj',hj',hkp',hva'⟩:=hrel
     by_cases hlt:k<ss[i].args.length
     · have hkl:Hid (k< (ZQ ss i).length):=by rw[X5 hil];simpa [Hid]using hlt
       obtain⟨c,hc,hkc⟩:∃ c:Nat,ss[i].args[k]=(c:Int)∧(ZQ ss i)[k]'(hkl.out)=c:=by
        have h1:=(hok.2.2 i hil).2 _ (List.getElem_mem hlt)
        exact⟨ss[i].args[k].toNat,by omega,by simp[X5 hil]⟩
       have hci:c<i:=hok.kid (by rw[←hkc];exact List.getElem_mem _)
       have hcell:∃ b off,a2=some ⟨b,off,none⟩∧wr.cell? ⟨b,off+k,none⟩=some (.int .i64 (c:Int)):=by
        obtain⟨_,_,he,_,_,h⟩:=hva'
        cases he
        rcases h with⟨h,_⟩ | ⟨b,off,rfl,_,_,hcc⟩
        · rw[h]at hlt;simp at hlt
        · exact⟨b,off,rfl,by rw[hcc k hlt,hc]⟩
       have hcall:=HI.out c (((ZQ ss i).take k).foldl (fun o a=>Qs (ZQ ss) f a o) pre) wr D' (n-1) (by omega) (by omega) hV' (fun j hj=>hD'.out j (by omega)) hj' (by
        refine List.IsPrefix.trans ?_ Hpre.out
        rw[ht.out,←hkc,←ZbL (ZQ ss) f _ k hkl.out]
        exact(ZdG _ _ _ _ _).trans (List.prefix_append _ _))
       have hstep:=hid (ZbL (ZQ ss) f _ k hkl.out pre)
       have hrank:=hid (Zcg (ZQ ss) id (fun x a ha=>hok.kid ha) f c (((ZQ ss i).take k).foldl (fun o a=>Qs (ZQ ss) f a o) pre))
       rw[hkc]at hstep
       have HC:=hid hc
       have HKC:=hid hkc
       clear hc hkc
       obtain⟨b2,off2,rfl,c7⟩:=hcell
       obtain⟨c8,_⟩:=hV'.vb.one
       generalize ((ZQ ss i).take k).foldl (fun o a=>Qs (ZQ ss) f a o) pre=o at*
       gi_wp2
       refine⟨trivial,fun h=>by simp[Fence.wide]at h,?_⟩
       refine hcall.mono ?_
       clear hcall
       rintro e w2 ⟨rfl,D2,hV2,hD2,hD2',hj2,hk2⟩
       gi_wp2
       go_roundw
       case rel=>
        refine⟨k+1,D2,by omega,by go_num,hV2,?_,?_,?_,by rw[hstep.out];exact hj2,hkp'.trans hk2,hva'.keep hk2 fun _ _ h=>h⟩
        · intro j hj
          rw[hstep.out]
          rcases Nat.lt_or_ge c j with h | h
          · rw[hD2' j h,hD'.out j hj]
            have h1:j∈Qs (ZQ ss) f c o↔j∈o:=⟨fun h2=>(hrank.out j h2).resolve_right (by simp only[id];omega),fun h2=>(ZbQ (ZQ ss) f c o).subset h2⟩
            simp[h1]
          · exact hD2 j h
        · exact(hD2' i hci).trans hDi'.out
        · intro j hj
          exact(hD2' j (by omega)).trans (hDj'.out j hj)
       case measure=>simp[intOf];omega
     · obtain rfl:k=ss[i].args.length:=by omega
       have hall:(ZQ ss i).take ss[i].args.length=ZQ ss i:=List.take_of_length_le (by rw[X5 hil];simp)
       rw[hall]at hD' hj'
       clear hall
       generalize (ZQ ss i).foldl (fun o a=>Qs (ZQ ss) f a o) pre=o at*
       have hy:=HY.out (n-1) o i wr hj' (by rw[←ht.out];exact Hpre.out) hV'.size
       obtain⟨fn,tmps,assign,body,hy,hR⟩:=hy
       obtain⟨c8,_⟩:=hV'.yb.one
       gi_wp2
       refine⟨fun h=>by simp[Fence.wide]at h,?_⟩
       refine hR.mono ?_
       clear hR
       rintro e w2 ⟨rfl,hj2,hk2⟩
       gi_wp2
       go_ret
       refine⟨rfl,D',hV'.keep hp hk2,?_,hDj'.out,by rw[ht.out];exact hj2,hkp'.trans (hk2.sub fun _ _ h=>Or.inl h)⟩
       intro j hj
       rw[ht.out]
       rcases Nat.lt_or_ge j i with h | h
       · rw[hD'.out j h]
         simp;omega
       · obtain rfl:j=i:=by omega
         rw[hDi'.out];simp
end Go.Proofs.YtaigaoflehfdcaaGreatDoor
