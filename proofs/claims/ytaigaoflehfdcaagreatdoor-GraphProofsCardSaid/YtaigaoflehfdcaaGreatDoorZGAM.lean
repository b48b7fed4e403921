/-
  CONTRACT: keyOf: a step's key: its label, and its Args' numerals.
  CONTRACT: sharer.add: the number of a step that may be there already.
-/
import Derived.Test.YtaigaoflehfdcaaGreatDoorZGAI
import Derived.Test.YtaigaoflehfdcaaGreatDoorZGAJ
import Derived.Test.YtaigaoflehfdcaaGreatDoorZGAK
import Derived.Test.YtaigaoflehfdcaaGreatDoorZGAL
import Derived.Lib.ItoaLen
import Derived.LoopNIn
import Derived.LoopIn
import Derived.Test.YtaigaoflehfdcaaGreatDoorZGAF
namespace Go.Proofs.YtaigaoflehfdcaaGreatDoor
open Go.RowKit Go.Shelf
def Tab (w:World):Prop:=Lib.TabIs Tryz.prog w "internal/strconv.uint64pow10" .u64 Lib.pow10Tab
theorem Holds.keep {lo b:Nat} {l:List UInt8} {w w':World} (h:Holds lo b l w) (hk:Keeps All w w'):Holds lo b l w':=by
 have hg:w.grownBy w' none:=⟨hk.os,hk.tape,hk.output,hk.size,fun k hlt _=>hk.block k hlt trivial⟩
 have key:∀ p,Lib.BuilderAtF 239 5 lo b p (Lib.byteCells l) w→Lib.BuilderAtF 239 5 lo b p (Lib.byteCells l) w':=by
  rintro p ⟨hB,v,hb,hown,hne⟩
  exact⟨hB,v,(hk.block b (Array.getElem?_eq_some_iff.1 hb).1 trivial).trans hb,hown.kept hg (by cases hv:v.ownBlock<;>simp),hne⟩
 exact h.imp (key _) (key _)
theorem Tab.keep {w w':World} (h:Tab w) (hk:Keeps All w w'):Tab w':=by
 unfold Tab Lib.TabIs World.var? at h ⊢
 cases hg:Tryz.prog.globalNamed "internal/strconv.uint64pow10" with
 | none=>rw[hg]at h;simp at h
 | some g=>
  rw[hg]at h
  simp only[Option.bind_some]at h ⊢
  have hlt:g<w.heap.size:=by
   rcases Nat.lt_or_ge g w.heap.size with h' | h'
   · exact h'
   · simp[Array.getElem?_eq_none h']at h
  rw[hk.block g hlt trivial];exact h
theorem Itoa_c (n:Int) (h0: -9223372036854775808≤n) (h1:n≤9223372036854775807) (w:World) (h:Tab w):
 Calls Tryz.prog 175 #[.int .i64 n] w fun e w'=>e= .returned (.string ⟨(Lib.itoa n).toArray⟩)∧Keeps All w w':=by
 refine(Tryz.strconv_Itoa n h0 h1 w h).mono ?_
 rintro e w' ⟨rfl,k,os,rfl⟩
 refine⟨rfl,⟨rfl,rfl,rfl,by simp[Go.Sort.grow,World.drewN],fun i hi _=>?_⟩⟩
 show(w.heap++os)[i]?=w.heap[i]?
 rw[Array.getElem?_append_left hi]
def Y0 (args:List Int):List UInt8:=args.flatMap fun a=>Lib.itoa a++[32]
theorem ZiM (l:List Int) (a:Int):Y0 (l++[a])=Y0 l++(Lib.itoa a++[32]):=by simp[Y0]
theorem Zct:∀(l:List Int),(∀ a∈l, -9223372036854775808≤a∧a≤9223372036854775807)→(Y0 l).length≤22*l.length
 | [],_=>by simp[Y0]
 | a::l,h=>by
  have ih:=Zct l (fun b hb=>h b (List.mem_cons_of_mem _ hb))
  have h1:=Lib.itoa_length_le a (h a (List.mem_cons_self ..)).1 (h a (List.mem_cons_self ..)).2
  simp only[Y0,List.flatMap_cons,List.length_append,List.length_cons,List.length_nil]at ih ⊢
  omega
def KeyReg (n0:Nat) (lab:ByteArray) (ks:List UInt8) (T:Array Value) (W0:World) (c:Nat→Bool) (a':Act) (w':World):Prop:=
 a'=Act.mk (sIs T [(c 0,18,.pointer (some ⟨n0,0,none⟩)),(c 1,19,.string lab),(c 2,20,.string ⟨ks.toArray⟩),(c 3,21,.agg #[.string lab,.string ⟨ks.toArray⟩])]) []∧
  Keeps (fun b=>b<n0+1) W0 w'∧(c 2=false→Holds (n0+2) (n0+2) ks w')∧(∃ x y,IsRow w' (n0+1) 188 [.string x,.string y])∧(c 4=true→IsRow w' (n0+1) 188 [.string lab,.string ⟨ks.toArray⟩])∧(c 4=true→c 2=true)
set_option maxHeartbeats 1000000 in
theorem ZtD (s:Stp) (v:Value) (w:World) (hv:ZkQ All w v s) (hlen:s.args.length≤40) (htab:Tab w):
 Calls Tryz.prog 126 #[v] w fun e w'=>e= .returned (.agg #[.string s.label,.string ⟨(Y0 s.args).toArray⟩])∧Keeps All w w':=by
 obtain⟨va,rfl,hva⟩:=hv
 have hva':=hva
 obtain⟨a,cap,rfl,hl,hx,h⟩:=hva
 clear h
 have Hx:=hid hx
 have Ht:=hid htab
 clear hx htab
 refine(callsIn_wide (n:=5)).1 ?_
 refine callsIn_of_wp Tryz.func126 rfl trivial ?_ rfl
 simp only[Tryz.ntmps126,List.size_toArray,List.length_cons,List.length_nil,Nat.reduceAdd,Nat.reduceSub,Array.replicate_succ,Array.replicate_zero,List.push_toArray,List.append_toArray,List.nil_append,List.cons_append]
 gi_wp2
 gi_loopw [5,9] (fun _ iv wr=>∃ k:Nat,k≤s.args.length∧iv= .int .i64 k∧Keeps All w wr∧IsRow wr w.heap.size 69 [.string s.label,.slice a s.args.length cap]∧IsRow wr (w.heap.size+1) 188 [.string ⟨#[]⟩,.string ⟨#[]⟩]∧
  Holds (w.heap.size+2) (w.heap.size+2) (Y0 (s.args.take k)) wr) (fun _ iv _=>s.args.length-(intOf iv).toNat)
 case atStart=>
  refine⟨0,Nat.zero_le _,rfl,by repeat (first | exact Keeps.refl _ _ | refine Keeps.alloc ?_ _),?_,?_,?_⟩
  · repeat (first | (refine IsRow.newAt ?_;(simp;done)) | refine IsRow.alloc ?_ _)
  · repeat (first | (refine IsRow.newAt ?_;(simp;done)) | refine IsRow.alloc ?_ _)
  · refine Or.inl ⟨Nat.le_refl _,.slice none 0 0,?_,⟨by rfl,Or.inl ⟨rfl,rfl⟩⟩,by simp[Value.ownBlock]⟩
    exact(show IsRow _ (w.heap.size+2) 239 [.pointer none,.slice none 0 0]from IsRow.newAt (by simp))
 case round=>
  obtain⟨k,hk,rfl,hkw,hr0,hr1,hb⟩:=hrel
  by_cases hlt:k<s.args.length
  · have hxk:=Hx.out _ (List.getElem_mem hlt)
    have hcell:∃ b off,a=some ⟨b,off,none⟩∧wr.cell? ⟨b,off+k,none⟩=some (.int .i64 s.args[k]):=by
     obtain⟨_,_,he,_,_,h⟩:=hva'
     cases he
     rcases h with⟨h,_⟩ | ⟨b,off,rfl,hB,_,hc⟩
     · rw[h]at hlt;simp at hlt
     · exact⟨b,off,rfl,hkw.cell (p:=⟨b,off+k,none⟩) trivial (hc k hlt)⟩
    have hnext:Hid (Y0 (s.args.take (k+1))=Y0 (s.args.take k)++(Lib.itoa s.args[k]++[32])):=by
     show _=_
     rw[List.take_succ_eq_append_getElem hlt,ZiM]
    have hkl:(Y0 (s.args.take k)).length≤1000:=by
     have h1:=Zct (s.args.take k) (fun b hb=>Hx.out b (List.mem_of_mem_take hb))
     have h2:(s.args.take k).length≤40:=by rw[List.length_take];omega
     omega
    have hil:=Lib.itoa_length_le s.args[k] hxk.1 hxk.2
    have hit:=Itoa_c s.args[k] hxk.1 hxk.2 wr (Ht.out.keep hkw)
    have HB:=hid hb
    clear hb
    obtain⟨b,off,rfl,c1⟩:=hcell
    have l1:=hr0.lt
    have l2:=hr1.lt
    gi_wp2
    refine⟨trivial,?_⟩
    refine(callsIn_wide.2 hit).mono ?_
    clear hit
    rintro e w1 ⟨rfl,hk1⟩
    gi_wp2
    refine⟨trivial,?_⟩
    have hcat:((⟨(Lib.itoa s.args[k]).toArray⟩:ByteArray)++⟨#[32]⟩).data.toList=Lib.itoa s.args[k]++[32]:=by simp
    have hsz:((⟨(Lib.itoa s.args[k]).toArray⟩:ByteArray)++⟨#[32]⟩).size=(Lib.itoa s.args[k]).length+1:=by
     rw[←ByteArray.size_data,←Array.length_toList,hcat];simp
    have hws:=ZgX (w.heap.size+2) (w.heap.size+2) (Y0 (s.args.take k)) (⟨(Lib.itoa s.args[k]).toArray⟩++⟨#[32]⟩) w1 (HB.out.keep hk1) (by omega) (by have:=hkw.size;have:=hk1.size;omega)
    rw[hcat]at hws
    have hsz':=hid hsz
    clear hsz hcat
    refine(callsIn_wide.2 hws).mono ?_
    clear hws
    rintro e w2 ⟨rfl,hb2,hbl⟩
    gi_wp2
    go_roundw
    case rel=>
     have hk2:Keeps (· <w.heap.size+2) w1 w2:=Keeps.of_below hbl
     exact⟨k+1,by omega,by go_num,(hkw.trans hk1).upto hk2 (fun k hk=>by omega),(hr0.keep hk1 trivial).keep hk2 (by omega),(hr1.keep hk1 trivial).keep hk2 (by omega),by rw[hnext.out];exact hb2⟩
    case measure=>simp[intOf];omega
  · obtain rfl:k=s.args.length:=by omega
    rw[List.take_length]at hb
    obtain⟨c0,c0',_,_⟩:=hr0.two
    obtain⟨c1,c1',c2,c2'⟩:=hr1.two
    have hst:=fun(W:World) (h:Holds (w.heap.size+2) (w.heap.size+2) (Y0 s.args) W) (hs:w.heap.size+2≤W.heap.size)=>Tryz.Builder_String_any_f (w.heap.size+2) (w.heap.size+2) (Y0 s.args) W h hs
    have hsz:w.heap.size+2≤wr.heap.size:=hr1.lt
    gi_wp2
    refine Y9 (KeyReg w.heap.size s.label (Y0 s.args)) mixed (by kernel_rfl) ?start ⟨?o0,?o1,?o2,?o3,?o4,trivial⟩ ?fin
    case start=>exact⟨by simp only[Zm,Zh,Zbo],(Keeps.refl _ _).drew,fun _=>hb,⟨_,_,hr1⟩,fun h=>(by cases h),fun h=>(by cases h)⟩
    case o0=>
     rintro b' a' w' hb hd ⟨rfl,hk,hh,hx,h4,h42⟩
     simp only[Zm,Zh,Zv,Zg,Ze]
     gi_wp2
     exact⟨by simp[Zm,Zh,Zv,Zg,Ze,mark],hk,fun h=>hh (Zc1 h),hx,fun h=>h4 (ZbZ (by decide) h),fun h=>Zw _ (h42 (ZbZ (by decide) h))⟩
    case o1=>
     rintro b' a' w' hb hd ⟨rfl,hk,hh,hx,h4,h42⟩
     simp[Region.binds]at hd
     have f1:w'.cell? ⟨w.heap.size,0,none⟩=some (.string s.label):=hk.cell (p:=⟨w.heap.size,0,none⟩) (by show w.heap.size<_;omega) c0
     simp only[Zm,Zh,Zv,Zg,Ze]
     gi_wp2
     exact⟨by simp[Zm,Zh,Zv,Zg,Ze,mark,hd],hk,fun h=>hh (Zc1 h),hx,fun h=>h4 (ZbZ (by decide) h),fun h=>Zw _ (h42 (ZbZ (by decide) h))⟩
    case o2=>
     rintro b' a' w' hb hd ⟨rfl,hk,hh,⟨x,y,hx⟩,h4,h42⟩
     have hcall:=hst w' (hh hb) (by have:=hk.size;omega)
     simp only[Zm,Zh,Zv,Zg,Ze]
     gi_wp2
     refine⟨trivial,?_⟩
     refine(callsIn_wide.2 hcall).mono ?_
     clear hcall
     rintro e w3 ⟨rfl,hb3,hbl3⟩
     gi_wp2
     have hk3:Keeps (· <w.heap.size+2) w' w3:=Keeps.of_below hbl3
     have h4f:b' 4=false:=by
      cases h:b' 4 with
      | false=>rfl
      | true=>rw[h42 h]at hb;cases hb
     exact⟨by simp[Zm,Zh,Zv,Zg,Ze,mark],hk.trans (hk3.sub fun k _ h=>by omega),fun h=>by simp[mark]at h,⟨x,y,hx.keep hk3 (by omega)⟩,fun h=>by simp[mark,h4f]at h,fun _=>by simp[mark]⟩
    case o3=>
     rintro b' a' w' hb hd ⟨rfl,hk,hh,hx,h4,h42⟩
     simp[Region.binds]at hd
     simp only[Zm,Zh,Zv,Zg,Ze]
     gi_wp2
     exact⟨by simp[Zm,Zh,Zv,Zg,Ze,mark,hd],hk,fun h=>hh (Zc1 h),hx,fun h=>h4 (ZbZ (by decide) h),fun h=>Zw _ (h42 (ZbZ (by decide) h))⟩
    case o4=>
     rintro b' a' w' hb hd ⟨rfl,hk,hh,⟨x,y,hx⟩,h4,h42⟩
     simp[Region.binds]at hd
     obtain⟨f1,f2,f3,f4⟩:=hx.two
     simp only[Zm,Zh,Zv,Zg,Ze]
     gi_wp2
     exact⟨by simp[Zm,Zh,Zv,Zg,Ze,mark,hd],(hk.setCell (fun _ (h:w.heap.size+1<w.heap.size+1)=>absurd h (by omega)) _).setCell (fun _ (h:w.heap.size+1<w.heap.size+1)=>absurd h (by omega)) _,fun h=>by simp[mark,hd]at h,
      ⟨_,_,(hx.set 0 (.string s.label)).set 1 (.string ⟨(Y0 s.args).toArray⟩)⟩,fun _=>(hx.set 0 (.string s.label)).set 1 (.string ⟨(Y0 s.args).toArray⟩),fun _=>Zw _ (by simp[hd])⟩
    case fin=>
     rintro b' a' w' hb ⟨rfl,hk,hh,hx,h4,h42⟩
     have e0:=hb 0 (by decide)
     have e1:=hb 1 (by decide)
     have e2:=hb 2 (by decide)
     have e3:=hb 3 (by decide)
     have k2:=(h4 (hb 4 (by decide))).two
     clear hb
     simp only[Zm,Zh,Zv,Zg,Ze,e0,e1,e2,e3,cond_true]
     gi_wp2
     refine bodyPost_ret (v:=.agg #[.string s.label,.string ⟨(Y0 s.args).toArray⟩]) (by simp[results,Tryz.results126,go_sem,k2]) rfl ⟨rfl,?_⟩
     exact hkw.upto hk fun k hk=>by omega
def Yx (s:Stp):ByteArray×ByteArray:=(s.label,⟨(Y0 s.args).toArray⟩)
def Zff (ss:List Stp) (s:Stp):List Stp:=match Qt (Yx s) (ss.map Yx) 0 with | some _=>ss | none=>ss++[s]
def ZaT (ss:List Stp) (s:Stp):Nat:=match Qt (Yx s) (ss.map Yx) 0 with | some n=>n | none=>ss.length
def Sharer (lo X M:Nat) (W:World) (v:Value) (ss:List Stp):Prop:=IsRow W X 136 [v,.map (some M)]∧MapIdx W M (ss.map Yx)∧OwnSteps lo W v ss
structure AddInv (lo X M tb:Nat) (oldv newv va:Value) (olds:List Stp) (s:Stp) (W0:World) (c:Nat→Bool) (w:World):Prop where
 ord4:c 7=true→c 4=true
 ord6:c 7=true→c 6=true
 ord5:c 6=true→c 5=true
 ord7:c 10=true→c 7=true
 keep:Keeps (fun k=>k≠X∧oldv.ownBlock≠some k) W0 w
 early:c 7=false→Keeps All W0 w
 tmp:c 6=true→c 7=false→IsRow w tb 69 [.string s.label,va]
 box:c 10=false→IsRow w X 136 [oldv,.map (some M)]
 out:c 7=true→OwnSteps lo w newv (olds++[s])
 done:c 10=true→IsRow w X 136 [newv,.map (some M)]
theorem AddInv.same {lo X M tb:Nat} {oldv newv va:Value} {olds:List Stp} {s:Stp} {W0:World} {c c':Nat→Bool} {w:World} (h:AddInv lo X M tb oldv newv va olds s W0 c w)
 (h4:c 4=true→c' 4=true) (h5:c 5=true→c' 5=true) (h6:c' 6=c 6) (h7:c' 7=c 7) (h10:c' 10=c 10):AddInv lo X M tb oldv newv va olds s W0 c' w:=by
 obtain⟨a1,a2,a3,a4,a5,a6,a7,a8,a9,a10⟩:=h
 exact⟨by rw[h7];exact fun h=>h4 (a1 h),by rw[h7,h6];exact a2,by rw[h6];exact fun h=>h5 (a3 h),by rw[h10,h7];exact a4,a5,by rw[h7];exact a6,by rw[h6,h7];exact a7,by rw[h10];exact a8,by rw[h7];exact a9,by rw[h10];exact a10⟩
def AddReg (lo X M k:Nat) (va:Value) (a3:Option Addr) (c3:Nat) (olds:List Stp) (s:Stp) (T:Array Value) (W0:World) (c:Nat→Bool) (a':Act) (w':World):Prop:=
 ∃(tb:Nat) (a4:Option Addr) (c4:Nat),a'=Act.mk (sIs T [(c 0,32,.pointer (some ⟨X,0,none⟩)),(c 1,33,.pointer (some ⟨X,0,none⟩)),(c 2,34,.pointer (some ⟨X,0,none⟩)),(c 3,35,.pointer (some ⟨X,0,none⟩)),
  (c 4,36,.slice a3 k c3),(c 5,37,.agg #[.string s.label,va]),(c 6,38,.slice (some ⟨tb,0,none⟩) 1 1),(c 7,39,.slice a4 (k+1) c4),(c 8,40,.pointer (some ⟨X,0,none⟩)),(c 9,41,.pointer (some ⟨X,0,none⟩))]) []∧
  AddInv lo X M tb (.slice a3 k c3) (.slice a4 (k+1) c4) va olds s W0 c w'
set_option maxHeartbeats 1000000 in
theorem add_c (lo X M:Nat) (v:Value) (ss:List Stp) (s:Stp) (va:Value) (w:World) (h:Sharer lo X M w v ss) (hX:X<lo) (hM:M<lo) (hXM:X≠M) (hlo:lo≤w.heap.size) (hlen:ss.length≤2000)
 (ha:IsInts (fun k=>lo≤k∧v.ownBlock≠some k) w va s.args) (hargs:s.args.length≤40) (htab:Tab w):
 Calls Tryz.prog 85 #[.pointer (some ⟨X,0,none⟩),.agg #[.string s.label,va]] w fun e w'=>e= .returned (.int .i64 (ZaT ss s))∧∃ v',Sharer lo X M w' v' (Zff ss s)∧Keeps (fun k=>k≠X∧k≠M∧v.ownBlock≠some k) w w':=by
 obtain⟨hr,hm,ho⟩:=h
 have ha':=ha
 obtain⟨a,cap,rfl,_,_,h⟩:=ha'
 clear h
 have hk:=ZtD s (.agg #[.string s.label,.slice a s.args.length cap]) (w.alloc (.cells #[.string s.label,.slice a s.args.length cap] 69)) ⟨_,rfl,(ha.sub fun _ _ _=>trivial).keep ((Keeps.refl All w).alloc _) fun _ _ _=>trivial⟩ hargs (htab.keep ((Keeps.refl _ _).alloc _))
 refine(callsIn_wide (n:=5)).1 ?_
 refine callsIn_of_wp Tryz.func85 rfl trivial ?_ rfl
 simp only[Tryz.ntmps85,List.size_toArray,List.length_cons,List.length_nil,Nat.reduceAdd,Nat.reduceSub,Array.replicate_succ,Array.replicate_zero,List.push_toArray,List.append_toArray,List.nil_append,List.cons_append]
 gi_wp2
 refine⟨trivial,?_⟩
 refine(callsIn_wide.2 hk).mono ?_
 clear hk
 rintro e w1 ⟨rfl,hk1⟩
 have hk0:Keeps All w w1:=((Keeps.refl All w).alloc _).trans hk1
 have hs1:=hk1.size
 simp at hs1
 have rs1:IsRow w1 w.heap.size 69 [.string s.label,.slice a s.args.length cap]:=IsRow.keep (S:=All) (IsRow.newAt rfl) hk1 trivial
 obtain⟨W2,hW2⟩:∃ W2,w1.alloc (.cells #[.string s.label,.string ⟨(Y0 s.args).toArray⟩] 188)=W2:=⟨_,rfl⟩
 have hk2:Keeps All w W2:=by rw[←hW2];exact hk0.alloc _
 have rk2:IsRow W2 w1.heap.size 188 [.string s.label,.string ⟨(Y0 s.args).toArray⟩]:=by rw[←hW2];exact IsRow.newAt rfl
 have rs2:IsRow W2 w.heap.size 69 [.string s.label,.slice a s.args.length cap]:=by rw[←hW2];exact rs1.alloc _
 have rx2:=hr.keep hk2 trivial
 have hm2:=hm.keep hk2 trivial
 have ho2:=ho.keep hk2 fun _ _=>trivial
 have ha2:=ha.keep hk2 fun _ _ _=>trivial
 have hlook:=Zpj (Yx s) W2.drew M (ss.map Yx) hm2
 unfold Zg0 Yx at hlook
 obtain⟨c0,c1,c2,c3⟩:=rx2.two
 obtain⟨d0,d1,_,_⟩:=rk2.two
 obtain⟨e0,e1,_,_⟩:=rs2.two
 have hsz2:=hk2.size
 have hkl:w1.heap.size<W2.heap.size:=rk2.lt
 have hfind:∀ q,Qt (Yx s) (ss.map Yx) 0=q→Hid (Qt (Yx s) (ss.map Yx) 0=q):=fun _ h=>h
 cases hq:Qt (s.label,(⟨(Y0 s.args).toArray⟩:ByteArray)) (ss.map fun s=>(s.label,(⟨(Y0 s.args).toArray⟩:ByteArray))) 0 with
 | some n=>
  have Hq:=hfind _ hq
  rw[hq]at hlook
  clear hq hfind
  gi_wp2
  gi_region
  gi_wp2
  go_ret
  have hadd:Zff ss s=ss:=by unfold Zff;rw[Hq.out]
  refine⟨ZcW (by unfold ZaT;rw[Hq.out]),_,⟨rx2.drew,?_,?_⟩,(hk2.sub fun _ _ _=>trivial).drew⟩
  · rw[hadd];exact hm2.keep ((Keeps.refl All W2).drew) trivial
  · rw[hadd];exact ho2.keep ((Keeps.refl All W2).drew) fun _ _=>trivial
 | none=>
  have Hq:=hfind _ hq
  rw[hq]at hlook
  have hput:=Zs8 (Yx s) W2.drew.drew M (ss.map Yx) hm2 Hq.out
  clear hq hfind
  rw[List.length_map]at hput
  obtain⟨W5,hput,hm5,hk5⟩:=hput
  unfold Zg0 Yx at hput
  have hv:∃ a c,v= .slice a ss.length c:=by
   obtain⟨vs,_,h,_⟩:=ho
   rcases h.2 with⟨rfl,h0⟩ | ⟨g,cap,cur,rfl,_⟩
   · rw[h0];exact⟨_,_,rfl⟩
   · exact⟨_,_,rfl⟩
  obtain⟨a3,c3',rfl⟩:=hv
  gi_wp2
  gi_region
  gi_wp2
  gi_region
  have hW5:Keeps (· ≠M) W2 W5:=((Keeps.refl _ _).drew.drew).trans hk5
  have hown:∀ k,k<lo→(Value.slice a3 ss.length c3').ownBlock≠some k:=fun k hk e=>by
   obtain⟨_,_,h,_⟩:=ho
   have:=(h.lt k e).1
   omega
  have rx5:=rx2.keep hW5 hXM
  have rs5:=rs2.keep hW5 (by omega)
  have ho5:=ho2.keep hW5 fun k hk=>by omega
  have ha5:=ha2.keep hW5 fun k _ hk=>by omega
  have hsz5:=hW5.size
  gi_wp2
  refine Y9 (AddReg lo X M ss.length (.slice a s.args.length cap) a3 c3' ss s) mixed (by kernel_rfl) ?start ⟨?o0,?o1,?o2,?o3,?o4,?o5,?o6,?o7,?o8,?o9,?o10,trivial⟩ ?fin
  case start=>
   refine⟨0,none,0,by simp only[Zm,Zh,Zbo],⟨?_,?_,?_,?_,(Keeps.refl _ _).drew,fun _=>(Keeps.refl _ _).drew,?_,fun _=>rx5,?_,?_⟩⟩
   all_goals (intro h;cases h)
  case o0=>
   rintro b' a' w' hb hd ⟨tb,a4,c4,rfl,hR⟩
   have hR':=hR.same (c':=mark b' 0) (Zw _) (Zw _) (Zn _ (by decide)) (Zn _ (by decide)) (Zn _ (by decide))
   simp only[Zm,Zh,Zv,Zg,Ze]
   gi_wp2
   refine⟨tb,a4,c4,?_,hR'⟩
   simp[Zm,Zh,Zv,Zg,Ze,mark]
  case o1=>
   rintro b' a' w' hb hd ⟨tb,a4,c4,rfl,hR⟩
   have hR':=hR.same (c':=mark b' 1) (Zw _) (Zw _) (Zn _ (by decide)) (Zn _ (by decide)) (Zn _ (by decide))
   simp only[Zm,Zh,Zv,Zg,Ze]
   gi_wp2
   refine⟨tb,a4,c4,?_,hR'⟩
   simp[Zm,Zh,Zv,Zg,Ze,mark]
  case o2=>
   rintro b' a' w' hb hd ⟨tb,a4,c4,rfl,hR⟩
   have hR':=hR.same (c':=mark b' 2) (Zw _) (Zw _) (Zn _ (by decide)) (Zn _ (by decide)) (Zn _ (by decide))
   simp[Region.binds]at hd
   simp only[Zm,Zh,Zv,Zg,Ze]
   gi_wp2
   refine⟨tb,a4,c4,?_,hR'⟩
   simp[Zm,Zh,Zv,Zg,Ze,mark,hd]
  case o3=>
   rintro b' a' w' hb hd ⟨tb,a4,c4,rfl,hR⟩
   have hR':=hR.same (c':=mark b' 3) (Zw _) (Zw _) (Zn _ (by decide)) (Zn _ (by decide)) (Zn _ (by decide))
   simp[Region.binds]at hd
   simp only[Zm,Zh,Zv,Zg,Ze]
   gi_wp2
   refine⟨tb,a4,c4,?_,hR'⟩
   simp[Zm,Zh,Zv,Zg,Ze,mark,hd]
  case o4=>
   rintro b' a' w' hb hd ⟨tb,a4,c4,rfl,hR⟩
   have hR':=hR.same (c':=mark b' 4) (Zw _) (Zw _) (Zn _ (by decide)) (Zn _ (by decide)) (Zn _ (by decide))
   simp[Region.binds]at hd
   have h10:b' 10=false:=by
    cases h:b' 10 with
    | false=>rfl
    | true=>rw[hR.ord4 (hR.ord7 h)]at hb;cases hb
   obtain⟨f1,_⟩:=(hR.box h10).two
   simp only[Zm,Zh,Zv,Zg,Ze]
   gi_wp2
   refine⟨tb,a4,c4,?_,hR'⟩
   simp[Zm,Zh,Zv,Zg,Ze,mark,hd]
  case o5=>
   rintro b' a' w' hb hd ⟨tb,a4,c4,rfl,hR⟩
   have hR':=hR.same (c':=mark b' 5) (Zw _) (Zw _) (Zn _ (by decide)) (Zn _ (by decide)) (Zn _ (by decide))
   have h7:b' 7=false:=by
    cases h:b' 7 with
    | false=>rfl
    | true=>rw[hR.ord5 (hR.ord6 h)]at hb;cases hb
   obtain⟨f1,f2,_⟩:=(rs5.keep (hR.early h7) trivial).two
   simp only[Zm,Zh,Zv,Zg,Ze]
   gi_wp2
   refine⟨tb,a4,c4,?_,hR'⟩
   simp[Zm,Zh,Zv,Zg,Ze,mark,h7]
  case o8=>
   rintro b' a' w' hb hd ⟨tb,a4,c4,rfl,hR⟩
   have hR':=hR.same (c':=mark b' 8) (Zw _) (Zw _) (Zn _ (by decide)) (Zn _ (by decide)) (Zn _ (by decide))
   simp[Region.binds]at hd
   simp only[Zm,Zh,Zv,Zg,Ze]
   gi_wp2
   refine⟨tb,a4,c4,?_,hR'⟩
   simp[Zm,Zh,Zv,Zg,Ze,mark,hd]
  case o9=>
   rintro b' a' w' hb hd ⟨tb,a4,c4,rfl,hR⟩
   have hR':=hR.same (c':=mark b' 9) (Zw _) (Zw _) (Zn _ (by decide)) (Zn _ (by decide)) (Zn _ (by decide))
   simp[Region.binds]at hd
   simp only[Zm,Zh,Zv,Zg,Ze]
   gi_wp2
   refine⟨tb,a4,c4,?_,hR'⟩
   simp[Zm,Zh,Zv,Zg,Ze,mark,hd]
  case o6=>
   rintro b' a' w' hb hd ⟨tb,a4,c4,rfl,hR⟩
   simp[Region.binds]at hd
   have h7:b' 7=false:=by
    cases h:b' 7 with
    | false=>rfl
    | true=>rw[hR.ord6 h]at hb;cases hb
   have h10:b' 10=false:=by
    cases h:b' 10 with
    | false=>rfl
    | true=>rw[hR.ord7 h]at h7;cases h7
   have HR:=hid hR
   clear hR
   simp only[Zm,Zh,Zv,Zg,Ze]
   gi_wp2
   refine⟨w'.heap.size,a4,c4,by simp[Zm,Zh,Zv,Zg,Ze,mark,hd,h7],?_⟩
   have hR:=HR.out
   refine⟨?_,?_,?_,?_,hR.keep.alloc _,fun _=>(hR.early h7).alloc _,fun _ _=>IsRow.new _ _ _,fun _=>(hR.box h10).alloc _,?_,?_⟩
   · simp[mark,h7]
   · simp[mark]
   · simp[mark,hd]
   · simp[mark,h10]
   · simp[mark,h7]
   · simp[mark,h10]
  case o7=>
   rintro b' a' w' hb hd ⟨tb,a4,c4,rfl,hR⟩
   have hd4:b' 4=true:=hd { on:=4,ground:=Ground.data } (by simp) rfl
   have hd6:b' 6=true:=hd { on:=6,ground:=Ground.data } (by simp) rfl
   have h10:b' 10=false:=by
    cases h:b' 10 with
    | false=>rfl
    | true=>rw[hR.ord7 h]at hb;cases hb
   have hk:=hR.early hb
   obtain⟨t0,t1,_,_⟩:=(hR.tmp hd6 hb).two
   obtain⟨vs,hvl,hown',hvi⟩:=ho5.keep hk fun _ _=>trivial
   obtain⟨i0,hi,hz0,hz1,hz2⟩:=info_parts ZhO
   have HR:=hid hR
   have Hvi:=hid hvi
   clear hR hvi hd
   simp only[Zm,Zh,Zv,Zg,Ze,hd4,hd6,cond_true]
   refine Xn _ rfl (.tmp 36) (.tmp 38) 26 rfl lo 69 i0 _ 2 40 Tryz.underlying26 hi hz0 hz1 hz2 rfl (by decide) _ _ _ rfl hown' ⟨tb,0,none⟩ 1 1 [.string s.label,.slice a s.args.length cap] rfl rfl ?c1 ?c2 ?c3 ?c4 ?c5 ?_
   case c1=>
    intro j u hu
    have hadd:(⟨tb,0,none⟩:Addr).add j=⟨tb,j,none⟩:=by unfold Addr.add;split<;>simp_all
    rw[hadd]
    rcases j with _ | _ | j
    · simp at hu;subst hu;exact t0
    · simp at hu;subst hu;exact t1
    · simp at hu
   case c2=>intro u hu;simp at hu;rcases hu with rfl | rfl<;>rfl
   case c3=>unfold maxLen;omega
   case c4=>omega
   case c5=>have:=hk.size;omega
   intro v' w3 hown3 hg3 hw3
   obtain⟨g',cap',rfl⟩:=ownsRow_succ hown3
   refine⟨tb,some ⟨g',0,none⟩,cap',?_,?_⟩
   · simp[Act.put,Zm,Zh,Zv,Zg,Ze,mark,hd4,hd6]
   have hR:=HR.out
   have hsz':=hk.size
   have hkw:Keeps (fun k=>(Value.slice a3 ss.length c3').ownBlock≠some k) w' w3:=⟨hg3.os,hg3.tape,hg3.output,hg3.size,fun k hlt hs=>hg3.block k hlt (fun e=>hs e.symm)⟩
   have hX':(Value.slice a3 ss.length c3').ownBlock≠some X:=hown _ hX
   refine⟨?_,?_,?_,?_,hR.keep.trans (hkw.sub fun k _ h=>h.2),?_,?_,fun _=>(hR.box h10).keep hkw hX',fun _=>?_,?_⟩
   · simp[mark,hd4]
   · simp[mark,hd6]
   · simp[mark];exact hR.ord5
   · simp[mark]
   · simp[mark]
   · simp[mark]
   · refine OwnSteps.snoc (va:=.slice a s.args.length cap) hvl Hvi.out (ha5.keep hk fun _ _ _=>trivial) hown3 hg3 ?_
     rcases hw3 with h | h
     · exact Or.inl h
     · exact Or.inr fun k hk2=>by rw[h]at hk2;cases hk2;exact Nat.le_refl _
   · simp[mark,h10]
  case o10=>
   rintro b' a' w' hb hd ⟨tb,a4,c4,rfl,hR⟩
   have hd9:b' 9=true:=hd { on:=9,ground:=Ground.data } (by simp) rfl
   have hd7:b' 7=true:=hd { on:=7,ground:=Ground.data } (by simp) rfl
   obtain⟨f1,_,f2,_⟩:=(hR.box hb).two
   have HR:=hid hR
   clear hR hd
   simp only[Zm,Zh,Zv,Zg,Ze]
   gi_wp2
   refine⟨tb,a4,c4,?_,?_⟩
   · simp[Zm,Zh,Zv,Zg,Ze,mark,hd9,hd7]
   have hR:=HR.out
   have hkw:Keeps (fun k=>k≠X) w' (w'.setCell ⟨X,0,none⟩ (.slice a4 (ss.length+1) c4)):=(Keeps.refl _ _).setCell (fun _ hn=>hn rfl) _
   refine⟨fun _=>Zw _ (hR.ord4 hd7),fun _=>Zw _ (hR.ord6 hd7),fun h=>Zw _ (hR.ord5 (ZbZ (by decide) h)),fun _=>Zw _ hd7,hR.keep.trans (hkw.sub fun k _ h=>h.1),?_,?_,?_,fun _=>(hR.out hd7).keep hkw (fun k hk=>by omega),fun _=>?_⟩
   · simp[mark,hd7]
   · simp[mark,hd7]
   · simp[mark]
   · exact(hR.box hb).set 0 _
  case fin=>
   rintro b' a' w' hb ⟨tb,a4,c4,rfl,hR⟩
   have e0:=hb 0 (by decide)
   have e1:=hb 1 (by decide)
   have e2:=hb 2 (by decide)
   have e3:=hb 3 (by decide)
   have e4:=hb 4 (by decide)
   have e5:=hb 5 (by decide)
   have e6:=hb 6 (by decide)
   have e7:=hb 7 (by decide)
   have e8:=hb 8 (by decide)
   have e9:=hb 9 (by decide)
   have hadd:Zff ss s=ss++[s]:=by unfold Zff;rw[Hq.out]
   have hdone:=hR.done (hb 10 (by decide))
   have hout:=hR.out e7
   have hkeep:=hR.keep
   clear hb hR
   simp only[Zm,Zh,Zv,Zg,Ze,e0,e1,e2,e3,e4,e5,e6,e7,e8,e9,cond_true]
   gi_wp2
   go_ret
   refine⟨ZcW (by unfold ZaT;rw[Hq.out]),_,⟨hdone,?_,?_⟩,((hk2.sub fun _ _ _=>trivial).trans (hW5.sub fun k _ h=>h.2.1)).trans (hkeep.sub fun k _ h=>⟨h.1,h.2.2⟩)⟩
   · rw[hadd,List.map_append]
     exact hm5.keep hkeep ⟨fun e=>hXM e.symm,hown _ hM⟩
   · rw[hadd];exact hout
end Go.Proofs.YtaigaoflehfdcaaGreatDoor
