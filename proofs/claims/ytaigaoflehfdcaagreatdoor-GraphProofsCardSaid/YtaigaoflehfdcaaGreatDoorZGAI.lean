/-
  CONTRACTS: strings.Builder's copyCheck and WriteString at this program (the shelf's own does not lay here: its body names a type that this one does not).
-/
import Derived.Test.YtaigaoflehfdcaaGreatDoorZGB
import Derived.Shelf.Strings.BuilderF
import Derived.Shelf.Abstract
namespace Go.Proofs.YtaigaoflehfdcaaGreatDoor
open Go.Proofs.Tryz (prog)
open Go.RowKit Go.Shelf
theorem Zdu:(prog.info? 239).map (fun i=>i.size)=some 2:=by kernel_rfl
theorem ZhK:liesAt prog prog.depth 239 (2/prog.cellsOf 239) 0 239 1=true:=by kernel_rfl
theorem ZnC:(prog.info? 5).map (fun i=>(i.zero,i.size,i.bytes))=some (some (.int .u8 0),1,1):=by kernel_rfl
set_option maxRecDepth 100000 in
theorem Zfq (b:Nat) (w:World) (h0:w.cell? ⟨b,0,none⟩=some (.pointer (some ⟨b,0,none⟩))):
 Calls prog 210 #[.pointer (some ⟨b,0,none⟩)] w fun e w'=>e= .returned (.tuple #[])∧w=w':=by
 obtain⟨j,hj,_⟩:=Option.map_eq_some_iff.1 Zdu
 go_enter Tryz.func210,Tryz.ntmps210
 go_wp2
 rw[Lib.run_neq_ptr_same w _ Tryz.underlying236 hj]
 go_wp2
 go_end0
 exact⟨rfl,rfl⟩
set_option maxRecDepth 100000 in
theorem ZeX (b:Nat) (w:World) (h0:w.cell? ⟨b,0,none⟩=some (.pointer none)) (hsh:w.shape? b=some (239,2)) (hfz:w.frozen? ⟨b,0,none⟩=false):
 Calls prog 210 #[.pointer (some ⟨b,0,none⟩)] w fun e w'=>e= .returned (.tuple #[])∧w.setCell ⟨b,0,none⟩ (.pointer (some ⟨b,0,none⟩))=w':=by
 obtain⟨j,hj,hjs⟩:=Option.map_eq_some_iff.1 Zdu
 go_enter Tryz.func210,Tryz.ntmps210
 go_wp2
 rw[Lib.run_to_unsafe w ⟨b,0,none⟩ Tryz.underlying236 Tryz.underlying284 hj (by rw[hjs];decide) hsh (Nat.zero_lt_succ 1)]
 simp only[Result.andThen]
 rw[Oper.upon_value]
 go_wp2
 rw[run_callFunc_extern Tryz.func229 (by kernel_rfl) (by kernel_rfl) (by kernel_rfl) (e:=Extern.AbiNoEscape.same) (by kernel_rfl)]
 rw[Lib.run_noEscape]
 simp only[Result.andThen]
 rw[Oper.upon_value]
 go_wp2
 rw[Lib.run_from_unsafe w ⟨b,0,none⟩ Tryz.underlying284 Tryz.underlying236 hj hsh ZhK]
 simp only[Result.andThen]
 rw[Oper.upon_value]
 go_wp2
 go_end0
 exact⟨rfl,rfl⟩
def Holds (lo b:Nat) (l:List UInt8) (w:World):Prop:=Lib.IsBuilderF 239 5 lo b (Lib.byteCells l) w
theorem Zi3 (lo b:Nat) (l:List UInt8) (w:World) (h:Holds lo b l w):
 Calls prog 210 #[.pointer (some ⟨b,0,none⟩)] w fun e w'=>e= .returned (.tuple #[])∧Lib.BuilderAtF 239 5 lo b (.pointer (some ⟨b,0,none⟩)) (Lib.byteCells l) w'∧Below lo w w':=by
 rcases h with h | h
 · refine(ZeX b w h.cell0 h.shape h.frozen0).mono ?_
   rintro e w' ⟨rfl,rfl⟩
   exact⟨rfl,h.used _,(Below.refl lo w).setCell (p:=⟨b,0,none⟩) h.1 _⟩
 · refine(Zfq b w h.cell0).mono ?_
   rintro e w' ⟨rfl,rfl⟩
   exact⟨rfl,h,Below.refl lo _⟩
set_option maxHeartbeats 1000000 in
theorem ZgX (lo b:Nat) (l:List UInt8) (s:ByteArray) (w:World) (h:Holds lo b l w) (hlen:l.length+s.size≤140737488355328) (hlo:lo≤w.heap.size):
 Calls prog 174 #[.pointer (some ⟨b,0,none⟩),.string s] w fun e w'=>e= .returned (.tuple #[.int .i64 s.size,.nilIface])∧Holds lo b (l++s.data.toList) w'∧Below lo w w':=by
 obtain⟨i0,hi,hz0,hz1,hz2⟩:=info_parts ZnC
 have hlen':(Lib.byteCells l).length=l.length:=Lib.byteCells_length l
 go_enter Tryz.func174,Tryz.ntmps174
 go_wp2_with (go_at_call 210;refine(Zi3 lo b l _ h).mono ?_)
 rintro e w1 ⟨rfl,h1,hb1⟩
 obtain⟨hB,v,hbk,hown,hne⟩:=h1
 have c0:w1.cell? ⟨b,0,none⟩=some (.pointer (some ⟨b,0,none⟩)):=by rw[Lib.cell_of_heap hbk];rfl
 have c1:w1.cell? ⟨b,1,none⟩=some v:=by rw[Lib.cell_of_heap hbk];rfl
 go_wp2_with (at_builtin;refine Lib.wpList_append_own_stringF _ rfl _ _ 237 9 rfl lo 5 i0 Tryz.underlying237 Tryz.underlying9 hi hz0 hz1 hz2 _ _ _ rfl hown s rfl ?c3 ?c4 ?c5 ?_)
 case c3=>unfold maxLen;omega
 case c4=>omega
 case c5=>have:=hb1.size;omega
 intro v' w2 hown' hgrow _
 have hlt:b<w1.heap.size:=(Array.getElem?_eq_some_iff.1 hbk).1
 have hb2:w2.heap[b]?=some (.cells #[.pointer (some ⟨b,0,none⟩),v] 239 (0,0)):=by
  rw[hgrow.block b hlt (fun e=>hne e.symm)]
  exact hbk
 have d0:w2.cell? ⟨b,0,none⟩=some (.pointer (some ⟨b,0,none⟩)):=by rw[Lib.cell_of_heap hb2];rfl
 have d1:w2.cell? ⟨b,1,none⟩=some v:=by rw[Lib.cell_of_heap hb2];rfl
 have f1:w2.frozen? ⟨b,1,none⟩=false:=Lib.frozen_of_heap hb2 1
 obtain⟨ao,n',cap,rfl⟩:∃ ao n' cap,v'= .slice ao n' cap:=by
  rcases hown'.2 with⟨hv,_⟩ | ⟨g,cap,cur,fz,hv,_⟩
  · exact⟨_,_,_,hv⟩
  · exact⟨_,_,_,hv⟩
 have hcat:Lib.byteCells (l++s.data.toList)=Lib.byteCells l++Lib.strCells s:=by simp[Lib.byteCells,Lib.strCells]
 go_wp2
 go_ret2
 refine⟨rfl,?_,?_⟩
 · refine Or.inr ?_
   rw[hcat]
   exact Lib.BuilderAtF.put (T:=239) (e:=5) hB hb2 (bs':=Lib.byteCells l++Lib.strCells s) (by rw[List.length_append,Lib.strCells_length,hlen'];exact hown') (by decide)
 · exact(hb1.grown hgrow (by have:=hb1.size;omega) (fun k hk=>(hown.lt k hk).1)).setCell (p:=⟨b,1,none⟩) hB _
end Go.Proofs.YtaigaoflehfdcaaGreatDoor
