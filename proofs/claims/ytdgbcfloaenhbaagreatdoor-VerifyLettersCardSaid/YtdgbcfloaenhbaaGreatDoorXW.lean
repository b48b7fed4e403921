/-
  CONTRACTS: verify.fail (a panic with a code) and verify.guarded (which catches it).
  SUBSTITUTION AS DATA: bindings, images, what fits, what is broken (plain; no program in sight).
-/
import Derived.Test.YtdgbcfloaenhbaaGreatDoorXV
import Derived.Tactics2
import Derived.TacticsInMore
import Derived.Test.YtdgbcfloaenhbaaGreatDoorXT
namespace Go.Proofs.YtdgbcfloaenhbaaGreatDoor
open Go.RowKit
def flV (c:Int):Value:=.iface 72 (.agg #[.int .i64 c])
theorem fail_c (c:Int) (w:World):Calls Tryz.prog 20 #[.int .i64 c] w fun e w'=>e= .panicked (pch (flV c))∧w'=w:=by
 have hb:∀ w,(Instr.build 72 #[(0,.int .i64 c)]).run Tryz.prog w= .ok (.agg #[.int .i64 c]) w:=fun w=>by kernel_rfl
 have hm:∀ v w,(Instr.makeInterface 72 v).run Tryz.prog w= .ok (.iface 72 v) w:=fun v w=>by kernel_rfl
 go_enter Tryz.func20,Tryz.ntmps20
 go_wp2
 simp[bodyPost,flV,pch]
theorem XS {J:World→Prop} (_:Stab J) (c:Int):FnP (ι:=Empty) (κ:=Unit) Tryz.prog J 20 [] [.int c] [] (fun _=>.any) (fun _=>[]) (fun _=>flV c) (fun _=>[]):=by
 intro S w0 R w vs hS hJ0 hH hk hx ha
 simp only[RelL]at ha
 obtain⟨v,us,rfl,hv,rfl⟩:=ha
 obtain rfl:=hv.lit
 refine(fail_c c w).mono ?_
 rintro e w' ⟨rfl,rfl⟩
 exact .inr ⟨(),rfl,hk,hx⟩
theorem Zmo (e:Nat) (x c:Int) (w:World) (hc:w.cell? ⟨e,0,none⟩=some (.int .i64 x)) (hz:w.frozen? ⟨e,0,none⟩=false):
 CallsDIn Fence.wide 4 Tryz.prog 31 #[.pointer (some ⟨e,0,none⟩)] (.panicking (pch (flV c))) w fun en u' w'=>
  en= .returned (.tuple #[])∧u'= .panicking [{ v:=flV c,recovered:=true }]∧Keeps (fun k=>k≠e) w w'∧w'.cell? ⟨e,0,none⟩=some (.int .i64 c):=by
 have hta:∀ w,(Instr.typeAssert (.iface 72 (.agg #[.int .i64 c])) 20 72 true).run Tryz.prog w= .ok (.tuple #[.agg #[.int .i64 c],.bool true]) w:=fun w=>by kernel_rfl
 have hlt:e<w.heap.size:=World.block_lt_of_cell? w ⟨e,0,none⟩ hc
 have hca:∀ o,(w.alloc o).cell? ⟨e,0,none⟩=some (.int .i64 x):=fun o=>(World.cell?_of_block (a:=⟨e,0,none⟩) (heap_alloc_old w o hlt)).trans hc
 have hza:∀ o,(w.alloc o).frozen? ⟨e,0,none⟩=false:=fun o=>(World.frozen?_of_block (a:=⟨e,0,none⟩) (heap_alloc_old w o hlt)).trans hz
 refine callsDIn_of_wpSIn Tryz.func31 rfl trivial fun c₀ cs hu=>?_
 simp only[Tryz.ntmps31,List.size_toArray,List.length_cons,List.length_nil,Nat.reduceAdd,Nat.reduceSub,Array.replicate_succ,Array.replicate_zero,List.push_toArray,List.append_toArray,List.nil_append,List.cons_append]
 apply wpSIn_seq
 apply wpSIn_region
 simp[wpOpsSIn,go_sem,recoverD,hu,Exit.thenS,pch,flV]
 refine wpSIn_of_wpIn rfl ?_
 gi_wp2
 simp[bodyPostS,results,Tryz.results31]
 refine⟨((Keeps.refl _ _).setCell (fun _ hn=>hn rfl) _).alloc _,?_⟩
 refine(World.cell?_of_block (a:=⟨e,0,none⟩) (heap_alloc_old _ _ (by simpa using hlt))).trans ?_
 exact World.cell?_setCell_same w _ _ hc
theorem ZjZ (e:Nat) (w:World):
 CallsDIn Fence.wide 4 Tryz.prog 31 #[.pointer (some ⟨e,0,none⟩)] .returning w fun en u' w'=>en= .returned (.tuple #[])∧u'= .returning∧w'=w:=by
 refine callsDIn_of_wpSIn Tryz.func31 rfl trivial fun c₀ cs hu=>?_
 simp only[Tryz.ntmps31,List.size_toArray,List.length_cons,List.length_nil,Nat.reduceAdd,Nat.reduceSub,Array.replicate_succ,Array.replicate_zero,List.push_toArray,List.append_toArray,List.nil_append,List.cons_append]
 apply wpSIn_seq
 apply wpSIn_region
 simp[wpOpsSIn,go_sem,recoverD,hu,Exit.thenS]
 refine wpSIn_of_wpIn rfl ?_
 gi_wp2
 simp[bodyPostS,results,Tryz.results31]
 cases c₀
 simp_all
section
variable {ι κ:Type} {J:World→Prop}
def Zmp (pc:κ→Int):ι ⊕ κ→Int
 | .inl _=>0
 | .inr k=>pc k
def catchO (O':ι→List OB) (O'':κ→List OB):ι ⊕ κ→List OB
 | .inl i=>O' i
 | .inr k=>O'' k
theorem ZhI {S:Nat→Prop} {w0 w:World} {A R:List OB} {o:OB} (h:XO J S w0.heap.size (A++o::R) w):XO J S w0.heap.size (o::(A++R)) w:=Ym List.perm_middle h
theorem ZhL {S:Nat→Prop} {lo b:Nat} {v:Value} {w:World} (h:(OB.var b [.lit v]).inv lo S w):w.cell? ⟨b,0,none⟩=some v∧w.frozen? ⟨b,0,none⟩=false∧lo≤b∧b<w.heap.size:=by
 obtain⟨h0,us,e,h1,h2⟩:=h
 match us,h2 with
 | [u],h2=>
  obtain rfl:=h2.1.of_lit
  refine⟨?_,?_,h0,(Array.getElem?_eq_some_iff.1 h1).1⟩
  · unfold World.cell?;simp[h1]
  · unfold World.frozen?;simp[h1]
theorem ZhJ {S:Nat→Prop} {w0 w w':World} {A:List OB} {o:OB} (h:XO J S w0.heap.size (o::A) w) (hJ':J w') (hk:Keeps (fun k=>¬ o.blk k) w w'):XO J S w0.heap.size A w':=
 ⟨hJ',fun p hp=>p.mv (h.2.1 p (List.mem_cons_of_mem _ hp)) hk (fun k hkp e=>(List.pairwise_cons.1 h.2.2).1 p hp k e hkp) fun _ _ hs=>⟨hs.2 o (by simp),hs.drop⟩,(List.pairwise_cons.1 h.2.2).2⟩
theorem ZfF {T:Nat→Prop} {w:World}:∀ {caps:List Value},(∀ v∈caps,okLit v)→RelL T w (caps.map AV.lit) caps
 | [],_=>by simp only[List.map_nil,RelL]
 | v::r,h=>by
  simp only[List.map_cons,RelL]
  exact⟨v,r,rfl,Rel.of_lit v (h v (by simp)),ZfF fun u hu=>h u (by simp[hu])⟩
theorem Zdf (hJ:Stab J) {F:FuncId} {caps:List Value} {O:List OB} {O':ι→List OB} {pc:κ→Int} {O'':κ→List OB} {Hs:List OB} (hF:FnP Tryz.prog J F Hs (caps.map AV.lit) O (fun _=>.tup []) O' (fun k=>flV (pc k)) O'') (hok:Zp Tryz.prog F) (hcap:∀ v∈caps,okLit v):
 FnM (ι:=ι ⊕ κ) Tryz.prog J 16 Hs [.lit (.func (.func F) #[] caps.toArray)] O (fun r=>.int (Zmp pc r)) (catchO O' O''):=by
 intro S w0 R w vs hS hJ0 hH hk hx ha
 simp only[RelL]at ha
 obtain⟨v,us,rfl,hv,rfl⟩:=ha
 obtain rfl:=hv.lit
 refine(callsIn_wide (n:=5)).1 ?_
 have hmf:∀(fn:Go.Fn) (first cap:Array Value) (w:World),(Instr.makeFunc fn first cap).run Tryz.prog w= .ok (.func fn first cap) w:=fun _ _ _ _=>rfl
 refine callsIn_of_wp_defers Tryz.func16 rfl trivial ?_ rfl
 simp only[Tryz.ntmps16,List.size_toArray,List.length_cons,List.length_nil,Nat.reduceAdd,Nat.reduceSub,Array.replicate_succ,Array.replicate_zero,List.push_toArray,List.append_toArray,List.nil_append,List.cons_append]
 have hka:Keeps All w (w.alloc (.cells #[.int .i64 0] 27)):=(Keeps.refl _ _).alloc _
 have hnew:(w.alloc (.cells #[.int .i64 0] 27)).heap[w.heap.size]?=some (.cells #[.int .i64 0] 27):=World.alloc_heap_new w _
 obtain⟨hx1,_⟩:=Zc1 (o:=OB.var w.heap.size [.lit (.int .i64 0)]) hJ hx hka (fun k hk=>Nat.le_of_eq hk.symm) ⟨hk.size,[.int .i64 0],_,hnew,.lit _ True.intro,trivial⟩
 have hx2:XO J S w0.heap.size (O++OB.var w.heap.size [.lit (.int .i64 0)]::R) (w.alloc (.cells #[.int .i64 0] 27)):=Ym List.perm_middle.symm hx1
 have hcall:=hF S w0 (OB.var w.heap.size [.lit (.int .i64 0)]::R) _ caps hS hJ0 hH (hk.trans hka) hx2 (ZfF hcap)
 have hen:=hok caps.toArray (w.alloc (.cells #[.int .i64 0] 27))
 gi_wp2
 refine⟨trivial,?_⟩
 refine CallsIn.mono (callsIn_wide.2 hcall) ?_
 rintro e w2 (⟨i,v,rfl, -,hk2,hx2'⟩ | ⟨k,rfl,hk2,hx2'⟩)
 · obtain⟨c1,c2,c3,c4⟩:=ZhL ((ZhI hx2').2.1 (OB.var w.heap.size [.lit (.int .i64 0)]) (by simp))
   gi_wp2
   refine leavesIn_cons (f:=31) (args:= #[.pointer (some ⟨w.heap.size,0,none⟩)]) (by simp) (by simp[Fence.wide]) (by simp[go_sem]) (fun _ _=>trivial) ?_
   refine(ZjZ w.heap.size _).mono ?_
   rintro e u' w3 ⟨rfl,rfl,rfl⟩
   have hk3:Keeps (fun k=>k≠w.heap.size) w2 (w2.setCell ⟨w.heap.size,0,none⟩ (.int .i64 0)):=(Keeps.refl _ _).setCell (fun _ hn=>hn rfl) _
   have hc3:(w2.setCell ⟨w.heap.size,0,none⟩ (.int .i64 0)).cell? ⟨w.heap.size,0,none⟩=some (.int .i64 0):=World.cell?_setCell_same w2 _ _ c1
   have hk03:Keeps All w0 (w2.setCell ⟨w.heap.size,0,none⟩ (.int .i64 0)):=hk2.upto' hk3 fun k hk0 e=>by subst e;omega
   have hx3:=ZhJ (ZhI hx2') (hJ w0 _ hk03 hJ0) hk3
   simp[LeavesIn,settle,results,Tryz.results16,go_sem,hc3]
   exact⟨.inl i,by simp only[Zmp];exact Rel.of_lit _,hk03,hx3⟩
 · obtain⟨c1,c2,c3,c4⟩:=ZhL ((ZhI hx2').2.1 (OB.var w.heap.size [.lit (.int .i64 0)]) (by simp))
   refine leavesIn_cons (f:=31) (args:= #[.pointer (some ⟨w.heap.size,0,none⟩)]) (by simp) (by simp[Fence.wide]) (by simp[go_sem]) (fun _ _=>trivial) ?_
   refine(Zmo w.heap.size 0 (pc k) w2 c1 c2).mono ?_
   rintro e u' w3 ⟨rfl,rfl,hk3,hc3⟩
   have hk03:Keeps All w0 w3:=hk2.upto' hk3 fun k hk0 e=>by subst e;omega
   have hx3:=ZhJ (ZhI hx2') (hJ w0 w3 hk03 hJ0) hk3
   simp[LeavesIn,settle,results,Tryz.results16,go_sem,hc3]
   exact⟨.inr k,by simp only[Zmp];exact Rel.of_lit _,hk03,hx3⟩
end
end Go.Proofs.YtdgbcfloaenhbaaGreatDoor
namespace Go.Proofs.YtdgbcfloaenhbaaGreatDoor
structure Bd where
 var:ByteArray
 text:List ByteArray
instance instInhBd:Inhabited Bd:=⟨⟨ByteArray.empty,[]⟩⟩
def bdC (b:Bd):List CD:=[.lit (.string b.var),Zb b.text]
def ZhC (l:List Bd):CD:=.sl (l.map bdC)
abbrev BM:=List (ByteArray×List ByteArray)
def ZpU (M:BM) (b:Bd):BM:=if(ZD M b.var).isSome then M else QY M b.var b.text
def Yi (l:List Bd):BM:=l.foldl ZpU []
def Xm (M:BM) (s:ByteArray):List ByteArray:=match ZD M s with
 | some t=>t
 | none=>[s]
def Zaa (M:BM) (text:List ByteArray):List ByteArray:=text.flatMap (Xm M)
def Zdl (M:BM) (text:List ByteArray) (most:Nat):Bool:=decide ((Zaa M text).length≤most)
def fitB (pattern:List ByteArray) (l:List Bd) (text:List ByteArray):Bool:=decide (Zaa (Yi l) pattern=text)
def ZpC (set:List ByteArray) (out:List ByteArray) (s:ByteArray):List ByteArray:=if s∈set∧s∉out then out++[s]else out
def QK (text set:List ByteArray):List ByteArray:=text.foldl (ZpC set) []
def X3 (l:List ByteArray):List ByteArray:=l.foldl X6 []
theorem Zo8 (l:List Bd) (b:Bd):Yi (l++[b])=ZpU (Yi l) b:=by simp[Yi]
theorem Zfj (M:BM) (a b:List ByteArray):Zaa M (a++b)=Zaa M a++Zaa M b:=by simp[Zaa]
theorem Zpc (M:BM) (s:ByteArray):Zaa M [s]=Xm M s:=by simp[Zaa]
theorem Qc {M:BM} {text:List ByteArray} {j:Nat} (h:j<text.length):Zaa M (text.take (j+1))=Zaa M (text.take j)++Xm M (ge text j):=by
 rw[ZU h,Zfj,Zpc]
theorem QR (M:BM) (text:List ByteArray) (j:Nat):(Zaa M (text.take j)).length≤(Zaa M text).length:=by
 rw[←List.take_append_drop j text,Zfj,List.take_append_drop]
 simp
theorem Zn3 (set text:List ByteArray) (s:ByteArray):QK (text++[s]) set=ZpC set (QK text set) s:=by simp[QK]
theorem Zf2 {set text:List ByteArray} {j:Nat} (h:j<text.length):QK (text.take (j+1)) set=ZpC set (QK (text.take j) set) (ge text j):=by
 rw[ZU h,Zn3]
theorem Zn8 (l:List ByteArray) (s:ByteArray):X3 (l++[s])=X6 (X3 l) s:=by simp[X3]
theorem Zf9 {l:List ByteArray} {j:Nat} (h:j<l.length):X3 (l.take (j+1))=X6 (X3 (l.take j)) (ge l j):=by
 rw[ZU h,Zn8]
theorem ZgF {l:List Bd} {j:Nat} (h:j<l.length):Yi (l.take (j+1))=ZpU (Yi (l.take j)) (ge l j):=by
 rw[ZU h,Zo8]
theorem Zn5 {set out:List ByteArray} {s x:ByteArray}:x∈ZpC set out s↔x∈out∨(x=s∧s∈set):=by
 unfold ZpC
 split
 · rename_i h
   rw[List.mem_append,List.mem_singleton]
   constructor
   · rintro(h1 | rfl)
     · exact .inl h1
     · exact .inr ⟨rfl,h.1⟩
   · rintro(h1 | ⟨rfl,_⟩)
     · exact .inl h1
     · exact .inr rfl
 · rename_i h
   constructor
   · exact .inl
   · rintro(h1 | ⟨rfl,h2⟩)
     · exact h1
     · exact Classical.byContradiction fun h3=>h ⟨h2,h3⟩
theorem mem_occL {text set:List ByteArray} {x:ByteArray}:x∈QK text set↔x∈text∧x∈set:=by
 have key:∀(text out:List ByteArray),x∈text.foldl (ZpC set) out↔x∈out∨(x∈text∧x∈set):=by
  intro text
  induction text with
  | nil=>intro out;simp
  | cons s r ih=>
   intro out
   rw[List.foldl_cons,ih,Zn5]
   constructor
   · rintro((h | ⟨rfl,h⟩) | ⟨h1,h2⟩)
     · exact .inl h
     · exact .inr ⟨by simp,h⟩
     · exact .inr ⟨by simp[h1],h2⟩
   · rintro(h | ⟨h1,h2⟩)
     · exact .inl (.inl h)
     · rcases List.mem_cons.1 h1 with rfl | h1
       · exact .inl (.inr ⟨rfl,h2⟩)
       · exact .inr ⟨h1,h2⟩
 have:=key text []
 simpa [QK]using this
theorem mem_lstL {l:List ByteArray} {x:ByteArray}:x∈X3 l↔x∈l:=by
 have key:∀(l out:List ByteArray),x∈l.foldl X6 out↔x∈out∨x∈l:=by
  intro l
  induction l with
  | nil=>intro out;simp
  | cons s r ih=>
   intro out
   rw[List.foldl_cons,ih,ZeT,List.mem_cons]
   constructor
   · rintro((h | h) | h)
     · exact .inl h
     · exact .inr (.inl h)
     · exact .inr (.inr h)
   · rintro(h | h | h)
     · exact .inl (.inl h)
     · exact .inl (.inr h)
     · exact .inr h
 have:=key l []
 simpa [X3]using this
def Zaz (x y:ByteArray):Int:=if Op.bytesLess x.toList y.toList then-1 else if x=y then 0 else 1
def Zes (p q:Pr):Int:=if Zaz p.a q.a=0 then Zaz p.b q.b else Zaz p.a q.a
def orI (l:List Int):Int:=(l.find? fun z=>decide (¬ z=0)).getD 0
theorem Zlj {l:List Int} {k:Nat} (hk:k<l.length) (h1:∀ j,j<k→ge l j=0) (h2:¬ ge l k=0):orI l=ge l k:=by
 induction l generalizing k with
 | nil=>simp at hk
 | cons x r ih=>
  cases k with
  | zero=>
   have h3:¬ x=0:=h2
   show((x::r).find? _).getD 0=x
   rw[List.find?_cons_of_pos (by simpa using h3)]
   rfl
  | succ k=>
   have h3:x=0:=h1 0 (by omega)
   have h4:=ih (k:=k) (by simpa using hk) (fun j hj=>by have:=h1 (j+1) (by omega);simpa [ge]using this) (by simpa [ge]using h2)
   have h5:orI (x::r)=orI r:=by
    show((x::r).find? _).getD 0=(r.find? _).getD 0
    rw[List.find?_cons_of_neg (by simpa using h3)]
   rw[h5,h4]
   simp[ge]
theorem Zpz {l:List Int} (h1:∀ j,j<l.length→ge l j=0):orI l=0:=by
 have:l.find? (fun z=>decide (¬ z=0))=none:=List.find?_eq_none.2 fun x hx=>by
  obtain⟨j,hj,rfl⟩:=XT hx
  simpa using h1 j hj
 rw[orI,this]
 rfl
theorem Zml (p q:Pr):orI [Zaz p.a q.a,Zaz p.b q.b]=Zes p q:=by
 unfold Zes orI
 by_cases h:Zaz p.a q.a=0
 · by_cases h2:Zaz p.b q.b=0<;>simp[h,h2]
 · simp[h]
def Zbr (p:Pr):Pr:=if Op.bytesLess p.b.toList p.a.toList then⟨p.b,p.a⟩else p
def Znq (l:List Bd) (apart:List Pr) (vars:List ByteArray):List Pr:=
 apart.flatMap fun p=>(QK (Xm (Yi l) p.a) (X3 vars)).flatMap fun x=>(QK (Xm (Yi l) p.b) (X3 vars)).map fun y=>Zbr ⟨x,y⟩
def ZgQ (wide:List Pr) (p:Pr):Bool:=!decide (p∈wide.map Zbr)||decide (p.a=p.b)
def ZmN (l:List Bd) (apart:List Pr) (vars:List ByteArray) (wide:List Pr):Option Pr:=(Znq l apart vars).find? (ZgQ wide)
def Zev (l:List Bd) (apart:List Pr) (vars:List ByteArray) (wide:List Pr):Pr:=(ZmN l apart vars wide).getD ⟨⟨#[]⟩,⟨#[]⟩⟩
def ZhB (l:List Bd) (apart:List Pr) (vars:List ByteArray) (wide:List Pr):Bool:=(ZmN l apart vars wide).isSome
theorem Zf5 {α κ:Type} [DecidableEq κ] (L:List (κ×α)) (k k':κ) (v:α):ZD (QY L k v) k'=if k'=k then some v else ZD L k':=by
 induction L with
 | nil=>by_cases h:k'=k<;>simp[QY,ZD,h]
 | cons p L ih=>
  unfold QY
  by_cases h:k=p.1
  · rw[if_pos h]
    by_cases h2:k'=k
    · simp[ZD,h2,h]
    · have:¬ k'=p.1:=fun e=>h2 (e.trans h.symm)
      simp[ZD,h2,this]
  · rw[if_neg h]
    by_cases h2:k'=p.1
    · have:¬ p.1=k:=fun e=>h e.symm
      simp[ZD,h2,this]
    · have e1:ZD (p::QY L k v) k'=ZD (QY L k v) k':=by simp[ZD,h2]
      have e2:ZD (p::L) k'=ZD L k':=by simp[ZD,h2]
      rw[e1,e2,ih]
theorem Zlw (M:BM) (b:Bd) (s:ByteArray):ZD (ZpU M b) s=match ZD M s with
 | some t=>some t
 | none=>if s=b.var then some b.text else none:=by
 unfold ZpU
 split
 · rename_i h
   cases h2:ZD M s with
   | some t=>rfl
   | none=>
    have:¬ s=b.var:=fun e=>by rw[←e,h2]at h;cases h
    simp[this]
 · rename_i h
   rw[Zf5]
   by_cases e:s=b.var
   · subst e
     have:ZD M b.var=none:=by simpa using h
     simp[this]
   · simp only[e,if_false]
     cases ZD M s<;>rfl
theorem Zf6 (l:List Bd) (s:ByteArray):ZD (Yi l) s=(l.find? fun b=>decide (b.var=s)).map Bd.text:=by
 have key:∀(l:List Bd) (M:BM),ZD (l.foldl ZpU M) s=match ZD M s with
  | some t=>some t
  | none=>(l.find? fun b=>decide (b.var=s)).map Bd.text:=by
  intro l
  induction l with
  | nil=>intro M;cases h:ZD M s<;>simp[h]
  | cons b l ih=>
   intro M
   rw[List.foldl_cons,ih,Zlw]
   cases h:ZD M s with
   | some t=>rfl
   | none=>
    by_cases e:s=b.var
    · subst e;simp
    · have e':¬ b.var=s:=fun h=>e h.symm
      simp[e,e']
 exact key l []
theorem Zhj {l:List Bd} {m:Nat} (hm:1≤m) (hl:∀ b∈l,b.text.length≤m) (s:ByteArray):(Xm (Yi l) s).length≤m:=by
 unfold Xm
 rw[Zf6]
 cases h:l.find? fun b=>decide (b.var=s)with
 | none=>simpa using hm
 | some b=>exact hl b (List.mem_of_find?_eq_some h)
theorem fit_no {M:BM} {pattern text:List ByteArray} {k j p:Nat} (hk:k<pattern.length) (hj:j< (Xm M (ge pattern k)).length) (h:text.take p=Zaa M (pattern.take k)++(Xm M (ge pattern k)).take j) (hp:p≤text.length)
 (hb:p=text.length∨ ¬ ge text p=ge (Xm M (ge pattern k)) j):¬ Zaa M pattern=text:=by
 intro e
 have e1:Zaa M pattern=Zaa M (pattern.take k)++Xm M (ge pattern k)++Zaa M (pattern.drop (k+1)):=by
  rw[←Qc hk,←Zfj,List.take_append_drop]
 have hl:p=(Zaa M (pattern.take k)).length+j:=by
  have:=congrArg List.length h
  rw[List.length_take,List.length_append,List.length_take]at this
  omega
 have hlen:(Zaa M pattern).length=text.length:=by rw[e]
 rw[e1,List.length_append,List.length_append]at hlen
 rcases hb with hb | hb
 · omega
 · apply hb
   have hget:text[p]?=some (ge (Xm M (ge pattern k)) j):=by
    rw[←e,e1,List.append_assoc,List.getElem?_append_right (by omega),List.getElem?_append_left (by omega)]
    rw[hl,Nat.add_sub_cancel_left]
    exact Zen hj
   rw[ge,List.getD_eq_getElem?_getD,hget]
   rfl
theorem Zrm {M:BM} {pattern text:List ByteArray} {p:Nat} (h:text.take p=Zaa M pattern) (hp:p≤text.length):decide (((p:Nat):Int)=((text.length:Nat):Int))=decide (Zaa M pattern=text):=by
 congr 1
 apply propext
 constructor
 · intro e
   rw[←h,List.take_of_length_le (by omega)]
 · intro e
   have:=congrArg List.length h
   rw[e,List.length_take]at this
   omega
end Go.Proofs.YtdgbcfloaenhbaaGreatDoor
