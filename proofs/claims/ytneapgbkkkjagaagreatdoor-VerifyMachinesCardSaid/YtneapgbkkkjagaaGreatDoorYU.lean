/-
  CONTRACTS: verify.fail (a panic with a code) and verify.guarded (which catches it).
  SUBSTITUTION AS DATA: bindings, images, what fits, what is broken (plain; no program in sight).
-/
import Derived.Test.YtneapgbkkkjagaaGreatDoorYT
import Derived.Tactics2
import Derived.TacticsInMore
import Derived.Test.YtneapgbkkkjagaaGreatDoorYS
namespace Go.Proofs.YtneapgbkkkjagaaGreatDoor
open Go.Proofs.Tryz (prog)
open Go.RowKit
theorem Zj6 {w:World} (o:Obj) {r:Nat} (h:r<w.heap.size):(w.alloc o).heap[r]?=w.heap[r]?:=by
 show(w.heap.push o)[r]?=_
 rw[Array.getElem?_push,if_neg (Nat.ne_of_lt h)]
def flV (c:Int):Value:=.iface 148 (.agg #[.int .i64 c])
theorem fail_c (c:Int) (w:World):Calls prog 104 #[.int .i64 c] w fun e w'=>e= .panicked (pch (flV c))∧w'=w:=by
 have hb:∀ w,(Instr.build 148 #[(0,.int .i64 c)]).run prog w= .ok (.agg #[.int .i64 c]) w:=fun w=>by kernel_rfl
 have hm:∀ v w,(Instr.makeInterface 148 v).run prog w= .ok (.iface 148 v) w:=fun v w=>by kernel_rfl
 go_enter Tryz.func104,Tryz.ntmps104
 go_wp2
 simp[bodyPost,flV,pch]
theorem QT {J:WP} (_:Stab J) (c:Int):FnP (ι:=Empty) (κ:=Unit) prog J 104 [] [.int c] [] (fun _=>.any) (fun _=>[]) (fun _=>flV c) (fun _=>[]):=by
 intro S w0 R w vs hS hJ0 hH hk hx ha
 simp only[RelL]at ha
 obtain⟨v,us,rfl,hv,rfl⟩:=ha
 obtain rfl:=hv.lit
 refine(fail_c c w).mono ?_
 rintro e w' ⟨rfl,rfl⟩
 exact .inr ⟨(),rfl,hk,hx⟩
theorem ZpK (e:Nat) (x c:Int) (w:World) (hc:w.cell? ⟨e,0,none⟩=some (.int .i64 x)) (hz:w.frozen? ⟨e,0,none⟩=false):
 CallsDIn Fence.wide 4 prog 102 #[.pointer (some ⟨e,0,none⟩)] (.panicking (pch (flV c))) w fun en u' w'=>
  en= .returned (.tuple #[])∧u'= .panicking [{ v:=flV c,recovered:=true }]∧Keeps (fun k=>k≠e) w w'∧w'.cell? ⟨e,0,none⟩=some (.int .i64 c):=by
 have hta:∀ w,(Instr.typeAssert (.iface 148 (.agg #[.int .i64 c])) 20 148 true).run prog w= .ok (.tuple #[.agg #[.int .i64 c],.bool true]) w:=fun w=>by kernel_rfl
 have hlt:e<w.heap.size:=World.block_lt_of_cell? w ⟨e,0,none⟩ hc
 have hca:∀ o,(w.alloc o).cell? ⟨e,0,none⟩=some (.int .i64 x):=fun o=>(World.cell?_of_block (a:=⟨e,0,none⟩) (Zj6 o hlt)).trans hc
 have hza:∀ o,(w.alloc o).frozen? ⟨e,0,none⟩=false:=fun o=>(World.frozen?_of_block (a:=⟨e,0,none⟩) (Zj6 o hlt)).trans hz
 refine callsDIn_of_wpSIn Tryz.func102 rfl trivial fun c₀ cs hu=>?_
 simp only[Tryz.ntmps102,List.size_toArray,List.length_cons,List.length_nil,Nat.reduceAdd,Nat.reduceSub,Array.replicate_succ,Array.replicate_zero,List.push_toArray,List.append_toArray,List.nil_append,List.cons_append]
 apply wpSIn_seq
 apply wpSIn_region
 simp[wpOpsSIn,go_sem,recoverD,hu,Exit.thenS,pch,flV]
 refine wpSIn_of_wpIn rfl ?_
 gi_wp2
 simp[bodyPostS,results,Tryz.results102]
 refine⟨((Keeps.refl _ _).setCell (fun _ hn=>hn rfl) _).alloc _,?_⟩
 refine(World.cell?_of_block (a:=⟨e,0,none⟩) (Zj6 _ (by simpa using hlt))).trans ?_
 exact World.cell?_setCell_same w _ _ hc
theorem ZmK (e:Nat) (w:World):
 CallsDIn Fence.wide 4 prog 102 #[.pointer (some ⟨e,0,none⟩)] .returning w fun en u' w'=>en= .returned (.tuple #[])∧u'= .returning∧w'=w:=by
 refine callsDIn_of_wpSIn Tryz.func102 rfl trivial fun c₀ cs hu=>?_
 simp only[Tryz.ntmps102,List.size_toArray,List.length_cons,List.length_nil,Nat.reduceAdd,Nat.reduceSub,Array.replicate_succ,Array.replicate_zero,List.push_toArray,List.append_toArray,List.nil_append,List.cons_append]
 apply wpSIn_seq
 apply wpSIn_region
 simp[wpOpsSIn,go_sem,recoverD,hu,Exit.thenS]
 refine wpSIn_of_wpIn rfl ?_
 gi_wp2
 simp[bodyPostS,results,Tryz.results102]
 cases c₀
 simp_all
section
variable {ι κ:Type} {J:WP}
def ZpL (pc:κ→Int):ι ⊕ κ→Int
 | .inl _=>0
 | .inr k=>pc k
def catchO (O':ι→List OB) (O'':κ→List OB):ι ⊕ κ→List OB
 | .inl i=>O' i
 | .inr k=>O'' k
theorem Zke {S:Nat→Prop} {w0 w:World} {A R:List OB} {o:OB} (h:XO J S w0.heap.size (A++o::R) w):XO J S w0.heap.size (o::(A++R)) w:=YH List.perm_middle h
theorem Zkh {S:Nat→Prop} {lo b:Nat} {v:Value} {w:World} (h:(OB.var b [.lit v]).inv lo S w):w.cell? ⟨b,0,none⟩=some v∧w.frozen? ⟨b,0,none⟩=false∧lo≤b∧b<w.heap.size:=by
 obtain⟨h0,us,e,h1,h2⟩:=h
 match us,h2 with
 | [u],h2=>
  obtain rfl:=h2.1.of_lit
  refine⟨?_,?_,h0,(Array.getElem?_eq_some_iff.1 h1).1⟩
  · unfold World.cell?;simp[h1]
  · unfold World.frozen?;simp[h1]
theorem Zkf {S:Nat→Prop} {w0 w w':World} {A:List OB} {o:OB} (h:XO J S w0.heap.size (o::A) w) (hJ':J w') (hk:Keeps (fun k=>¬ o.blk k) w w'):XO J S w0.heap.size A w':=
 ⟨hJ',fun p hp=>p.mv (h.2.1 p (List.mem_cons_of_mem _ hp)) hk (fun k hkp e=>(List.pairwise_cons.1 h.2.2).1 p hp k e hkp) fun _ _ hs=>⟨hs.2 o yz,hs.drop⟩,(List.pairwise_cons.1 h.2.2).2⟩
theorem ZhM {T:Nat→Prop} {w:World}:∀ {caps:List Value},(∀ v∈caps,okLit v)→RelL T w (caps.map AV.lit) caps
 | [],_=>by simp only[List.map_nil,RelL]
 | v::r,h=>by
  simp only[List.map_cons,RelL]
  exact⟨v,r,rfl,Rel.of_lit v (h v yz),ZhM fun u hu=>h u (by simp[hu])⟩
theorem Zh0 (hJ:Stab J) {F:FuncId} {caps:List Value} {O:List OB} {O':ι→List OB} {pc:κ→Int} {O'':κ→List OB} {Hs:List OB} (hF:FnP prog J F Hs (caps.map AV.lit) O (fun _=>.tup []) O' (fun k=>flV (pc k)) O'') (hok:Zk prog F) (hcap:∀ v∈caps,okLit v):
 FnM (ι:=ι ⊕ κ) prog J 54 Hs [.lit (.func (.func F) #[] caps.toArray)] O (fun r=>.int (ZpL pc r)) (catchO O' O''):=by
 intro S w0 R w vs hS hJ0 hH hk hx ha
 simp only[RelL]at ha
 obtain⟨v,us,rfl,hv,rfl⟩:=ha
 obtain rfl:=hv.lit
 refine(callsIn_wide (n:=5)).1 ?_
 have hmf:∀(fn:Go.Fn) (first cap:Array Value) (w:World),(Instr.makeFunc fn first cap).run prog w= .ok (.func fn first cap) w:=fun _ _ _ _=>rfl
 refine callsIn_of_wp_defers Tryz.func54 rfl trivial ?_ rfl
 simp only[Tryz.ntmps54,List.size_toArray,List.length_cons,List.length_nil,Nat.reduceAdd,Nat.reduceSub,Array.replicate_succ,Array.replicate_zero,List.push_toArray,List.append_toArray,List.nil_append,List.cons_append]
 have hka:Keeps All w (w.alloc (.cells #[.int .i64 0] 30)):=(Keeps.refl _ _).alloc _
 have hnew:(w.alloc (.cells #[.int .i64 0] 30)).heap[w.heap.size]?=some (.cells #[.int .i64 0] 30):=World.alloc_heap_new w _
 obtain⟨hx1,_⟩:=ZeA (o:=OB.var w.heap.size [.lit (.int .i64 0)]) hJ hx hka (fun k hk=>Nat.le_of_eq hk.symm) ⟨hk.size,[.int .i64 0],_,hnew,.lit _ True.intro,trivial⟩
 have hx2:XO J S w0.heap.size (O++OB.var w.heap.size [.lit (.int .i64 0)]::R) (w.alloc (.cells #[.int .i64 0] 30)):=YH List.perm_middle.symm hx1
 have hcall:=hF S w0 (OB.var w.heap.size [.lit (.int .i64 0)]::R) _ caps hS hJ0 hH (hk.trans hka) hx2 (ZhM hcap)
 have hen:=hok caps.toArray (w.alloc (.cells #[.int .i64 0] 30))
 gi_wp2
 refine⟨trivial,?_⟩
 refine CallsIn.mono (callsIn_wide.2 hcall) ?_
 rintro e w2 (⟨i,v,rfl, -,hk2,hx2'⟩ | ⟨k,rfl,hk2,hx2'⟩)
 · obtain⟨c1,c2,c3,c4⟩:=Zkh ((Zke hx2').2.1 (OB.var w.heap.size [.lit (.int .i64 0)]) yz)
   gi_wp2
   refine leavesIn_cons (f:=102) (args:= #[.pointer (some ⟨w.heap.size,0,none⟩)]) yz (by simp[Fence.wide]) (by simp[go_sem]) (fun _ _=>trivial) ?_
   refine(ZmK w.heap.size _).mono ?_
   rintro e u' w3 ⟨rfl,rfl,rfl⟩
   have hk3:Keeps (fun k=>k≠w.heap.size) w2 (w2.setCell ⟨w.heap.size,0,none⟩ (.int .i64 0)):=(Keeps.refl _ _).setCell (fun _ hn=>hn rfl) _
   have hc3:(w2.setCell ⟨w.heap.size,0,none⟩ (.int .i64 0)).cell? ⟨w.heap.size,0,none⟩=some (.int .i64 0):=World.cell?_setCell_same w2 _ _ c1
   have hk03:Keeps All w0 (w2.setCell ⟨w.heap.size,0,none⟩ (.int .i64 0)):=hk2.upto' hk3 fun k hk0 e=>by subst e;omega
   have hx3:=Zkf (Zke hx2') (hJ w0 _ hk03 hJ0) hk3
   simp[LeavesIn,settle,results,Tryz.results54,go_sem,hc3]
   exact⟨.inl i,by simp only[ZpL];exact Rel.of_lit _,hk03,hx3⟩
 · obtain⟨c1,c2,c3,c4⟩:=Zkh ((Zke hx2').2.1 (OB.var w.heap.size [.lit (.int .i64 0)]) yz)
   refine leavesIn_cons (f:=102) (args:= #[.pointer (some ⟨w.heap.size,0,none⟩)]) yz (by simp[Fence.wide]) (by simp[go_sem]) (fun _ _=>trivial) ?_
   refine(ZpK w.heap.size 0 (pc k) w2 c1 c2).mono ?_
   rintro e u' w3 ⟨rfl,rfl,hk3,hc3⟩
   have hk03:Keeps All w0 w3:=hk2.upto' hk3 fun k hk0 e=>by subst e;omega
   have hx3:=Zkf (Zke hx2') (hJ w0 w3 hk03 hJ0) hk3
   simp[LeavesIn,settle,results,Tryz.results54,go_sem,hc3]
   exact⟨.inr k,by simp only[ZpL];exact Rel.of_lit _,hk03,hx3⟩
end
end Go.Proofs.YtneapgbkkkjagaaGreatDoor
namespace Go.Proofs.YtneapgbkkkjagaaGreatDoor
structure Bd where
 var:BA
 text:List BA
instance instInhBd:Inhabited Bd:=⟨⟨ByteArray.empty,[]⟩⟩
def bdC (b:Bd):List CD:=[.lit (.string b.var),Zf b.text]
def Zea (l:List Bd):CD:=.sl (l.map bdC)
abbrev BM:=List (BA×List BA)
def Zuo (M:BM) (b:Bd):BM:=if(Ya M b.var).isSome then M else Zbc M b.var b.text
def Z1 (l:List Bd):BM:=l.foldl Zuo []
def Yu (M:BM) (s:BA):List BA:=match Ya M s with
 | some t=>t
 | none=>[s]
def XQ (M:BM) (text:List BA):List BA:=text.flatMap (Yu M)
def ZaS (M:BM) (text:List BA) (most:Nat):Bool:=decide ((XQ M text).length≤most)
def Zqz (pattern:List BA) (l:List Bd) (text:List BA):Bool:=decide (XQ (Z1 l) pattern=text)
def Zih (set:List BA) (out:List BA) (s:BA):List BA:=if s∈set∧s∉out then out++[s]else out
def QB (text set:List BA):List BA:=text.foldl (Zih set) []
def QC (l:List BA):List BA:=l.foldl QS []
theorem Zty (l:List Bd) (b:Bd):Z1 (l++[b])=Zuo (Z1 l) b:=by simp[Z1]
theorem Zeu (M:BM) (a b:List BA):XQ M (a++b)=XQ M a++XQ M b:=by simp[XQ]
theorem ZtC (M:BM) (s:BA):XQ M [s]=Yu M s:=by simp[XQ]
theorem Y3 {M:BM} {text:List BA} {j:Nat} (h:j<text.length):XQ M (text.take (j+1))=XQ M (text.take j)++Yu M (ge text j):=by
 rw[ZZ h,Zeu,ZtC]
theorem XP (M:BM) (text:List BA) (j:Nat):(XQ M (text.take j)).length≤(XQ M text).length:=by
 rw[←List.take_append_drop j text,Zeu,List.take_append_drop]
 simp
theorem ZrL (set text:List BA) (s:BA):QB (text++[s]) set=Zih set (QB text set) s:=by simp[QB]
theorem Zc5 {set text:List BA} {j:Nat} (h:j<text.length):QB (text.take (j+1)) set=Zih set (QB (text.take j) set) (ge text j):=by
 rw[ZZ h,ZrL]
theorem ZrQ (l:List BA) (s:BA):QC (l++[s])=QS (QC l) s:=by simp[QC]
theorem Zik {l:List BA} {j:Nat} (h:j<l.length):QC (l.take (j+1))=QS (QC (l.take j)) (ge l j):=by
 rw[ZZ h,ZrQ]
theorem ZiT {l:List Bd} {j:Nat} (h:j<l.length):Z1 (l.take (j+1))=Zuo (Z1 (l.take j)) (ge l j):=by
 rw[ZZ h,Zty]
theorem ZrN {set out:List BA} {s x:BA}:x∈Zih set out s↔x∈out∨(x=s∧s∈set):=by
 unfold Zih
 split
 · rename_i h
   rw[List.mem_append,List.mem_singleton]
   constructor
   · rintro(h1 | rfl)
     · exact .inl h1
     · exact .inr ⟨rfl,h.1⟩
   · rintro(h1 | ⟨rfl,_⟩)
     · exact .inl h1
     · exact .inr rfl
 · rename_i h
   constructor
   · exact .inl
   · rintro(h1 | ⟨rfl,h2⟩)
     · exact h1
     · exact Classical.byContradiction fun h3=>h ⟨h2,h3⟩
theorem mem_occL {text set:List BA} {x:BA}:x∈QB text set↔x∈text∧x∈set:=by
 have key:∀(text out:List BA),x∈text.foldl (Zih set) out↔x∈out∨(x∈text∧x∈set):=by
  intro text
  induction text with
  | nil=>intro out;simp
  | cons s r ih=>
   intro out
   rw[List.foldl_cons,ih,ZrN]
   constructor
   · rintro((h | ⟨rfl,h⟩) | ⟨h1,h2⟩)
     · exact .inl h
     · exact .inr ⟨by simp,h⟩
     · exact .inr ⟨by simp[h1],h2⟩
   · rintro(h | ⟨h1,h2⟩)
     · exact .inl (.inl h)
     · rcases List.mem_cons.1 h1 with rfl | h1
       · exact .inl (.inr ⟨rfl,h2⟩)
       · exact .inr ⟨h1,h2⟩
 have:=key text []
 simpa [QB]using this
theorem mem_lstL {l:List BA} {x:BA}:x∈QC l↔x∈l:=by
 have key:∀(l out:List BA),x∈l.foldl QS out↔x∈out∨x∈l:=by
  intro l
  induction l with
  | nil=>intro out;simp
  | cons s r ih=>
   intro out
   rw[List.foldl_cons,ih,Zg1,List.mem_cons]
   constructor
   · rintro((h | h) | h)
     · exact .inl h
     · exact .inr (.inl h)
     · exact .inr (.inr h)
   · rintro(h | h | h)
     · exact .inl (.inl h)
     · exact .inl (.inr h)
     · exact .inr h
 have:=key l []
 simpa [QC]using this
def Zbw (x y:BA):Int:=if Op.bytesLess x.toList y.toList then-1 else if x=y then 0 else 1
def Zgk (p q:Pr):Int:=if Zbw p.a q.a=0 then Zbw p.b q.b else Zbw p.a q.a
def orI (l:List Int):Int:=(l.find? fun z=>decide (¬ z=0)).getD 0
theorem Zow {l:List Int} {k:Nat} (hk:k<l.length) (h1:∀ j,j<k→ge l j=0) (h2:¬ ge l k=0):orI l=ge l k:=by
 induction l generalizing k with
 | nil=>simp at hk
 | cons x r ih=>
  cases k with
  | zero=>
   have h3:¬ x=0:=h2
   show((x::r).find? _).getD 0=x
   rw[List.find?_cons_of_pos (by simpa using h3)]
   rfl
  | succ k=>
   have h3:x=0:=h1 0 oz
   have h4:=ih (k:=k) (by simpa using hk) (fun j hj=>by have:=h1 (j+1) oz;simpa [ge]using this) (by simpa [ge]using h2)
   have h5:orI (x::r)=orI r:=by
    show((x::r).find? _).getD 0=(r.find? _).getD 0
    rw[List.find?_cons_of_neg (by simpa using h3)]
   rw[h5,h4]
   simp[ge]
theorem Zt5 {l:List Int} (h1:∀ j,j<l.length→ge l j=0):orI l=0:=by
 have:l.find? (fun z=>decide (¬ z=0))=none:=List.find?_eq_none.2 fun x hx=>by
  obtain⟨j,hj,rfl⟩:=Xp hx
  simpa using h1 j hj
 rw[orI,this]
 rfl
theorem ZpF (p q:Pr):orI [Zbw p.a q.a,Zbw p.b q.b]=Zgk p q:=by
 unfold Zgk orI
 by_cases h:Zbw p.a q.a=0
 · by_cases h2:Zbw p.b q.b=0<;>simp[h,h2]
 · simp[h]
def QN (p:Pr):Pr:=if Op.bytesLess p.b.toList p.a.toList then⟨p.b,p.a⟩else p
def Zcm (l:List Bd) (apart:List Pr) (vars:List BA):List Pr:=
 apart.flatMap fun p=>(QB (Yu (Z1 l) p.a) (QC vars)).flatMap fun x=>(QB (Yu (Z1 l) p.b) (QC vars)).map fun y=>QN ⟨x,y⟩
def Zfy (wide:List Pr) (p:Pr):Bool:=!decide (p∈wide.map QN)||decide (p.a=p.b)
def Zj4 (l:List Bd) (apart:List Pr) (vars:List BA) (wide:List Pr):Option Pr:=(Zcm l apart vars).find? (Zfy wide)
def Zes (l:List Bd) (apart:List Pr) (vars:List BA) (wide:List Pr):Pr:=(Zj4 l apart vars wide).getD ⟨⟨#[]⟩,⟨#[]⟩⟩
def Zd9 (l:List Bd) (apart:List Pr) (vars:List BA) (wide:List Pr):Bool:=(Zj4 l apart vars wide).isSome
theorem Zc7 {α κ:Type} [DecidableEq κ] (L:List (κ×α)) (k k':κ) (v:α):Ya (Zbc L k v) k'=if k'=k then some v else Ya L k':=by
 induction L with
 | nil=>by_cases h:k'=k<;>simp[Zbc,Ya,h]
 | cons p L ih=>
  unfold Zbc
  by_cases h:k=p.1
  · rw[if_pos h]
    by_cases h2:k'=k
    · simp[Ya,h2,h]
    · have:¬ k'=p.1:=fun e=>h2 (e.trans h.symm)
      simp[Ya,h2,this]
  · rw[if_neg h]
    by_cases h2:k'=p.1
    · have:¬ p.1=k:=fun e=>h e.symm
      simp[Ya,h2,this]
    · have e1:Ya (p::Zbc L k v) k'=Ya (Zbc L k v) k':=by simp[Ya,h2]
      have e2:Ya (p::L) k'=Ya L k':=by simp[Ya,h2]
      rw[e1,e2,ih]
theorem ZoI (M:BM) (b:Bd) (s:BA):Ya (Zuo M b) s=match Ya M s with
 | some t=>some t
 | none=>if s=b.var then some b.text else none:=by
 unfold Zuo
 split
 · rename_i h
   cases h2:Ya M s with
   | some t=>rfl
   | none=>
    have:¬ s=b.var:=fun e=>by rw[←e,h2]at h;cases h
    simp[this]
 · rename_i h
   rw[Zc7]
   by_cases e:s=b.var
   · subst e
     have:Ya M b.var=none:=by simpa using h
     simp[this]
   · simp only[e,if_false]
     cases Ya M s<;>rfl
theorem Zc8 (l:List Bd) (s:BA):Ya (Z1 l) s=(l.find? fun b=>decide (b.var=s)).map Bd.text:=by
 have key:∀(l:List Bd) (M:BM),Ya (l.foldl Zuo M) s=match Ya M s with
  | some t=>some t
  | none=>(l.find? fun b=>decide (b.var=s)).map Bd.text:=by
  intro l
  induction l with
  | nil=>intro M;cases h:Ya M s<;>simp[h]
  | cons b l ih=>
   intro M
   rw[List.foldl_cons,ih,ZoI]
   cases h:Ya M s with
   | some t=>rfl
   | none=>
    by_cases e:s=b.var
    · subst e;simp
    · have e':¬ b.var=s:=fun h=>e h.symm
      simp[e,e']
 exact key l []
theorem ZcD {l:List Bd} {m:Nat} (hm:1≤m) (hl:∀ b∈l,b.text.length≤m) (s:BA):(Yu (Z1 l) s).length≤m:=by
 unfold Yu
 rw[Zc8]
 cases h:l.find? fun b=>decide (b.var=s)with
 | none=>simpa using hm
 | some b=>exact hl b (List.mem_of_find?_eq_some h)
theorem fit_no {M:BM} {pattern text:List BA} {k j p:Nat} (hk:k<pattern.length) (hj:j< (Yu M (ge pattern k)).length) (h:text.take p=XQ M (pattern.take k)++(Yu M (ge pattern k)).take j) (hp:p≤text.length)
 (hb:p=text.length∨ ¬ ge text p=ge (Yu M (ge pattern k)) j):¬ XQ M pattern=text:=by
 intro e
 have e1:XQ M pattern=XQ M (pattern.take k)++Yu M (ge pattern k)++XQ M (pattern.drop (k+1)):=by
  rw[←Y3 hk,←Zeu,List.take_append_drop]
 have hl:p=(XQ M (pattern.take k)).length+j:=by
  have:=congrArg List.length h
  rw[List.length_take,List.length_append,List.length_take]at this
  omega
 have hlen:(XQ M pattern).length=text.length:=by rw[e]
 rw[e1,List.length_append,List.length_append]at hlen
 rcases hb with hb | hb
 · omega
 · apply hb
   have hget:text[p]?=some (ge (Yu M (ge pattern k)) j):=by
    rw[←e,e1,List.append_assoc,List.getElem?_append_right oz,List.getElem?_append_left oz]
    rw[hl,Nat.add_sub_cancel_left]
    exact Zgd hj
   rw[ge,List.getD_eq_getElem?_getD,hget]
   rfl
theorem Zpp {M:BM} {pattern text:List BA} {p:Nat} (h:text.take p=XQ M pattern) (hp:p≤text.length):decide (((p:Nat):Int)=((text.length:Nat):Int))=decide (XQ M pattern=text):=by
 congr 1
 apply propext
 constructor
 · intro e
   rw[←h,List.take_of_length_le oz]
 · intro e
   have:=congrArg List.length h
   rw[e,List.length_take]at this
   omega
end Go.Proofs.YtneapgbkkkjagaaGreatDoor
