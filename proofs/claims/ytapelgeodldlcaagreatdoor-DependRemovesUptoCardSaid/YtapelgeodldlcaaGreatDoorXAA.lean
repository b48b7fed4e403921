/-
  CONTRACTS of the law: a database without given assertions.
  CONTRACTS: verify.fail (a panic with a code) and verify.guarded (which catches it).
  CONTRACTS of the program: substitution.
  CONTRACTS of the program: the machine's small functions.
  CONTRACT: slices.Clip at rows of texts' slices.
  CONTRACTS of the program: an order of pairs.
  CONTRACT of the program: the order of pairs, and what it lays.
  PAIRS IN ORDER (plain): sorted rows, a search by halves, what a substitution requires.
  CONTRACTS of the program: pairs, each once; a search by halves.
  THE ENGINE: entering an iterator.
  THE ENGINE: an iterator that owns something while it yields.
  CONTRACTS of the program: what a substitution requires.
-/
import Derived.Test.YtapelgeodldlcaaGreatDoorXZ
import Derived.Laws.Pointers
set_option maxHeartbeats 8000000
set_option maxRecDepth 100000
namespace Go.Proofs.YtapelgeodldlcaaGreatDoor
open Go.RowKit
theorem Zob:Zem Tryz.prog 25 [.slice none 0 0,.slice none 0 0,.slice none 0 0]:=⟨fun i=>(#[(0,1),(1,1),(2,1)]:Array (Nat×Nat))[i]?,fun j hj=>by rcases j with _ | _ | _ | j<;>first | rfl | (simp at hj;omega),fun parts=>by kernel_rfl⟩
theorem ZrR:Zl Tryz.prog 9:=Zs Tryz.func9 rfl rfl
theorem Zog:ZfZ Tryz.prog 23 32 8 168:=ZqU (.agg #[.string ⟨#[]⟩,.bool false,.slice none 0 0,.slice none 0 0,.slice none 0 0,.slice none 0 0,.slice none 0 0,.slice none 0 0]) (by kernel_rfl) (by kernel_rfl) rfl (by decide) (fun w=>by kernel_rfl)
theorem ZlX:XB Tryz.prog 23 1:=fun w=>by kernel_rfl
theorem Zmu {J:World→Prop} (hJ:Stab J) (d:Db) (gone:List Int) (b:d.frames.length≤400):Fn Tryz.prog J 7 [.agg (dbC d),.rd (Xj gone)] (.agg (dbC (ZdF d gone))):=by
 refine Zu (N:=33) Tryz.func7 rfl rfl (lb rfl) fun S w0 hS hJ0=>?_
 refine tw Yj ?_
 refine ln 1 fun hl1=>?_
 obtain⟨u,hu⟩:∃ v,v=Value.slice none 0 0:=⟨_,rfl⟩
 refine tsq ?_
 refine sq (.ptr (dbC d)) rfl rfl (lb rfl) (fun _ _ h=>YP rfl (h.get 0 rfl) (Zr hS _ h.keep h.x _ (Nat.le_refl _)) (jo hJ h.x)) ?_
 refine ZP ZbG hJ rfl rfl rfl (lb rfl) fun b1=>?_
 refine seK [0,1,3] [_,_,_] rfl ?_
 refine nx (Zj (Zw (snK 4 tb rfl ?_)))
 refine sq (.agg [Zb d.consts,Zb d.vars,.lit (.slice none 0 0)]) rfl rfl (lb rfl) (fun a _ h=>Xk (ps:=[(0,a.eval (Go.Operand.tmp 9)),(1,a.eval (Go.Operand.tmp 11))]) (us:=[a.eval (Go.Operand.tmp 9),a.eval (Go.Operand.tmp 11),.slice none 0 0]) Zob rfl (by simp) (ZjY (lb rfl) (Rel.oneC (h.get 2 rfl)) (ZjY (lb rfl) (Rel.oneC (h.get 0 rfl)) ZjZ)) rfl (Zz (h.get 2 rfl) (Zz (h.get 0 rfl) (XU (.lit _ True.intro) Yb))) h.x) ?_
 refine ZP ZbG hJ rfl rfl rfl (lb rfl) fun b2=>?_
 refine ZE (b:=b2) (off:=0) (cs:=[Zb ([]:List ByteArray),Zb ([]:List ByteArray),YD ([]:List Fr)]) (es:=[Zb d.consts,Zb d.vars,.lit (.slice none 0 0)]) (news:=[Zb d.consts,Zb d.vars,.lit (.slice none 0 0)]) hJ hJ0 ZdB rfl rfl rfl (lb rfl) rfl (fun a w h=>⟨(h.get 0 rfl),(h.get 1 rfl)⟩) ?_
 refine seK [0,2,4,6,7,8] [_,_,_,_,_,_] rfl ?_
 refine kw (ob0 (show OB.var b2 [Zb d.consts,Zb d.vars,.lit (.slice none 0 0)]=OB.var b2 [Zb d.consts,Zb d.vars,.lit u]from by rw[hu])) ?_
 refine kw (Z7 32 8 hJ) ?_
 refine kw (ob0 (show OB.row (.slice none 0 0) 32 8 []=OB.row u 32 8 (([]:List Fr).map frC)from by rw[hu];rfl)) ?_
 refine nx (ln 1 fun hl2=>?_)
 refine ln 2 fun hl3=>?_
 refine Zj (ZI tb hJ [0,3,5,1001,1002,1003] [_,_,.int (d.frames.length:Nat),_] [2] [_,_,_,_,_,_] rfl ⟨YG YK,trivial⟩ ?_)
 refine ln 3 fun hl4=>?_
 refine Zf (lpo (ι:=Nat×(List Fr)×Value) (fun(k,us,_)=>(k≤d.frames.length)∧(us=ZeO d gone k)) (fun(_,us,vs)=>[OB.row vs 32 8 (us.map frC),OB.var b2 [Zb d.consts,Zb d.vars,.lit vs],OB.var b1 [Zb ([]:List ByteArray),Zb ([]:List ByteArray),YD ([]:List Fr)]]) (fun(k,_,_)=>[(16,.int (k:Nat))]) (fun(k,_,_)=>d.frames.length-k) [0,1,2,3,4,5] [_,_,_,_,_] (0,[],u) ⟨Nat.zero_le _,rfl⟩ ?_)
 rintro⟨k,us,vs⟩ ⟨f1_1,f1_2⟩
 refine qso tb hJ [0,1,2,3,4,5,1000] [_] [_,_,_,_,_,_,_] ?_
 refine cjS 6 (fun hb1=>?_) fun hb1=>?_
 try simp at hb1
 have h7:us.length≤400:=by rw[f1_2,Zb4];have:=Zjp gone k;omega
 refine Zc (nx (Zj (Zf (tsq ?_))))
 refine snK 1 tb rfl ?_
 refine sq (.ptr (frC (ge d.frames k))) rfl rfl (lb rfl) (fun _ _ h=>Yg (i:=(k:Int)) Ye rfl (h.get 4 rfl) (h.get 6 rfl) (Int.natCast_nonneg _) (Yy (xs:=d.frames) (k:=k) sfz) rfl h.x) ?_
 refine snK 1 tb rfl ?_
 refine ZP XH hJ rfl rfl rfl (lb rfl) fun b3=>?_
 refine snK 1 tb rfl ?_
 refine ZE (b:=b3) (off:=0) (cs:=[.lit (.string (⟨#[]⟩:ByteArray)),.lit (.bool false),YW ([]:List Hy),Xm ([]:List Pr),Zb ([]:List ByteArray),YW ([]:List Hy),Xm ([]:List Pr),Zb ([]:List ByteArray)]) (es:=[.lit (.string ((ge d.frames k).label)),.lit (.bool ((ge d.frames k).thm)),YW ((ge d.frames k).hyps),Xm ((ge d.frames k).apart),Zb ((ge d.frames k).text),YW ((ge d.frames k).dummies),Xm ((ge d.frames k).wide),Zb ((ge d.frames k).proof)]) (news:=[.lit (.string ((ge d.frames k).label)),.lit (.bool ((ge d.frames k).thm)),YW ((ge d.frames k).hyps),Xm ((ge d.frames k).apart),Zb ((ge d.frames k).text),YW ((ge d.frames k).dummies),Xm ((ge d.frames k).wide),Zb ((ge d.frames k).proof)]) hJ hJ0 ZbY rfl rfl rfl (lb rfl) rfl (fun a w h=>⟨(h.get 1 rfl),(h.get 2 rfl)⟩) ?_
 refine kw (fun h=>Ym hS h (m:=1) (s:=7) rfl) ?_
 refine seK [0,1,5,6,7,8,9,10] [_,_,_,_,_,_,_,_] rfl ?_
 refine nx (ZI tb hJ [0,2,3,4,5,6,7,1003] [_,_,.bool (decide ((k:Int)∈gone)),_] [2] [_,_,_,_,_,_,_,_] rfl ⟨iFo hS hJ (ZdL hJ (xs:=gone) (n:=(k:Int)) ) ZrR,trivial⟩ ?_)
 refine cj 7 (fun hb2=>?_) fun hb2=>?_
 try simp at hb2
 refine Zw (sq (.at b2 2) rfl rfl (lb rfl) (fun _ _ h=>Zm XS rfl (h.get 1 rfl) h.x) ?_)
 refine sq (.lit vs) rfl rfl (lb rfl) (fun _ _ h=>Zo (cs:=[Zb d.consts,Zb d.vars,.lit vs]) ZdO rfl (Zd h.x (mo 1 rfl)) (h.get 0 rfl) rfl h.x) ?_
 refine snK 1 tb rfl ?_
 refine sq (.rd (YD ([(ge d.frames k)]))) rfl rfl (lb rfl) (fun a _ h=>r_rowK (z:= #[.string ⟨#[]⟩,.bool false,.slice none 0 0,.slice none 0 0,.slice none 0 0,.slice none 0 0,.slice none 0 0,.slice none 0 0]) (cs:=[frC (ge d.frames k)]) (vs:=[a.eval (Go.Operand.tmp 27)]) Ye (fun w=>by kernel_rfl) rfl (by simp) (Za (h.get 0 rfl) Ze) (of_decide_eq_true rfl) rfl (by decide) (by decide) (by decide) (Zr hS _ h.keep h.x _ (Nat.le_refl _)) (jo hJ h.x)) ?_
 refine YX (f:=frC) (m:=2) (s:=26) us ([(ge d.frames k)]) (fun _=>rfl) Zog hJ hJ0 rfl rfl rfl (lb rfl) rfl rfl (fun a w h=>(h.get 0 rfl)) sfz sfz fun v4=>?_
 refine sq (.at b2 2) rfl rfl (lb rfl) (fun _ _ h=>Zm XS rfl (h.get 6 rfl) h.x) ?_
 refine kw pm1 ?_
 refine ZJ (b:=b2) (off:=2) (cs:=[Zb d.consts,Zb d.vars,.lit vs]) (es:=[Zb d.consts,Zb d.vars,.lit v4]) hJ hJ0 ZlX rfl rfl rfl (lb rfl) rfl (fun a w h=>⟨(h.get 0 rfl),(h.get 1 rfl)⟩) ?_
 refine seK [2,7,8,9,10,11,12] [_,_,_,_,_,_,_] rfl ?_
 refine nx (ln 0 fun hl5=>?_)
 refine YQ tb hJ [1,2,3,4,5,1001] [.int (k+1:Nat),_] [0] [_,_,_,_,_,_] rfl ⟨Yv,trivial⟩ ?_
 refine kw pm2 ?_
 refine kw pm1 ?_
 refine kw pm2 ?_
 exact Xi (k+1,us++([(ge d.frames k)]),v4) [0,1,2,3,4,5] ⟨by omega,by rw[f1_2];first | exact(Zb2 hb2).symm | exact(Zfi hb2).symm⟩
 try simp at hb2
 refine Zc (nx (YQ tb hJ [1,2,3,4,5,1001] [.int (k+1:Nat),_] [0] [_,_,_,_,_,_] rfl ⟨Yv,trivial⟩ ?_))
 exact Xi (k+1,us,vs) [0,1,2,3,4,5] ⟨by omega,by rw[f1_2];first | exact(Zb2 hb2).symm | exact(Zfi hb2).symm⟩
 try simp at hb1
 have e1:us=ZeO d gone d.frames.length:=by rw[f1_2,show k=d.frames.length by omega]
 refine Zx (nx (tw pm1 ?_))
 refine tw pm1 ?_
 refine tw (fun h=>ZbX (j:=2) (cs':=[Zb d.consts,Zb d.vars,YD us]) hS rfl rfl h) ?_
 refine tsq ?_
 refine sq (.agg (dbC (⟨d.consts,d.vars,us⟩:Db))) rfl rfl (lb rfl) (fun _ _ h=>YI (cs:=[Zb d.consts,Zb d.vars,YD us]) (ds:=[Zb d.consts,Zb d.vars,YD us]) Zbs rfl (Zd h.x (mo 0 rfl)) (h.get 0 rfl) rfl rfl h.x) ?_
 refine kw pm1 ?_
 refine ZE (b:=b1) (off:=0) (cs:=[Zb ([]:List ByteArray),Zb ([]:List ByteArray),YD ([]:List Fr)]) (es:=[Zb ((⟨d.consts,d.vars,us⟩:Db).consts),Zb ((⟨d.consts,d.vars,us⟩:Db).vars),YD ((⟨d.consts,d.vars,us⟩:Db).frames)]) (news:=[Zb ((⟨d.consts,d.vars,us⟩:Db).consts),Zb ((⟨d.consts,d.vars,us⟩:Db).vars),YD ((⟨d.consts,d.vars,us⟩:Db).frames)]) hJ hJ0 ZdB rfl rfl rfl (lb rfl) rfl (fun a w h=>⟨(h.get 2 rfl),(h.get 0 rfl)⟩) ?_
 refine seK [2] [_] rfl ?_
 exact nx (Zg (fun a w h=>QW (cs:=[Zb ((⟨d.consts,d.vars,us⟩:Db).consts),Zb ((⟨d.consts,d.vars,us⟩:Db).vars),YD ((⟨d.consts,d.vars,us⟩:Db).frames)]) (m:=0) rfl Zbs h rfl rfl (show([Zb ((⟨d.consts,d.vars,us⟩:Db).consts),Zb ((⟨d.consts,d.vars,us⟩:Db).vars),YD ((⟨d.consts,d.vars,us⟩:Db).frames)]:List CD)=[Zb ((ZdF d gone).consts),Zb ((ZdF d gone).vars),YD ((ZdF d gone).frames)]from by rw[e1];rfl)))
theorem Zis {w:World} (o:Obj) {r:Nat} (h:r<w.heap.size):(w.alloc o).heap[r]?=w.heap[r]?:=by
 show(w.heap.push o)[r]?=_
 rw[Array.getElem?_push,if_neg (Nat.ne_of_lt h)]
def flV (c:Int):Value:=.iface 163 (.agg #[.int .i64 c])
theorem fail_c (c:Int) (w:World):Calls Tryz.prog 105 #[.int .i64 c] w fun e w'=>e= .panicked (pch (flV c))∧w'=w:=by
 have hb:∀ w,(Instr.build 163 #[(0,.int .i64 c)]).run Tryz.prog w= .ok (.agg #[.int .i64 c]) w:=fun w=>by kernel_rfl
 have hm:∀ v w,(Instr.makeInterface 163 v).run Tryz.prog w= .ok (.iface 163 v) w:=fun v w=>by kernel_rfl
 go_enter Tryz.func105,Tryz.ntmps105
 go_wp2
 simp[bodyPost,flV,pch]
theorem Qj {J:World→Prop} (_:Stab J) (c:Int):FnP (ι:=Empty) (κ:=Unit) Tryz.prog J 105 [] [.int c] [] (fun _=>.any) (fun _=>[]) (fun _=>flV c) (fun _=>[]):=by
 intro S w0 R w vs hS hJ0 hH hk hx ha
 simp only[RelL]at ha
 obtain⟨v,us,rfl,hv,rfl⟩:=ha
 obtain rfl:=hv.lit
 refine(fail_c c w).mono ?_
 rintro e w' ⟨rfl,rfl⟩
 exact .inr ⟨(),rfl,hk,hx⟩
theorem ZnR (e:Nat) (x c:Int) (w:World) (hc:w.cell? ⟨e,0,none⟩=some (.int .i64 x)) (hz:w.frozen? ⟨e,0,none⟩=false):
 CallsDIn Fence.wide 4 Tryz.prog 103 #[.pointer (some ⟨e,0,none⟩)] (.panicking (pch (flV c))) w fun en u' w'=>
  en= .returned (.tuple #[])∧u'= .panicking [{ v:=flV c,recovered:=true }]∧Keeps (fun k=>k≠e) w w'∧w'.cell? ⟨e,0,none⟩=some (.int .i64 c):=by
 have hta:∀ w,(Instr.typeAssert (.iface 163 (.agg #[.int .i64 c])) 20 163 true).run Tryz.prog w= .ok (.tuple #[.agg #[.int .i64 c],.bool true]) w:=fun w=>by kernel_rfl
 have hlt:e<w.heap.size:=World.block_lt_of_cell? w ⟨e,0,none⟩ hc
 have hca:∀ o,(w.alloc o).cell? ⟨e,0,none⟩=some (.int .i64 x):=fun o=>(World.cell?_of_block (a:=⟨e,0,none⟩) (Zis o hlt)).trans hc
 have hza:∀ o,(w.alloc o).frozen? ⟨e,0,none⟩=false:=fun o=>(World.frozen?_of_block (a:=⟨e,0,none⟩) (Zis o hlt)).trans hz
 refine callsDIn_of_wpSIn Tryz.func103 rfl trivial fun c₀ cs hu=>?_
 simp only[Tryz.ntmps103,List.size_toArray,List.length_cons,List.length_nil,Nat.reduceAdd,Nat.reduceSub,Array.replicate_succ,Array.replicate_zero,List.push_toArray,List.append_toArray,List.nil_append,List.cons_append]
 apply wpSIn_seq
 apply wpSIn_region
 simp[wpOpsSIn,go_sem,recoverD,hu,Exit.thenS,pch,flV]
 refine wpSIn_of_wpIn rfl ?_
 gi_wp2
 simp[bodyPostS,results,Tryz.results103]
 refine⟨((Keeps.refl _ _).setCell (fun _ hn=>hn rfl) _).alloc _,?_⟩
 refine(World.cell?_of_block (a:=⟨e,0,none⟩) (Zis _ (by simpa using hlt))).trans ?_
 exact World.cell?_setCell_same w _ _ hc
theorem Zk4 (e:Nat) (w:World):
 CallsDIn Fence.wide 4 Tryz.prog 103 #[.pointer (some ⟨e,0,none⟩)] .returning w fun en u' w'=>en= .returned (.tuple #[])∧u'= .returning∧w'=w:=by
 refine callsDIn_of_wpSIn Tryz.func103 rfl trivial fun c₀ cs hu=>?_
 simp only[Tryz.ntmps103,List.size_toArray,List.length_cons,List.length_nil,Nat.reduceAdd,Nat.reduceSub,Array.replicate_succ,Array.replicate_zero,List.push_toArray,List.append_toArray,List.nil_append,List.cons_append]
 apply wpSIn_seq
 apply wpSIn_region
 simp[wpOpsSIn,go_sem,recoverD,hu,Exit.thenS]
 refine wpSIn_of_wpIn rfl ?_
 gi_wp2
 simp[bodyPostS,results,Tryz.results103]
 cases c₀
 simp_all
section
variable {ι κ:Type} {J:World→Prop}
def ZnS (pc:κ→Int):ι ⊕ κ→Int
 | .inl _=>0
 | .inr k=>pc k
def catchO (O':ι→List OB) (O'':κ→List OB):ι ⊕ κ→List OB
 | .inl i=>O' i
 | .inr k=>O'' k
theorem Ziy {S:Nat→Prop} {w0 w:World} {A R:List OB} {o:OB} (h:XO J S w0.heap.size (A++o::R) w):XO J S w0.heap.size (o::(A++R)) w:=Yt List.perm_middle h
theorem ZiB {S:Nat→Prop} {lo b:Nat} {v:Value} {w:World} (h:(OB.var b [.lit v]).inv lo S w):w.cell? ⟨b,0,none⟩=some v∧w.frozen? ⟨b,0,none⟩=false∧lo≤b∧b<w.heap.size:=by
 obtain⟨h0,us,e,h1,h2⟩:=h
 match us,h2 with
 | [u],h2=>
  obtain rfl:=h2.1.of_lit
  refine⟨?_,?_,h0,(Array.getElem?_eq_some_iff.1 h1).1⟩
  · unfold World.cell?;simp[h1]
  · unfold World.frozen?;simp[h1]
theorem Ziz {S:Nat→Prop} {w0 w w':World} {A:List OB} {o:OB} (h:XO J S w0.heap.size (o::A) w) (hJ':J w') (hk:Keeps (fun k=>¬ o.blk k) w w'):XO J S w0.heap.size A w':=
 ⟨hJ',fun p hp=>p.mv (h.2.1 p (List.mem_cons_of_mem _ hp)) hk (fun k hkp e=>(List.pairwise_cons.1 h.2.2).1 p hp k e hkp) fun _ _ hs=>⟨hs.2 o (by simp),hs.drop⟩,(List.pairwise_cons.1 h.2.2).2⟩
theorem Zge {T:Nat→Prop} {w:World}:∀ {caps:List Value},(∀ v∈caps,okLit v)→RelL T w (caps.map AV.lit) caps
 | [],_=>by simp only[List.map_nil,RelL]
 | v::r,h=>by
  simp only[List.map_cons,RelL]
  exact⟨v,r,rfl,Rel.of_lit v (h v (by simp)),Zge fun u hu=>h u (by simp[hu])⟩
theorem Zgr (hJ:Stab J) {F:FuncId} {caps:List Value} {O:List OB} {O':ι→List OB} {pc:κ→Int} {O'':κ→List OB} {Hs:List OB} (hF:FnP Tryz.prog J F Hs (caps.map AV.lit) O (fun _=>.tup []) O' (fun k=>flV (pc k)) O'') (hok:Zl Tryz.prog F) (hcap:∀ v∈caps,okLit v):
 FnM (ι:=ι ⊕ κ) Tryz.prog J 86 Hs [.lit (.func (.func F) #[] caps.toArray)] O (fun r=>.int (ZnS pc r)) (catchO O' O''):=by
 intro S w0 R w vs hS hJ0 hH hk hx ha
 simp only[RelL]at ha
 obtain⟨v,us,rfl,hv,rfl⟩:=ha
 obtain rfl:=hv.lit
 refine(callsIn_wide (n:=5)).1 ?_
 have hmf:∀(fn:Go.Fn) (first cap:Array Value) (w:World),(Instr.makeFunc fn first cap).run Tryz.prog w= .ok (.func fn first cap) w:=fun _ _ _ _=>rfl
 refine callsIn_of_wp_defers Tryz.func86 rfl trivial ?_ rfl
 simp only[Tryz.ntmps86,List.size_toArray,List.length_cons,List.length_nil,Nat.reduceAdd,Nat.reduceSub,Array.replicate_succ,Array.replicate_zero,List.push_toArray,List.append_toArray,List.nil_append,List.cons_append]
 have hka:Keeps All w (w.alloc (.cells #[.int .i64 0] 34)):=(Keeps.refl _ _).alloc _
 have hnew:(w.alloc (.cells #[.int .i64 0] 34)).heap[w.heap.size]?=some (.cells #[.int .i64 0] 34):=World.alloc_heap_new w _
 obtain⟨hx1,_⟩:=Zdr (o:=OB.var w.heap.size [.lit (.int .i64 0)]) hJ hx hka (fun k hk=>Nat.le_of_eq hk.symm) ⟨hk.size,[.int .i64 0],_,hnew,.lit _ True.intro,trivial⟩
 have hx2:XO J S w0.heap.size (O++OB.var w.heap.size [.lit (.int .i64 0)]::R) (w.alloc (.cells #[.int .i64 0] 34)):=Yt List.perm_middle.symm hx1
 have hcall:=hF S w0 (OB.var w.heap.size [.lit (.int .i64 0)]::R) _ caps hS hJ0 hH (hk.trans hka) hx2 (Zge hcap)
 have hen:=hok caps.toArray (w.alloc (.cells #[.int .i64 0] 34))
 gi_wp2
 refine⟨trivial,?_⟩
 refine CallsIn.mono (callsIn_wide.2 hcall) ?_
 rintro e w2 (⟨i,v,rfl, -,hk2,hx2'⟩ | ⟨k,rfl,hk2,hx2'⟩)
 · obtain⟨c1,c2,c3,c4⟩:=ZiB ((Ziy hx2').2.1 (OB.var w.heap.size [.lit (.int .i64 0)]) (by simp))
   gi_wp2
   refine leavesIn_cons (f:=103) (args:= #[.pointer (some ⟨w.heap.size,0,none⟩)]) (by simp) (by simp[Fence.wide]) (by simp[go_sem]) (fun _ _=>trivial) ?_
   refine(Zk4 w.heap.size _).mono ?_
   rintro e u' w3 ⟨rfl,rfl,rfl⟩
   have hk3:Keeps (fun k=>k≠w.heap.size) w2 (w2.setCell ⟨w.heap.size,0,none⟩ (.int .i64 0)):=(Keeps.refl _ _).setCell (fun _ hn=>hn rfl) _
   have hc3:(w2.setCell ⟨w.heap.size,0,none⟩ (.int .i64 0)).cell? ⟨w.heap.size,0,none⟩=some (.int .i64 0):=World.cell?_setCell_same w2 _ _ c1
   have hk03:Keeps All w0 (w2.setCell ⟨w.heap.size,0,none⟩ (.int .i64 0)):=hk2.upto' hk3 fun k hk0 e=>by subst e;omega
   have hx3:=Ziz (Ziy hx2') (hJ w0 _ hk03 hJ0) hk3
   simp[LeavesIn,settle,results,Tryz.results86,go_sem,hc3]
   exact⟨.inl i,by simp only[ZnS];exact Rel.of_lit _,hk03,hx3⟩
 · obtain⟨c1,c2,c3,c4⟩:=ZiB ((Ziy hx2').2.1 (OB.var w.heap.size [.lit (.int .i64 0)]) (by simp))
   refine leavesIn_cons (f:=103) (args:= #[.pointer (some ⟨w.heap.size,0,none⟩)]) (by simp) (by simp[Fence.wide]) (by simp[go_sem]) (fun _ _=>trivial) ?_
   refine(ZnR w.heap.size 0 (pc k) w2 c1 c2).mono ?_
   rintro e u' w3 ⟨rfl,rfl,hk3,hc3⟩
   have hk03:Keeps All w0 w3:=hk2.upto' hk3 fun k hk0 e=>by subst e;omega
   have hx3:=Ziz (Ziy hx2') (hJ w0 w3 hk03 hJ0) hk3
   simp[LeavesIn,settle,results,Tryz.results86,go_sem,hc3]
   exact⟨.inr k,by simp only[ZnS];exact Rel.of_lit _,hk03,hx3⟩
end
theorem ZmJ {J:World→Prop} (hJ:Stab J) (l:List Bd)  :FnM (ι:=Nat) Tryz.prog J 152 [] [.rd (Ziq l)] [] (fun i'=>.lit (.map (some (i')))) (fun i'=>[OB.map keyS (fun z':List ByteArray=>AV.rd (Zb z')) (i') (Yp l)]):=by
 refine ZX (N:=31) Tryz.func152 rfl rfl (lb rfl) fun S w0 R hS hJ0 hH=>?_
 refine Z6 (B:=St All (SO S (R)) w0 31 [(0,.rd (Ziq l))] (XO J S w0.heap.size (R))) ?_ fun a w h=>h
 refine ln 0 fun hl1=>?_
 refine ZI tb hJ [0] [.rd (.lit (Go.Value.map none))] [0] [_] rfl ⟨fun _ _ _ hx _ _=>XI rfl (Rel.of_lit (Go.Value.map none)) hx,trivial⟩ ?_
 refine tsq ?_
 refine ZeJ keyS (fun z':List ByteArray=>AV.rd (Zb z')) hJ rfl rfl rfl (lb rfl) fun m1=>?_
 refine snK 1 tb rfl ?_
 refine seK [0,2] [_,_] rfl ?_
 refine nx (Zj (ZI tb hJ [0,1000,1001,1002] [_,.int (l.length:Nat),_] [1] [_,_,_,_] rfl ⟨YG Zf1,trivial⟩ ?_))
 refine Zf (lpo (ι:=Nat×(List (ByteArray×List ByteArray))) (fun(k,bm)=>(k≤l.length)∧(bm=Yp (l.take k))) (fun(_,bm)=>(OB.map keyS (fun z':List ByteArray=>AV.rd (Zb z')) m1 bm::R)) (fun(k,_)=>[(11,.int (k:Nat))]) (fun(k,_)=>l.length-k) [0,1,2,3] [_,_,_] (0,([]:List (ByteArray×List ByteArray))) ⟨Nat.zero_le _,rfl⟩ ?_)
 rintro⟨k,bm⟩ ⟨f1_1,f1_2⟩
 refine qso tb hJ [0,1,2,3,1000] [_] [_,_,_,_,_] ?_
 refine cjS 4 (fun hb1=>?_) fun hb1=>?_
 try simp at hb1
 refine Zc (nx (Zj (Zf (tsq ?_))))
 refine sq (.ptr (bdC (ge l k))) rfl rfl (lb rfl) (fun _ _ h=>Yg (i:=(k:Int)) ZbF rfl (h.get 1 rfl) (h.get 3 rfl) (Int.natCast_nonneg _) (Yy (xs:=l) (k:=k) sfz) rfl h.x) ?_
 refine snK 1 tb rfl ?_
 refine Qi (cs:=bdC (ge l k)) Zlq rfl rfl rfl (lb rfl) rfl rfl rfl (by decide) (m:=0) rfl rfl (fun a w h=>Zr hS _ h.keep h.x _ (Nat.le_refl _)) (fun a w h w' hk'=>Yw hJ _ _ hk' h.x) ?_
 refine seK [0,3,4,5,6] [_,_,_,_,_] rfl ?_
 refine nx (ZI tb hJ [0,1,2,3,4,1005,1007,1008] [_,_,_,.tup [.rd (Zb ((ZB bm ((ge l k).var)).getD default)),.bool ((ZB bm ((ge l k).var)).isSome)],_,_,_,_,_] [3] [_,_,_,_,_,_,_,_] rfl ⟨fun _ _ _ hx hl _=>XE (Kd:=keyS) (f:=(fun z':List ByteArray=>AV.rd (Zb z'))) (L:=bm) Zax ZbQ ((ge l k).var) rfl (Zd hx (mo 0 rfl)) (hl.D 0 16 rfl rfl) (hl.D 2 18 rfl rfl) hx,trivial⟩ ?_)
 refine ln 5 fun hl2=>?_
 refine qso tb hJ [0,1,2,3,4,1001] [_,_] [_,_,_,_,_,_] ?_
 refine cj 5 (fun hb2=>?_) fun hb2=>?_
 try simp at hb2
 refine Zw (snK 5 tb rfl ?_)
 refine ZiO (f:=(fun z':List ByteArray=>AV.rd (Zb z'))) Zax hJ hJ0 ((ge l k).var) ((ge l k).text) rfl rfl (.inl rfl) (fun a w h=>⟨(h.get 4 rfl),(h.get 2 rfl),(h.get 0 rfl)⟩) ?_
 refine seK [0,6,7,8,9] [_,_,_,_,_] rfl ?_
 refine nx (ln 0 fun hl3=>?_)
 refine YQ tb hJ [1,2,3,1001] [.int (k+1:Nat),_] [0] [_,_,_,_] rfl ⟨Yv,trivial⟩ ?_
 exact Xi (k+1,QT bm ((ge l k).var) ((ge l k).text)) [0,1,2,3] ⟨by omega,by rw[Zhf (by omega),←f1_2];simp[ZrU,hb2]⟩
 try simp at hb2
 refine Zc (nx (YQ tb hJ [1,2,3,1001] [.int (k+1:Nat),_] [0] [_,_,_,_] rfl ⟨Yv,trivial⟩ ?_))
 exact Xi (k+1,bm) [0,1,2,3] ⟨by omega,by rw[Zhf (by omega),←f1_2];simp[ZrU,hb2]⟩
 try simp at hb1
 refine Zx (nx (qso tb hJ [1001] [_,_] [_] ?_))
 refine tw (ob0 (congrArg (fun z'=>OB.map keyS (fun z':List ByteArray=>AV.rd (Zb z')) m1 (z')) (show bm=(Yp l)from by rw[f1_2,ZC (by omega)]))) ?_
 exact Zg (fun a w h=>ZQ  (m:=0) m1 rfl h rfl rfl)
theorem ZdK {J:World→Prop} (hJ:Stab J) (M:Nat) (bm:List (ByteArray×List ByteArray)) (s:ByteArray)  :FnR Tryz.prog J 153 [OB.map keyS (fun z':List ByteArray=>AV.rd (Zb z')) M bm] [.lit (.map (some M)),.str s] (.rd (Zb (XA bm s))):=by
 refine Z9 (N:=17) Tryz.func153 rfl rfl (lb rfl) fun S w0 hS hJ0 hH=>?_
 clear hJ0
 refine qs tb hJ [0,1] [_] [_,_] ?_
 refine Zj (hqs tb hJ [1,1004,1006,1007] [_,_,.tup [.rd (Zb ((ZB bm s).getD default)),.bool ((ZB bm s).isSome)],_,_,_,_,_] [2] [_,_,_,_] rfl ⟨fun _ _ hk hx hl _=>XE (Kd:=keyS) (f:=(fun z':List ByteArray=>AV.rd (Zb z'))) (L:=bm) Zax ZbQ s rfl (Y0 hH hk (mo 0 rfl)) (hl.D 0 8 rfl rfl) (hl.D 1 9 rfl rfl) hx,trivial⟩ ?_)
 refine ln 1 fun hl1=>?_
 refine qs tb hJ [0,2,1000] [_] [_,_,_] ?_
 refine cj 2 (fun hb1=>?_) fun hb1=>?_
 try simp at hb1
 refine qs tb hJ [1001] [_,_] [_] ?_
 exact Zg (rtn (m:=0) rfl rfl (congrArg (fun z=>AV.rd (Zb z)) (show((ZB bm s).getD default)=(XA bm s)from by cases h9:ZB bm s<;>simp_all[XA])))
 try simp at hb1
 refine Zc (nx (hqs tb hJ [1001,1002] [_,.rd (Zb ([s])),_] [1] [_,_] rfl ⟨fun _ _ hk hx hl _=>Yx Zn Zby rfl (hl.D 0 15 rfl rfl) (hS _ hk.size) (js hJ hx),trivial⟩ ?_))
 refine ln 0 fun hl2=>?_
 exact Zg (rtn (m:=1) rfl rfl (congrArg (fun z=>AV.rd (Zb z)) (show([s])=(XA bm s)from by cases h9:ZB bm s<;>simp_all[XA])))
theorem ZsY {J:World→Prop} (hJ:Stab J) (M:Nat) (bm:List (ByteArray×List ByteArray)) (t:List ByteArray) (hb:(Zah bm t).length≤2000):FnR Tryz.prog J 154 [OB.map keyS (fun z':List ByteArray=>AV.rd (Zb z')) M bm] [.lit (.map (some M)),.rd (Zb t)] (.rd (Zb (Zah bm t))):=by
 refine Z9 (N:=21) Tryz.func154 rfl rfl (lb rfl) fun S w0 hS hJ0 hH=>?_
 refine tw Yj ?_
 refine ln 1 fun hl1=>?_
 refine qso tb hJ [0,1] [_] [_,_] ?_
 refine qso tb hJ [0,1,1000] [_] [_,_,_] ?_
 refine Zj (ZI tb hJ [0,2,1000,1001,1002] [_,.int (t.length:Nat),_] [1] [_,_,_,_,_] rfl ⟨YG Zv,trivial⟩ ?_)
 refine Zf (tw (Z7 9 1 hJ) ?_)
 refine lpo (ι:=Nat×Value×(List ByteArray)) (fun(k,_,out)=>(k≤t.length)∧(out=Zah bm (t.take k))) (fun(_,v,out)=>[OB.row v 9 1 (out.map Q5)]) (fun(k,v,_)=>[(10,.int (k:Nat)),(5,.lit v)]) (fun(k,_,_)=>t.length-k) [0,2,3,4,1] [_,_,_] (0,(.slice none 0 0),([]:List ByteArray)) ⟨Nat.zero_le _,rfl⟩ ?_
 rintro⟨k,v,out⟩ ⟨f1_1,f1_2⟩
 refine qso tb hJ [0,1,2,3,4,1000] [_] [_,_,_,_,_,_] ?_
 refine cjS 5 (fun hb1=>?_) fun hb1=>?_
 try simp at hb1
 refine Zc (nx (Zj (Zf (ZI tb hJ [0,1,2,3,4,1002] [.ptr [.lit (.string (ge t k))],_,_] [0] [_,_,_,_,_,_] rfl ⟨iIx Zn,trivial⟩ ?_))))
 refine Zw (snK 3 tb rfl ?_)
 refine sq (.rd (Zb (XA bm (ge t k)))) rfl rfl (lb rfl) (fun _ _ h=>Y9 (ZdK hJ (M:=M) (bm:=bm) (s:=(ge t k)) ) Zck rfl (Zr hS _ h.keep h.x) (h.x.1) (ZG (Yf hH h.keep h.x (mo 0 rfl)) Zq) (Za (h.get 1 rfl) (Za (h.get 0 rfl) Ze)) (jo hJ h.x)) ?_
 refine YX (f:=Q5) (m:=3) (s:=14) out (XA bm (ge t k)) (fun _=>rfl) X3 hJ hJ0 rfl rfl rfl (lb rfl) rfl rfl (fun a w h=>(h.get 0 rfl)) (by have h9:=QY bm t (k+1);rw[Qo (by omega),List.length_append,←f1_2]at h9;omega) (by have h9:=QY bm t (k+1);rw[Qo (by omega),List.length_append,←f1_2]at h9;omega) fun v1=>?_
 refine snK 1 tb rfl ?_
 refine seK [0,2,6,7,8,9] [_,_,_,_,_,_] rfl ?_
 refine nx (ln 1 fun hl2=>?_)
 refine YQ tb hJ [0,2,3,4,1001] [.int (k+1:Nat),_] [0] [_,_,_,_,_] rfl ⟨Yv,trivial⟩ ?_
 exact Xi (k+1,v1,out++(XA bm (ge t k))) [1,2,3,4,0] ⟨by omega,by rw[Qo (by omega),←f1_2]⟩
 try simp at hb1
 refine Zx (nx (qso tb hJ [1001] [_,_] [_] ?_))
 refine tw (fun h=>Yq hS h (m:=0) (s:=4) rfl) ?_
 exact Zg (Qw (m:=0) rfl rfl (congrArg (fun z=>AV.rd (Zb z)) (show out=(Zah bm t)from by rw[f1_2,ZC (by omega)])))
theorem Zpo {J:World→Prop} (hJ:Stab J) (l:List ByteArray)  :FnM (ι:=Nat) Tryz.prog J 171 [] [.rd (Zb l)] [] (fun i'=>.lit (.map (some (i')))) (fun i'=>[OB.set keyS (i') (Qd l)]):=by
 refine ZX (N:=17) Tryz.func171 rfl rfl (lb rfl) fun S w0 R hS hJ0 hH=>?_
 refine Z6 (B:=St All (SO S (R)) w0 17 [(0,.rd (Zb l))] (XO J S w0.heap.size (R))) ?_ fun a w h=>h
 refine ln 0 fun hl1=>?_
 refine ZI tb hJ [0] [.rd (.lit (Go.Value.map none))] [0] [_] rfl ⟨fun _ _ _ hx _ _=>XI rfl (Rel.of_lit (Go.Value.map none)) hx,trivial⟩ ?_
 refine tsq ?_
 refine QC keyS hJ rfl rfl rfl (lb rfl) fun m1=>?_
 refine snK 1 tb rfl ?_
 refine seK [0,2] [_,_] rfl ?_
 refine nx (Zj (ZI tb hJ [0,1000,1001,1002] [_,.int (l.length:Nat),_] [1] [_,_,_,_] rfl ⟨YG Zv,trivial⟩ ?_))
 refine Zf (lpo (ι:=Nat×(List ByteArray)) (fun(k,ys)=>(k≤l.length)∧(ys=Qd (l.take k))) (fun(_,ys)=>(OB.set keyS m1 ys::R)) (fun(k,_)=>[(9,.int (k:Nat))]) (fun(k,_)=>l.length-k) [0,1,2,3] [_,_,_] (0,([]:List ByteArray)) ⟨Nat.zero_le _,rfl⟩ ?_)
 rintro⟨k,ys⟩ ⟨f1_1,f1_2⟩
 refine qso tb hJ [0,1,2,3,1000] [_] [_,_,_,_,_] ?_
 refine cjS 4 (fun hb1=>?_) fun hb1=>?_
 try simp at hb1
 refine Zc (nx (Zj (Zf (ZI tb hJ [0,1,2,3,1002] [.ptr [.lit (.string (ge l k))],_,_] [0] [_,_,_,_,_] rfl ⟨iIx Zn,trivial⟩ ?_))))
 refine Zw (snK 2 tb rfl ?_)
 refine Q0 Qc hJ hJ0 (ge l k) rfl rfl (.inl rfl) (fun a w h=>⟨(h.get 1 rfl),(h.get 0 rfl),(Rel.of_lit (Go.Value.bool true))⟩) ?_
 refine seK [2,3,4,5] [_,_,_,_] rfl ?_
 refine nx (YQ tb hJ [0,1,2,1001] [.int (k+1:Nat),_] [0] [_,_,_,_] rfl ⟨Yv,trivial⟩ ?_)
 exact Xi (k+1,XT ys (ge l k)) [0,1,2,3] ⟨by omega,by rw[ZgM (by omega),←f1_2]⟩
 try simp at hb1
 refine Zx (nx (qso tb hJ [1001] [_,_] [_] ?_))
 refine tw (ob0 (congrArg (fun z'=>OB.set keyS m1 (z')) (show ys=(Qd l)from by rw[f1_2,ZC (by omega)]))) ?_
 exact Zg (fun a w h=>ZQ  (m:=0) m1 rfl h rfl rfl)
theorem ZcK {J:World→Prop} (hJ:Stab J) (M:Nat) (vs:List ByteArray) (t:List ByteArray) (hb:t.length≤2000):FnR Tryz.prog J 172 [OB.set keyS M vs] [.rd (Zb t),.lit (.map (some M))] (.rd (Zb (QS t vs))):=by
 refine Z9 (N:=33) Tryz.func172 rfl rfl (lb rfl) fun S w0 hS hJ0 hH=>?_
 refine tw Yj ?_
 refine ln 0 fun hl1=>?_
 refine qso tb hJ [0,1] [_] [_,_] ?_
 refine qso tb hJ [0,1,1000] [_] [_,_,_] ?_
 refine tsq ?_
 refine QC keyS hJ rfl rfl rfl (lb rfl) fun m1=>?_
 refine snK 1 tb rfl ?_
 refine seK [0,2,3,4] [_,_,_,_] rfl ?_
 refine nx (Zj (ZI tb hJ [0,2,3,1000,1001,1002] [_,.int (t.length:Nat),_] [1] [_,_,_,_,_,_] rfl ⟨YG Zv,trivial⟩ ?_))
 refine Zf (tw (Z7 9 1 hJ) ?_)
 refine lpo (ι:=Nat×Value×(List ByteArray)×(List ByteArray)) (fun(k,_,out,ys)=>(k≤t.length)∧(out=QS (t.take k) vs)∧(ys=out)∧(out.length≤k)) (fun(_,v,out,ys)=>[OB.row v 9 1 (out.map Q5),OB.set keyS m1 ys]) (fun(k,v,_,_)=>[(12,.int (k:Nat)),(5,.lit v)]) (fun(k,_,_,_)=>t.length-k) [0,1,3,4,5,2] [_,_,_,_] (0,(.slice none 0 0),([]:List ByteArray),([]:List ByteArray)) ⟨Nat.zero_le _,rfl,rfl,Nat.le_refl _⟩ ?_
 rintro⟨k,v,out,ys⟩ ⟨f1_1,f1_2,f1_3,f1_4⟩
 refine qso tb hJ [0,1,2,3,4,5,1000] [_] [_,_,_,_,_,_,_] ?_
 refine cjS 6 (fun hb1=>?_) fun hb1=>?_
 try simp at hb1
 refine Zc (nx (Zj (Zf (ZI tb hJ [0,1,2,3,4,5,1002] [.ptr [.lit (.string (ge t k))],_,_] [0] [_,_,_,_,_,_,_] rfl ⟨iIx Zn,trivial⟩ ?_))))
 refine ZI tb hJ [0,1,2,3,4,5,6,1008] [_,_,.bool (decide ((ge t k)∈vs)),_,_,_,.bool (decide ((ge t k)∈ys)),_,_] [2,6] [_,_,_,_,_,_,_,_] rfl ⟨fun _ _ hk hx hl _=>Z8 (Kd:=keyS) (xs:=vs) Qc ZM (ge t k) rfl (Yf hH hk hx (mo 0 rfl)) (hl.D 0 16 rfl rfl) (hl.D 1 17 rfl rfl) hx,fun _ _ _ hx hl hc=>Z8 (Kd:=keyS) (xs:=ys) Qc ZM (ge t k) rfl (Zd hx (mo 1 rfl)) (hl.D 4 20 rfl hc) (hl.D 5 21 rfl hc) hx,trivial⟩ ?_
 refine cj 7 (fun hb2=>?_) fun hb2=>?_
 try simp at hb2
 refine tsq ?_
 refine snK 2 tb rfl ?_
 refine kw pm1 ?_
 refine Q0 Qc hJ hJ0 (ge t k) rfl rfl (.inl rfl) (fun a w h=>⟨(h.get 1 rfl),(h.get 0 rfl),(Rel.of_lit (Go.Value.bool true))⟩) ?_
 refine seK [2,3,4,5,6,7,8] [_,_,_,_,_,_,_] rfl ?_
 refine nx (Zw (snK 2 tb rfl ?_))
 refine sq (.rd (Zb ([(ge t k)]))) rfl rfl (lb rfl) (fun _ _ h=>Yx Zn Zby rfl (h.get 0 rfl) (Zr hS _ h.keep h.x _ (Nat.le_refl _)) (jo hJ h.x)) ?_
 refine kw pm1 ?_
 refine YX (f:=Q5) (m:=2) (s:=27) out ([(ge t k)]) (fun _=>rfl) X3 hJ hJ0 rfl rfl rfl (lb rfl) rfl rfl (fun a w h=>(h.get 0 rfl)) sfz sfz fun v2=>?_
 refine snK 1 tb rfl ?_
 refine seK [0,2,5,6,7,8,9] [_,_,_,_,_,_,_] rfl ?_
 refine nx (ln 1 fun hl2=>?_)
 refine YQ tb hJ [0,2,3,4,5,1001] [.int (k+1:Nat),_] [0] [_,_,_,_,_,_] rfl ⟨Yv,trivial⟩ ?_
 exact Xi (k+1,v2,out++([(ge t k)]),XT ys (ge t k)) [1,2,3,4,5,0] ⟨by omega,by rw[ZgE (by omega),←f1_2];subst f1_3;simp_all[Zry],by subst f1_3;simp_all[XT],by simp;omega⟩
 try simp at hb2
 refine Zc (nx (YQ tb hJ [0,1,2,3,5,1001] [.int (k+1:Nat),_] [0] [_,_,_,_,_,_] rfl ⟨Yv,trivial⟩ ?_))
 exact Xi (k+1,v,out,ys) [0,1,2,3,5,4] ⟨by omega,by rw[ZgE (by omega),←f1_2];subst f1_3;simp[Zry];grind,f1_3,by omega⟩
 try simp at hb1
 refine Zx (nx (qso tb hJ [1001] [_,_] [_] ?_))
 refine tw (fun h=>Yq hS h (m:=0) (s:=4) rfl) ?_
 exact Zg (Qw (m:=0) rfl rfl (congrArg (fun z=>AV.rd (Zb z)) (show out=(QS t vs)from by rw[f1_2,ZC (by omega)])))
theorem p_Fits {J:World→Prop} (hJ:Stab J) (t:List ByteArray) (l:List Bd) (x:List ByteArray)  :Fn Tryz.prog J 137 [.rd (Zb t),.rd (Ziq l),.rd (Zb x)] (.bool (fitB t l x)):=by
 refine Zu (N:=49) Tryz.func137 rfl rfl (lb rfl) fun S w0 hS hJ0=>?_
 refine tw Yj ?_
 refine ln 0 fun hl1=>?_
 refine ln 1 fun hl2=>?_
 refine ln 2 fun hl3=>?_
 refine qso tb hJ [0,1,2] [_] [_,_,_] ?_
 refine ZiH (tsq ?_)
 refine snK 1 tb rfl ?_
 refine Y7 (O:=[]) (R:=[]) (ZmJ hJ (l:=l) ) ZfL rfl rfl rfl (lb rfl) hS hJ0 Zq (fun a w h=>(Za (h.get 0 rfl) Ze)) fun z1=>?_
 refine snK 1 tb rfl ?_
 refine seK [0,3,5] [_,_,_] rfl ?_
 refine nx (qso tb hJ [0,1,2,1000] [_] [_,_,_,_] ?_)
 refine Zj (ZiI (nx (Zj (ZI tb hJ [0,2,3,1000,1001,1002] [_,.int (t.length:Nat),_] [1] [_,_,_,_,_,_] rfl ⟨YG Zv,trivial⟩ ?_))))
 refine Zf (lpo (ι:=Nat×Nat) (fun(k,p)=>(k≤t.length)∧(p≤x.length)∧(x.take p=Zah (Yp l) (t.take k))) (fun(_,_)=>[OB.map keyS (fun z':List ByteArray=>AV.rd (Zb z')) z1 (Yp l)]) (fun(k,p)=>[(17,.int (k:Nat)),(8,.int (p:Nat))]) (fun(k,_)=>t.length-k) [0,1,3,4,5,2] [_,_,_,_] (0,0) ⟨Nat.zero_le _,Nat.zero_le _,rfl⟩ ?_)
 rintro⟨k,p⟩ ⟨f1_1,f1_2,f1_3⟩
 refine qso tb hJ [0,1,2,3,4,5,1000] [_] [_,_,_,_,_,_,_] ?_
 refine cjS 6 (fun hb1=>?_) fun hb1=>?_
 try simp at hb1
 refine Zc (nx (Zj (Zf (ZI tb hJ [0,1,2,3,4,5,1002] [.ptr [.lit (.string (ge t k))],_,_] [0] [_,_,_,_,_,_,_] rfl ⟨iIx Zn,trivial⟩ ?_))))
 refine ZI tb hJ [0,1,2,3,4,5,1002,1003,1004] [_,_,.rd (Zb (XA (Yp l) (ge t k))),.int ((XA (Yp l) (ge t k)).length:Nat),_] [2,3] [_,_,_,_,_,_,_,_,_] rfl ⟨fun _ _ hk hx hl _=>Y9 (ZdK hJ (M:=z1) (bm:=(Yp l)) (s:=(ge t k)) ) Zck rfl (Zr hS _ hk hx) (hx.1) (ZG (Zd hx (mo 0 rfl)) Zq) (Za (hl.D 0 21 rfl rfl) (Za (hl.D 1 22 rfl rfl) Ze)) (jo hJ hx),YG Zv,trivial⟩ ?_
 refine ln 6 fun hl4=>?_
 refine Zf (lpo (ι:=Nat×Nat) (fun(j,q)=>(j≤(XA (Yp l) (ge t k)).length)∧(q≤x.length)∧(x.take q=Zah (Yp l) (t.take k)++(XA (Yp l) (ge t k)).take j)) (fun(_,_)=>[OB.map keyS (fun z':List ByteArray=>AV.rd (Zb z')) z1 (Yp l)]) (fun(j,q)=>[(25,.int (j:Nat)),(8,.int (q:Nat))]) (fun(j,_)=>(XA (Yp l) (ge t k)).length-j) [0,1,2,3,4,6,7,8,5] [_,_,_,_,_,_,_] (0,p) ⟨Nat.zero_le _,f1_2,by simpa using f1_3⟩ ?_)
 rintro⟨j,q⟩ ⟨f2_1,f2_2,f2_3⟩
 refine qso tb hJ [0,1,2,3,4,5,6,7,8,1000] [_] [_,_,_,_,_,_,_,_,_,_] ?_
 refine cjS 9 (fun hb2=>?_) fun hb2=>?_
 try simp at hb2
 refine Zc (nx (Zj (Zf (ZI tb hJ [0,1,2,3,4,5,6,7,8,1002] [.ptr [.lit (.string (ge (XA (Yp l) (ge t k)) j))],_,_] [0] [_,_,_,_,_,_,_,_,_,_] rfl ⟨iIx Zn,trivial⟩ ?_))))
 refine Zj (ZI tb hJ [0,1,2,3,4,5,6,7,8,1011] [_,_,.int (x.length:Nat),_,_,_,_,.ptr [.lit (.string (ge x q))],_,_,_,_] [2,7] [_,_,_,_,_,_,_,_,_,_] rfl ⟨YG Zv,gIx Zn (hk:=fun(hc':((decide ((q:Int)=(x.length:Int)))==false)=true)=>by(try simp at hc');first | omega | (simp;omega) | grind[ZF]),trivial⟩ ?_)
 refine cj 9 (fun hb3=>?_) fun hb3=>?_
 try simp at hb3
 have e3:q=x.length∨ ¬ ge x q=ge (XA (Yp l) (ge t k)) j:=by grind
 refine qso tb hJ [1,1000] [_] [_,_] ?_
 refine Zx (nx (ZI tb hJ [1004] [_,_,.int (x.length:Nat),_,_] [2] [_] rfl ⟨YG Zv,trivial⟩ ?_))
 exact Zg (Qw (m:=0) rfl rfl (eB (by rw[fitB,decide_eq_false (by omega),decide_eq_false (fit_no (by omega) hb2 f2_3 f2_2 e3)])))
 try simp at hb3
 have e3:q<x.length∧ge x q=ge (XA (Yp l) (ge t k)) j:=by grind
 refine Zc (nx (YQ tb hJ [0,1,2,3,4,5,6,7,1002] [_,.int (q+1:Nat),_] [1] [_,_,_,_,_,_,_,_,_] rfl ⟨Yv,trivial⟩ ?_))
 refine nx (YQ tb hJ [0,1,2,3,4,5,6,8,1001] [.int (j+1:Nat),_] [0] [_,_,_,_,_,_,_,_,_] rfl ⟨Yv,trivial⟩ ?_)
 exact Xi (j+1,q+1) [0,1,2,3,4,5,6,8,7] ⟨by omega,by omega,by rw[ZO e3.1,ZO hb2,←List.append_assoc,←f2_3,e3.2]⟩
 try simp at hb2
 refine Zx (nx (YQ tb hJ [0,1,2,3,8,1001] [.int (k+1:Nat),_] [0] [_,_,_,_,_,_] rfl ⟨Yv,trivial⟩ ?_))
 exact Xi (k+1,q) [0,1,2,3,5,4] ⟨by omega,f2_2,by rw[Qo (by omega),f2_3,ZC (xs:=XA (Yp l) (ge t k)) (by omega)]⟩
 try simp at hb1
 refine Zx (nx (ZI tb hJ [1004] [_,_,.int (x.length:Nat),_,_] [2] [_] rfl ⟨YG Zv,trivial⟩ ?_))
 exact Zg (Qw (m:=0) rfl rfl (eB (by rw[fitB,ZtE (by rw[f1_3,ZC (by omega)]) f1_2])))
theorem ZmK {J:World→Prop} (hJ:Stab J) (t:List ByteArray) (l:List Bd) (n:Nat) (hn:n≤2000) (hl:∀ b∈l,b.text.length≤2000):Fn Tryz.prog J 138 [.rd (Zb t),.rd (Ziq l),.int (n:Nat)] (.tup [.rd (Zb (if ZdU (Yp l) t n then Zah (Yp l) t else [])),.int (if ZdU (Yp l) t n then 0 else 15)]):=by
 refine Zu (N:=35) Tryz.func138 rfl rfl (lb rfl) fun S w0 hS hJ0=>?_
 refine tw Yj ?_
 refine ln 0 fun hl1=>?_
 refine ln 1 fun hl2=>?_
 refine qso tb hJ [0,1,2] [_,_] [_,_,_] ?_
 refine Zj (qso tb hJ [0,1,2,1001] [_,_] [_,_,_,_] ?_)
 refine cj 3 (fun hb1=>?_) fun hb1=>?_
 try simp at hb1
 exact False.elim (by omega)
 try simp at hb1
 refine Zc (nx (tsq ?_))
 refine snK 1 tb rfl ?_
 refine Y7 (O:=[]) (R:=[]) (ZmJ hJ (l:=l) ) ZfL rfl rfl rfl (lb rfl) hS hJ0 Zq (fun a w h=>(Za (h.get 0 rfl) Ze)) fun z1=>?_
 refine snK 1 tb rfl ?_
 refine seK [0,3,5] [_,_,_] rfl ?_
 refine nx (qso tb hJ [0,1,1001] [_,_] [_,_,_] ?_)
 refine Zj (ZI tb hJ [0,1,2,1000,1001,1002] [_,.int (t.length:Nat),_] [1] [_,_,_,_,_,_] rfl ⟨YG Zv,trivial⟩ ?_)
 refine Zf (lpo (ι:=Nat×Int) (fun(k,z)=>(k≤t.length)∧(z=(n:Int)-(Zah (Yp l) (t.take k)).length)∧(0≤z)) (fun(_,_)=>[OB.map keyS (fun z':List ByteArray=>AV.rd (Zb z')) z1 (Yp l)]) (fun(k,z)=>[(19,.int (k:Nat)),(9,.int z)]) (fun(k,_)=>t.length-k) [0,1,3,4,5,2] [_,_,_,_] (0,(n:Int)) ⟨Nat.zero_le _,by simp[Zah],by omega⟩ ?_)
 rintro⟨k,z⟩ ⟨f1_1,f1_2,f1_3⟩
 refine qso tb hJ [0,1,2,3,4,5,1000] [_] [_,_,_,_,_,_,_] ?_
 refine cjS 6 (fun hb2=>?_) fun hb2=>?_
 try simp at hb2
 refine Zc (nx (Zj (Zf (ZI tb hJ [0,1,2,3,4,5,1002] [.ptr [.lit (.string (ge t k))],_,_] [0] [_,_,_,_,_,_,_] rfl ⟨iIx Zn,trivial⟩ ?_))))
 refine ZI tb hJ [0,1,2,3,4,1003,1006] [_,_,_,.rd (Zb (XA (Yp l) (ge t k))),.int ((XA (Yp l) (ge t k)).length:Nat),.int (z-(((XA (Yp l) (ge t k)).length:Nat):Int)),_] [3,4,5] [_,_,_,_,_,_,_] rfl ⟨fun _ _ hk hx hl _=>Y9 (ZdK hJ (M:=z1) (bm:=(Yp l)) (s:=(ge t k)) ) Zck rfl (Zr hS _ hk hx) (hx.1) (ZG (Zd hx (mo 0 rfl)) Zq) (Za (hl.D 1 24 rfl rfl) (Za (hl.D 2 25 rfl rfl) Ze)) (jo hJ hx),YG Zv,iSub (h0:=by have:=Zh6 (m:=2000) (by omega) hl (ge t k);omega),trivial⟩ ?_
 refine ln 5 fun hl3=>?_
 refine qso tb hJ [0,1,2,3,4,6,1001] [_,_] [_,_,_,_,_,_,_] ?_
 refine cj 6 (fun hb3=>?_) fun hb3=>?_
 try simp at hb3
 have e3:ZdU (Yp l) t n=false:=by have h9:=QY (Yp l) t (k+1);rw[Qo (by omega),List.length_append]at h9;simp only[ZdU,decide_eq_false_iff_not];omega
 refine qso tb hJ [1000,1001] [_,_] [_,_] ?_
 refine tw (fun h=>Zao h (m:=0) (s:=6) rfl) ?_
 exact Zg (fun a w h=>X1 (m:=0) (k:=1) rfl (YM h) rfl rfl (congrArg (fun z=>AV.rd (Zb z)) (show([]:List ByteArray)=(if ZdU (Yp l) t n then Zah (Yp l) t else [])from by simp[e3])) (eI (by simp[e3])))
 try simp at hb3
 refine Zc (nx (YQ tb hJ [0,1,2,3,5,1001] [.int (k+1:Nat),_] [0] [_,_,_,_,_,_] rfl ⟨Yv,trivial⟩ ?_))
 exact Xi (k+1,z-(((XA (Yp l) (ge t k)).length:Nat):Int)) [0,1,2,3,5,4] ⟨by omega,by rw[Qo (by omega),List.length_append,f1_2];omega,by omega⟩
 try simp at hb2
 have e4:ZdU (Yp l) t n=true:=by rw[ZC (xs:=t) (by omega)]at f1_2;simp only[ZdU,decide_eq_true_eq];omega
 refine Zx (nx (ZI tb hJ [1002,1003,1004] [_,_,.rd (Zb (Zah (Yp l) t)),_,_] [2] [_,_,_] rfl ⟨fun _ _ hk hx hl _=>Y9 (ZsY hJ (M:=z1) (bm:=(Yp l)) (t:=t) (by simp only[ZdU,decide_eq_true_eq]at e4;omega)) Zqw rfl (Zr hS _ hk hx) (hx.1) (ZG (Zd hx (mo 0 rfl)) Zq) (Za (hl.D 0 32 rfl rfl) (Za (hl.D 1 33 rfl rfl) Ze)) (jo hJ hx),trivial⟩ ?_))
 refine ln 0 fun hl4=>?_
 exact Zg (fun a w h=>X1 (m:=1) (k:=2) rfl (YM h) rfl rfl (congrArg (fun z=>AV.rd (Zb z)) (show(Zah (Yp l) t)=(if ZdU (Yp l) t n then Zah (Yp l) t else [])from by simp[e4])) (eI (by simp[e4])))
theorem Zgp {J:World→Prop} (hJ:Stab J) (x:Pr)  :Fn Tryz.prog J 167 [.agg (prC x)] (.agg (prC (ZbK x))):=by
 refine Zu (N:=15) Tryz.func167 rfl rfl (lb rfl) fun S w0 hS hJ0=>?_
 refine tw Yj ?_
 refine tsq ?_
 refine ZhD (cs:=[.lit (.string x.a),.lit (.string x.b)]) hJ rfl rfl rfl (lb rfl) (fun a w h=>(h.get 0 rfl)) fun b1=>?_
 refine ZP QB hJ rfl rfl rfl (lb rfl) fun b2=>?_
 refine seK [0,1] [_,_] rfl ?_
 refine nx (Zj (ZI tb hJ [0,1,1004] [.at b1 1,.str x.b,.at b1 0,.str x.a,_] [0,1,2,3] [_,_,_] rfl ⟨fun _ _ _ hx hl _=>Zm QH rfl (hl.env 1 1 _ rfl rfl) hx,fun a _ _ hx hl _=>Zo (cs:=[.lit (.string x.a),.lit (.string x.b)]) Q1 rfl (Zd hx (mo 1 rfl)) (hl.D 0 3 rfl rfl) rfl hx,fun _ _ _ hx hl _=>Zm QI rfl (hl.env 1 1 _ rfl rfl) hx,fun a _ _ hx hl _=>Zo (cs:=[.lit (.string x.a),.lit (.string x.b)]) Q1 rfl (Zd hx (mo 1 rfl)) (hl.D 2 5 rfl rfl) rfl hx,trivial⟩ ?_))
 refine cj 2 (fun hb1=>?_) fun hb1=>?_
 try simp at hb1
 refine Zw (sq (.at b1 1) rfl rfl (lb rfl) (fun _ _ h=>Zm QH rfl (h.get 1 rfl) h.x) ?_)
 refine sq (.str x.b) rfl rfl (lb rfl) (fun _ _ h=>Zo (cs:=[.lit (.string x.a),.lit (.string x.b)]) Q1 rfl (Zd h.x (mo 1 rfl)) (h.get 0 rfl) rfl h.x) ?_
 refine sq (.at b1 0) rfl rfl (lb rfl) (fun _ _ h=>Zm QI rfl (h.get 3 rfl) h.x) ?_
 refine sq (.str x.a) rfl rfl (lb rfl) (fun _ _ h=>Zo (cs:=[.lit (.string x.a),.lit (.string x.b)]) Q1 rfl (Zd h.x (mo 1 rfl)) (h.get 0 rfl) rfl h.x) ?_
 refine sq (.at b1 0) rfl rfl (lb rfl) (fun _ _ h=>Zm QI rfl (h.get 5 rfl) h.x) ?_
 refine kw pm1 ?_
 refine ZJ (b:=b1) (off:=0) (cs:=[.lit (.string x.a),.lit (.string x.b)]) (es:=[.lit (.string x.b),.lit (.string x.b)]) hJ hJ0 ZiR rfl rfl rfl (lb rfl) rfl (fun a w h=>⟨(h.get 0 rfl),(h.get 3 rfl)⟩) ?_
 refine sq (.at b1 1) rfl rfl (lb rfl) (fun _ _ h=>Zm QH rfl (h.get 6 rfl) h.x) ?_
 refine ZJ (b:=b1) (off:=1) (cs:=[.lit (.string x.b),.lit (.string x.b)]) (es:=[.lit (.string x.b),.lit (.string x.a)]) hJ hJ0 ZiR rfl rfl rfl (lb rfl) rfl (fun a w h=>⟨(h.get 0 rfl),(h.get 2 rfl)⟩) ?_
 refine seK [6,7] [_,_] rfl ?_
 refine nx (tsq ?_)
 refine sq (.agg [.lit (.string x.b),.lit (.string x.a)]) rfl rfl (lb rfl) (fun _ _ h=>YI (cs:=[.lit (.string x.b),.lit (.string x.a)]) (ds:=[.lit (.string x.b),.lit (.string x.a)]) Xd rfl (Zd h.x (mo 0 rfl)) (h.get 1 rfl) rfl rfl h.x) ?_
 refine kw pm1 ?_
 refine ZE (b:=b2) (off:=0) (cs:=[.lit (.string (⟨#[]⟩:ByteArray)),.lit (.string (⟨#[]⟩:ByteArray))]) (es:=[.lit (.string x.b),.lit (.string x.a)]) (news:=[.lit (.string x.b),.lit (.string x.a)]) hJ hJ0 Xf rfl rfl rfl (lb rfl) rfl (fun a w h=>⟨(h.get 1 rfl),(h.get 0 rfl)⟩) ?_
 refine seK [1] [_] rfl ?_
 exact nx (Zg (fun a w h=>QW (cs:=[.lit (.string x.b),.lit (.string x.a)]) (m:=0) rfl Xd h rfl rfl (show([.lit (.string x.b),.lit (.string x.a)]:List CD)=[.lit (.string ((ZbK x).a)),.lit (.string ((ZbK x).b))]from by simp[ZbK,hb1])))
 try simp at hb1
 refine Zc (nx (tsq ?_))
 refine sq (.agg (prC x)) rfl rfl (lb rfl) (fun _ _ h=>YI (cs:=[.lit (.string x.a),.lit (.string x.b)]) (ds:=[.lit (.string x.a),.lit (.string x.b)]) Xd rfl (Zd h.x (mo 1 rfl)) (h.get 1 rfl) rfl rfl h.x) ?_
 refine ZE (b:=b2) (off:=0) (cs:=[.lit (.string (⟨#[]⟩:ByteArray)),.lit (.string (⟨#[]⟩:ByteArray))]) (es:=[.lit (.string x.a),.lit (.string x.b)]) (news:=[.lit (.string x.a),.lit (.string x.b)]) hJ hJ0 Xf rfl rfl rfl (lb rfl) rfl (fun a w h=>⟨(h.get 1 rfl),(h.get 0 rfl)⟩) ?_
 refine seK [1] [_] rfl ?_
 exact nx (Zg (fun a w h=>QW (cs:=[.lit (.string x.a),.lit (.string x.b)]) (m:=0) rfl Xd h rfl rfl (show([.lit (.string x.a),.lit (.string x.b)]:List CD)=[.lit (.string ((ZbK x).a)),.lit (.string ((ZbK x).b))]from by simp[ZbK,hb1])))
abbrev mkC (d:Db) (f:Fr) (r:List CD):List CD:=Zb d.consts::Zb d.vars::YD d.frames:: .lit (.string f.label):: .lit (.bool f.thm)::YW f.hyps::Xm f.apart::Zb f.text::YW f.dummies::Xm f.wide::Zb f.proof::r
abbrev mkM (d:Db) (f:Fr) (nm:Value) (xs:List Itm) (vs vt:Value) (n:Nat) (kn:Bool) (y1 y2:Int):List CD:=mkC d f [.lit nm,XL xs,.lit vs,.lit vt,.lit (.int .i64 n),.lit (.bool kn),.lit (.int .i64 y1),.lit (.int .i64 y2)]
abbrev mkR (d:Db) (f:Fr) (M:Nat) (v vs vt:Value) (n:Nat) (kn:Bool) (y1 y2:Int):List CD:=mkC d f [.lit (.map (some M)),.lit v,.lit vs,.lit vt,.lit (.int .i64 n),.lit (.bool kn),.lit (.int .i64 y1),.lit (.int .i64 y2)]
theorem Zrq {J:World→Prop} (hJ:Stab J) (b:Nat) (d:Db) (f:Fr) (nm:Value) (xs:List Itm) (vs:Value) (vt:Value) (n:Nat) (kn:Bool) (y1:Int) (y2:Int) (sk:List (List ByteArray)) (t:List ByteArray) (hb:sk.length≤4000):FnM (ι:=Value) Tryz.prog J 114 [] [.at b 0,.rd (Zb t)] [OB.var b (mkM d f nm xs vs vt n kn y1 y2),OB.row vs 22 1 (sk.map Zh)] (fun _=>.tup []) (fun i'=>[OB.var b (mkC d f [.lit nm,XL xs,.lit (i'),.lit vt,.lit (.int .i64 (n:Int)),.lit (.bool kn),.lit (.int .i64 y1),.lit (.int .i64 y2)]),OB.row i' 22 1 ((sk++[t]).map Zh)]):=by
 refine ZX (N:=14) Tryz.func114 rfl rfl (lb rfl) fun S w0 R hS hJ0 hH=>?_
 refine Z6 (B:=St All (SO S (OB.var b (mkM d f nm xs vs vt n kn y1 y2)::OB.row vs 22 1 (sk.map Zh)::R)) w0 14 [(0,.at b 0),(1,.rd (Zb t))] (XO J S w0.heap.size (OB.var b (mkM d f nm xs vs vt n kn y1 y2)::OB.row vs 22 1 (sk.map Zh)::R))) ?_ fun a w h=>h
 refine ln 1 fun hl1=>?_
 refine Zw (snK 2 tb rfl ?_)
 refine sq (.at b 0) rfl rfl (lb rfl) (fun _ _ h=>Zk rfl (h.get 0 rfl) h.x) ?_
 refine sq (.at b 13) rfl rfl (lb rfl) (fun _ _ h=>Zm Yn rfl (h.get 0 rfl) h.x) ?_
 refine sq (.lit vs) rfl rfl (lb rfl) (fun _ _ h=>Zo (cs:=(mkM d f nm xs vs vt n kn y1 y2)) QE rfl (Zd h.x (mo 0 rfl)) (h.get 0 rfl) rfl h.x) ?_
 refine snK 1 tb rfl ?_
 refine sq (.rd (ZbW ([t]))) rfl rfl (lb rfl) (fun _ _ h=>Yx Z0 Zdl rfl (h.get 0 rfl) (Zr hS _ h.keep h.x _ (Nat.le_refl _)) (jo hJ h.x)) ?_
 refine kw pm1 ?_
 refine YX (f:=Zh) (m:=2) (s:=8) sk ([t]) (fun _=>rfl) Zbp hJ hJ0 rfl rfl rfl (lb rfl) rfl rfl (fun a w h=>(h.get 0 rfl)) sfz sfz fun v1=>?_
 refine sq (.at b 0) rfl rfl (lb rfl) (fun _ _ h=>Zk rfl (h.get 7 rfl) h.x) ?_
 refine sq (.at b 13) rfl rfl (lb rfl) (fun _ _ h=>Zm Yn rfl (h.get 0 rfl) h.x) ?_
 refine kw pm1 ?_
 refine ZJ (b:=b) (off:=13) (cs:=(mkM d f nm xs vs vt n kn y1 y2)) (es:=(mkM d f nm xs v1 vt n kn y1 y2)) hJ hJ0 Zbb rfl rfl rfl (lb rfl) rfl (fun a w h=>⟨(h.get 0 rfl),(h.get 2 rfl)⟩) ?_
 refine seK [3] [_] rfl ?_
 refine kw (ob1 (congrArg (fun z'=>OB.row v1 22 1 ((z').map Zh)) (show(sk++([t]))=(sk++[t])from by first | rfl | grind))) ?_
 exact fun a w h=>Xt  v1 rfl h rfl
theorem Zgq {J:World→Prop} (hJ:Stab J) (b:Nat) (d:Db) (f:Fr) (nm:Value) (xs:List Itm) (n:Nat) (vs:Value) (vt:Value) (kn:Bool) (y1:Int) (y2:Int) (e:Int) (p:Int)  :FnM (ι:=Unit) Tryz.prog J 89 [] [.at b 0,.int e,.int p] [OB.var b (mkM d f nm xs vs vt n kn y1 y2)] (fun _=>.tup []) (fun _=>[OB.var b (mkC d f [.lit nm,XL xs,.lit vs,.lit vt,.lit (.int .i64 (n:Int)),.lit (.bool true),.lit (.int .i64 e),.lit (.int .i64 p)])]):=by
 refine ZX (N:=15) Tryz.func89 rfl rfl (lb rfl) fun S w0 R hS hJ0 hH=>?_
 refine Z6 (B:=St All (SO S (OB.var b (mkM d f nm xs vs vt n kn y1 y2)::R)) w0 15 [(0,.at b 0),(1,.int e),(2,.int p)] (XO J S w0.heap.size (OB.var b (mkM d f nm xs vs vt n kn y1 y2)::R))) ?_ fun a w h=>h
 refine Zw (snK 4 tb rfl ?_)
 refine sq (.agg (vdC (⟨e,p⟩:Int×Int))) rfl rfl (lb rfl) (fun a _ h=>ZbI (us:=[a.eval (Go.Operand.tmp 8),a.eval (Go.Operand.tmp 9)]) Zk7 rfl (by simp) (Zz (h.get 1 rfl) (Zz (h.get 0 rfl) Yb)) rfl h.x) ?_
 refine sq (.at b 0) rfl rfl (lb rfl) (fun _ _ h=>Zk rfl (h.get 4 rfl) h.x) ?_
 refine sq (.at b 16) rfl rfl (lb rfl) (fun _ _ h=>Zm ZcS rfl (h.get 0 rfl) h.x) ?_
 refine ZJ (b:=b) (off:=16) (cs:=(mkM d f nm xs vs vt n kn y1 y2)) (es:=(mkC d f [.lit nm,XL xs,.lit vs,.lit vt,.lit (.int .i64 (n:Int)),.lit (.bool true),.lit (.int .i64 y1),.lit (.int .i64 y2)])) hJ hJ0 QO rfl rfl rfl (lb rfl) rfl (fun a w h=>⟨(h.get 0 rfl),(Rel.of_lit (Go.Value.bool true))⟩) ?_
 refine sq (.at b 0) rfl rfl (lb rfl) (fun _ _ h=>Zk rfl (h.get 5 rfl) h.x) ?_
 refine sq (.at b 17) rfl rfl (lb rfl) (fun _ _ h=>Zm ZcR rfl (h.get 0 rfl) h.x) ?_
 refine ZE (b:=b) (off:=17) (cs:=(mkC d f [.lit nm,XL xs,.lit vs,.lit vt,.lit (.int .i64 (n:Int)),.lit (.bool true),.lit (.int .i64 y1),.lit (.int .i64 y2)])) (es:=(mkC d f [.lit nm,XL xs,.lit vs,.lit vt,.lit (.int .i64 (n:Int)),.lit (.bool true),.lit (.int .i64 ((⟨e,p⟩:Int×Int).1)),.lit (.int .i64 ((⟨e,p⟩:Int×Int).2))])) (news:=[.lit (.int .i64 ((⟨e,p⟩:Int×Int).1)),.lit (.int .i64 ((⟨e,p⟩:Int×Int).2))]) hJ hJ0 Q6 rfl rfl rfl (lb rfl) rfl (fun a w h=>⟨(h.get 0 rfl),(h.get 4 rfl)⟩) ?_
 refine seK [] [] rfl ?_
 refine kw (ob0 (show OB.var b (mkC d f [.lit nm,XL xs,.lit vs,.lit vt,.lit (.int .i64 (n:Int)),.lit (.bool true),.lit (.int .i64 ((⟨e,p⟩:Int×Int).1)),.lit (.int .i64 ((⟨e,p⟩:Int×Int).2))])=OB.var b (mkC d f [.lit nm,XL xs,.lit vs,.lit vt,.lit (.int .i64 (n:Int)),.lit (.bool true),.lit (.int .i64 e),.lit (.int .i64 p)])from rfl)) ?_
 exact fun a w h=>Xt  () rfl h rfl
theorem clip_c (ad:Option Addr) (n cap:Nat) (hn:n≤cap) (w:World):Calls Tryz.prog 140 #[.slice ad n cap] w fun e w'=>e= .returned (.slice ad n n)∧w'=w:=by
 go_enter Tryz.func140,Tryz.ntmps140
 go_wp2
 simp[bodyPost,results,Tryz.results140]
theorem p_Clip {J:World→Prop} (_:Stab J) (v:Value) (e:TypeId) (rows:List (List CD)):FnM (ι:=Unit) Tryz.prog J 140 [] [.lit v] [OB.row v e 1 rows] (fun _=>.lit (Zed v)) (fun _=>[OB.clp (Zed v) rows]):=by
 intro S w0 R w vs hS hJ0 hH hk hx ha
 simp only[RelL]at ha
 obtain⟨u,us,rfl,hv,rfl⟩:=ha
 obtain rfl:=hv.lit
 have hok:=hv.okl
 have hform:∃ ad cap,u= .slice ad rows.length cap∧rows.length≤cap:=by
  obtain⟨us,⟨_,h3⟩,_⟩:=hx.2.1 (OB.row u e 1 rows) (by simp)
  rcases h3 with⟨rfl,h4⟩ | ⟨g,cap,cur,rfl,_,_,h5,_⟩
  · exact⟨none,0,by rw[h4],by omega⟩
  · exact⟨_,cap,rfl,h5⟩
 have hs:=Zr2 (O:=R) hS hk hx
 obtain⟨ad,cap,rfl,hle⟩:=hform
 refine(clip_c ad rows.length cap hle w).mono ?_
 rintro en w' ⟨rfl,rfl⟩
 exact⟨(),_,rfl,Rel.of_lit _ True.intro,hs.1,hs.2.1⟩
theorem ZmF {J:World→Prop} (hJ:Stab J) (s:ByteArray)  :Fn Tryz.prog J 179 [.str s] (.bool false):=by
 refine Zu (N:=6) Tryz.func179 rfl rfl (lb rfl) fun S w0 hS hJ0=>?_
 clear hJ0
 refine qs tb hJ [0] [_] [_] ?_
 refine qs tb hJ [1003] [_,_,_,_] [_] ?_
 exact Zg (rtn (m:=0) rfl rfl (eB (by simp)))
theorem Zrs {J:World→Prop} (hJ:Stab J) (x:ByteArray) (y:ByteArray)  :Fn Tryz.prog J 174 [.str x,.str y] (.int (ZaL x y)):=by
 refine Zu (N:=20) Tryz.func174 rfl rfl (lb rfl) fun S w0 hS hJ0=>?_
 clear hJ0
 refine qs tb hJ [0,1] [_] [_,_] ?_
 refine hqs tb hJ [0,1,1002] [_,.bool false,_] [1] [_,_,_] rfl ⟨iFn hS hJ (ZmF hJ (s:=x) ) ZjN,trivial⟩ ?_
 refine hqs tb hJ [0,1,2,1002] [_,.bool false,_] [1] [_,_,_,_] rfl ⟨iFn hS hJ (ZmF hJ (s:=y) ) ZjN,trivial⟩ ?_
 refine Zj (qs tb hJ [0,1,3,1000] [_] [_,_,_,_] ?_)
 refine cj 3 (fun hb1=>?_) fun hb1=>?_
 exact False.elim (by cases hb1)
 refine Zc (nx (Zj (qs tb hJ [0,1,1000] [_] [_,_,_] ?_)))
 refine cj 2 (fun hb3=>?_) fun hb3=>?_
 exact False.elim (by cases hb3)
 refine Zc (nx (Zj (qs tb hJ [0,1,1002] [_,_,_] [_,_,_] ?_)))
 refine cj 2 (fun hb4=>?_) fun hb4=>?_
 try simp at hb4
 refine qs tb hJ [1000] [_] [_] ?_
 exact Zg (rtn (m:=0) rfl rfl (eI (by first | (simp_all[ZaL];done) | grind[ZaL])))
 try simp at hb4
 refine Zc (nx (Zj (hqs tb hJ [1002] [_,_,.bool (!(Op.bytesLess x.toList y.toList||decide (x=y)))] [2] [_] rfl ⟨fun _ _ _ hx hl _=>r_gtrS rfl (hl.D 0 17 rfl rfl) (hl.D 1 18 rfl rfl) hx,trivial⟩ ?_)))
 refine cj 0 (fun hb5=>?_) fun hb5=>?_
 try simp at hb5
 refine qs tb hJ [1000] [_] [_] ?_
 exact Zg (rtn (m:=0) rfl rfl (eI (by first | (simp_all[ZaL];done) | grind[ZaL])))
 try simp at hb5
 refine Zc (nx (qs tb hJ [1000] [_] [_] ?_))
 exact Zg (rtn (m:=0) rfl rfl (eI (by first | (simp_all[ZaL];done) | grind[ZaL])))
theorem p_OrI {J:World→Prop} (hJ:Stab J) (l:List Int)  :Fn Tryz.prog J 173 [.rd (Xj l)] (.int (orI l)):=by
 refine Zu (N:=18) Tryz.func173 rfl rfl (lb rfl) fun S w0 hS hJ0=>?_
 clear hJ0
 refine ln 0 fun hl1=>?_
 refine qs tb hJ [0] [_] [_] ?_
 refine qs tb hJ [0,1000] [_] [_,_] ?_
 refine Zj (hqs tb hJ [1,1000,1001,1002] [_,.int (l.length:Nat),_] [1] [_,_,_,_] rfl ⟨YG Qh,trivial⟩ ?_)
 refine Zf (lp (ι:=Nat) (fun k=>(k≤l.length)∧(∀ j,j<k→ge l j=0)) (fun k=>[(8,.int (k:Nat))]) (fun k=>l.length-k) [0,1,2,3] [_,_,_] 0 ⟨Nat.zero_le _,fun j hj=>by omega⟩ ?_)
 rintro k ⟨f1_1,f1_2⟩
 refine qs tb hJ [0,1,2,3,1000] [_] [_,_,_,_,_] ?_
 refine cjS 4 (fun hb1=>?_) fun hb1=>?_
 try simp at hb1
 refine Zc (nx (Zj (Zf (hqs tb hJ [0,1,2,3,1002] [.ptr [.lit (.int .i64 (ge l k))],_,_] [0] [_,_,_,_,_] rfl ⟨iIx Yc,trivial⟩ ?_))))
 refine qs tb hJ [0,1,2,3,4,1002] [_,_,_] [_,_,_,_,_,_] ?_
 refine cj 5 (fun hb2=>?_) fun hb2=>?_
 try simp at hb2
 refine qs tb hJ [1001] [_,_] [_] ?_
 exact Zg (rtn (m:=0) rfl rfl (eI (by first | exact(ZmM hb1 f1_2 (by simpa using hb2)).symm | exact(Zrt fun j hj=>f1_2 j (by omega)).symm)))
 try simp at hb2
 refine Zc (nx (hqp tb hJ [0,1,2,1001] [.int (k+1:Nat),_] [0] [_,_,_,_] rfl ⟨Yv,trivial⟩ ?_))
 exact lpE (k+1) [0,1,2,3] ⟨by omega,ZZ f1_2 (by simpa using hb2)⟩
 try simp at hb1
 refine Zx (nx (qs tb hJ [1001] [_,_] [_] ?_))
 exact Zg (rtn (m:=0) rfl rfl (eI (by first | exact(ZmM hb1 f1_2 (by simpa using hb2)).symm | exact(Zrt fun j hj=>f1_2 j (by omega)).symm)))
theorem ZmG {J:World→Prop} (hJ:Stab J) (p:Pr) (q:Pr)  :Fn Tryz.prog J 158 [.agg (prC p),.agg (prC q)] (.int (Ze8 p q)):=by
 refine Zu (N:=17) Tryz.func158 rfl rfl (lb rfl) fun S w0 hS hJ0=>?_
 clear hJ0
 refine hqs tb hJ [1000,1001] [.ptr (prC p),.ptr (prC q),_] [0,1] [_,_] rfl ⟨fun _ _ hk hx hl _=>YP rfl (hl.env 0 0 _ rfl rfl) (hS _ hk.size) (js hJ hx),fun _ _ hk hx hl _=>YP rfl (hl.env 1 1 _ rfl rfl) (hS _ hk.size) (js hJ hx),trivial⟩ ?_
 refine hqs tb hJ [1010,1012] [_,_,_,_,.int (ZaL p.a q.a),_,_,_,_,.int (ZaL p.b q.b),.rd (Xj ([ZaL p.a q.a,ZaL p.b q.b]:List Int)),.int (orI ([ZaL p.a q.a,ZaL p.b q.b]:List Int)),_] [4,9,10,11] [_,_] rfl ⟨iFn hS hJ (Zrs hJ (x:=p.a) (y:=q.a) ) Zdj,iFn hS hJ (Zrs hJ (x:=p.b) (y:=q.b) ) Zdj,fun a _ hk hx hl _=>Qt (k:=2) (us:=[a.eval (Go.Operand.tmp 9),a.eval (Go.Operand.tmp 14)]) Yc ZbP rfl (by simp) (Zz (hl.D 4 9 rfl rfl) (Zz (hl.D 9 14 rfl rfl) Yb)) rfl (by decide) (by decide) (hS _ hk.size) (js hJ hx),iFn hS hJ (p_OrI hJ (l:=([ZaL p.a q.a,ZaL p.b q.b]:List Int)) ) ZjO,trivial⟩ ?_
 refine ln 0 fun hl1=>?_
 exact Zg (rtn (m:=1) rfl rfl (eI (ZnN p q)))
theorem Ztn (s:ByteArray) (w:World):Calls Tryz.prog 179 #[.string s] w fun e w'=>e= .returned (.bool false)∧w'=w:=by
 go_enter Tryz.func179,Tryz.ntmps179
 go_wp2
 go_ret
 exact⟨by simp,rfl⟩
theorem ZrP (x y:ByteArray) (w:World):Calls Tryz.prog 174 #[.string x,.string y] w fun e w'=>e= .returned (.int .i64 (ZaL x y))∧w'=w:=by
 go_enter Tryz.func174,Tryz.ntmps174
 go_wp2_with (go_at_call 179;refine(Ztn _ _).mono ?_;rintro e w' ⟨rfl,rfl⟩)
 all_goals go_ret
 · rename_i h
   exact⟨by rw[ZaL,if_pos h];rfl,rfl⟩
 · rename_i h2 _ _ h
   have h3:¬ x=y:=fun e=>by simp[e]at h
   exact⟨by rw[ZaL,if_neg (by simp[h2]),if_neg h3];rfl,rfl⟩
 · rename_i h2 h
   have h3:x=y:=by
    have:=Zaf x y
    simp_all
   exact⟨by rw[ZaL,if_neg (by simp[h2]),if_pos h3];rfl,rfl⟩
theorem orI_x (b off cap:Nat) (x y:Int) (w:World) (h0:w.cell? ⟨b,off,none⟩=some (.int .i64 x)) (h1:w.cell? ⟨b,off+1,none⟩=some (.int .i64 y)):Calls Tryz.prog 173 #[.slice (some ⟨b,off,none⟩) 2 cap] w fun e w'=>e= .returned (.int .i64 (orI [x,y]))∧w'=w:=by
 go_enter Tryz.func173,Tryz.ntmps173
 go_wp2_with fail
 refine wp_loop_rounds 3 ?_
 rw[rounds_succ]
 go_wp2
 · rename_i h
   go_ret
   exact⟨by simp at h;simp[orI,h],rfl⟩
 rw[rounds_succ]
 go_wp2
 · rename_i h2 _ _ h
   go_ret
   exact⟨by simp at h h2;simp[orI,h,h2],rfl⟩
 rw[rounds_succ]
 go_wp2
 have h3:x=0:=by simpa using ‹(x !=0)=false›
 have h4:y=0:=by simpa using ‹(y !=0)=false›
 go_ret
 exact⟨by simp[orI,h3,h4],rfl⟩
def ZnC (p:Pr):List Value:=[.string p.a,.string p.b]
theorem Zfk {T:Nat→Prop} {w:World} {p:Pr} (h1:p.a.size≤maxLen) (h2:p.b.size≤maxLen):Rel T w (.agg (prC p)) (.agg (ZnC p).toArray):=by
 simp only[Rel]
 exact⟨_,rfl,.lit _ h1,.lit _ h2,trivial⟩
theorem ZnI (p q:Pr) (hp:p.a.size≤maxLen∧p.b.size≤maxLen) (hq:q.a.size≤maxLen∧q.b.size≤maxLen) (W:World):Calls Tryz.prog 158 #[.agg (ZnC p).toArray,.agg (ZnC q).toArray] W fun e w'=>e= .returned (.int .i64 (Ze8 p q))∧Ex W w':=by
 have ha:RelL (fun _=>True) W [.agg (prC p),.agg (prC q)] [.agg (ZnC p).toArray,.agg (ZnC q).toArray]:=Za (Zfk hp.1 hp.2) (Za (Zfk hq.1 hq.2) Ze)
 obtain⟨g1,g2⟩:=QF (N:=17) (M:=17) (by simp) rfl ha
 refine(callsIn_wide (n:=5)).1 (callsIn_of_wp Tryz.func158 rfl trivial ?_ rfl)
 suffices h:Tr 5 Tryz.prog (St All (fun _=>True) W 17 (Xl 0 [.agg (prC p),.agg (prC q)]) (Ex W)) _ _ from h _ _ ⟨rfl,g1,Keeps.refl _ _,ZtG W,g2⟩
 refine tsq ?_
 refine sq (.ptr (prC p)) rfl rfl (lb rfl) (fun _ _ h=>x_box rfl (h.get 0 rfl) trivial h.x) ?_
 refine sq (.ptr (prC q)) rfl rfl (lb rfl) (fun _ _ h=>x_box rfl (h.get 2 rfl) trivial h.x) ?_
 refine sq (.int 0) rfl rfl (lb rfl) (fun _ _ h=>XI rfl (Rel.of_lit _) h.x) ?_
 refine seK [1,2] [_,_] rfl ?_
 refine nx (Zj ?_)
 refine fun a w h=>ZiY (fun ix'=>([.ptr (prC p),.str p.a,.ptr (prC q),.str q.a,.int (ZaL p.a q.a),.ptr [.lit (.string p.b)],.str p.b,.ptr [.lit (.string q.b)],.str q.b,.int (ZaL p.b q.b),.rd (.sl [[.lit (.int .i64 (ZaL p.a q.a))],[.lit (.int .i64 (ZaL p.b q.b))]]),.int (Ze8 p q),.int (Ze8 p q)]:List AV).getD ix' .any) (fun _=>true) [(4,.int (Ze8 p q))] h (fun _ h=>h) Yh rfl rfl rfl (fun _=>ZtH) ⟨?o0,?o1,?o2,?o3,?o4,?o5,?o6,?o7,?o8,?o9,?o10,?o11,?o12,trivial⟩ ⟨.new 12 4 _ rfl rfl rfl (.inl ⟨_,rfl⟩),trivial⟩ ?n
 case o0=>exact⟨rfl,fun a w _ hx hl _=>ZT QI rfl (hl.env 1 2 _ rfl rfl) hx⟩
 case o1=>exact⟨rfl,fun a w _ hx hl _=>ZA Q1 rfl (hl.dep 0 5 _ rfl rfl rfl rfl) hx⟩
 case o2=>exact⟨rfl,fun a w _ hx hl _=>ZT QI rfl (hl.env 0 3 _ rfl rfl) hx⟩
 case o3=>exact⟨rfl,fun a w _ hx hl _=>ZA Q1 rfl (hl.dep 2 7 _ rfl rfl rfl rfl) hx⟩
 case o4=>exact⟨rfl,fun a w _ hx hl _=>Zlk (args:=[.tmp 6,.tmp 8]) (vs:=[.string p.a,.string q.a]) Zdj rfl (by rw[List.map_cons,List.map_cons,List.map_nil,(hl.dep 1 6 _ rfl rfl rfl rfl).lit,(hl.dep 3 8 _ rfl rfl rfl rfl).lit]) (ZrP _ _ _) True.intro hx⟩
 case o5=>exact⟨rfl,fun a w _ hx hl _=>ZT QH rfl (hl.env 1 2 _ rfl rfl) hx⟩
 case o6=>exact⟨rfl,fun a w _ hx hl _=>ZA Q1 rfl (hl.dep 5 10 _ rfl rfl rfl rfl) hx⟩
 case o7=>exact⟨rfl,fun a w _ hx hl _=>ZT QH rfl (hl.env 0 3 _ rfl rfl) hx⟩
 case o8=>exact⟨rfl,fun a w _ hx hl _=>ZA Q1 rfl (hl.dep 7 12 _ rfl rfl rfl rfl) hx⟩
 case o9=>exact⟨rfl,fun a w _ hx hl _=>Zlk (args:=[.tmp 11,.tmp 13]) (vs:=[.string p.b,.string q.b]) Zdj rfl (by rw[List.map_cons,List.map_cons,List.map_nil,(hl.dep 6 11 _ rfl rfl rfl rfl).lit,(hl.dep 8 13 _ rfl rfl rfl rfl).lit]) (ZrP _ _ _) True.intro hx⟩
 case o10=>exact⟨rfl,fun a w _ hx hl _=>Zoz (k:=2) (us:=[a.eval (.tmp 9),a.eval (.tmp 14)]) Yc ZbP rfl (by simp) (Zz (hl.dep 4 9 _ rfl rfl rfl rfl) (Zz (hl.dep 9 14 _ rfl rfl rfl rfl) Yb)) rfl (by decide) (by decide) trivial hx⟩
 case o11=>
  refine⟨rfl,fun a w _ hx hl _=>?_⟩
  have hr:=hl.dep 10 15 _ rfl rfl rfl rfl
  simp only[List.getD_cons_succ,List.getD_cons_zero,Rel]at hr
  generalize hrows:([[.lit (.int .i64 (ZaL p.a q.a))],[.lit (.int .i64 (ZaL p.b q.b))]]:List (List CD))=rows at hr
  generalize hv:a.eval (.tmp 15)=v at hr
  cases hr with
  | nil=>cases hrows
  | sl b off cap n rows vs hl2 hm hb hS hn hc hrd=>
   subst hrows
   have h1:n=1:=(hn _ (List.mem_cons_self)).symm
   subst h1
   have h0:=hc 0 0 (by simp) (by omega)
   have h1:=hc 1 0 (by simp) (by omega)
   rw[(hrd 0 0 _ _ rfl rfl).of_lit]at h0
   rw[(hrd 1 0 _ _ rfl rfl).of_lit]at h1
   refine(?_:Z5 _ _ _ _ _ (Yu _ (Ex W) (.int (Ze8 p q)) w))
   rw[←ZnN]
   exact Zlk (args:=[.tmp 15]) (vs:=[.slice (some ⟨b,off,none⟩) 2 cap]) ZjO rfl (by rw[List.map_cons,List.map_nil,hv];rfl) (orI_x b off cap _ _ w h0 h1) True.intro hx
 case o12=>exact⟨rfl,fun a w _ hx hl _=>XI rfl (hl.dep 11 16 _ rfl rfl rfl rfl) hx⟩
 refine nx (Zg fun a w h=>⟨h.defs,a.tmps.getD 4 undef,by simp[results,Tryz.results158,Sem.run_pure],?_,h.x⟩)
 rw[show a.tmps.getD 4 undef= .int .i64 (Ze8 p q)from(h.get 0 rfl).lit]
end Go.Proofs.YtapelgeodldlcaaGreatDoor
namespace Go.Proofs.YtapelgeodldlcaaGreatDoor
theorem ZnM {x y:ByteArray}:ZaL x y<0↔Op.bytesLess x.toList y.toList=true:=by
 unfold ZaL
 split
 · rename_i h;simp[h]
 · rename_i h
   split<;>simp[h]
theorem cmpX_eq {x y:ByteArray}:ZaL x y=0↔x=y:=by
 unfold ZaL
 split
 · rename_i h
   constructor
   · intro e;omega
   · rintro rfl;rw[Zcm]at h;cases h
 · split
   · rename_i h;simp[h]
   · rename_i h;simp[h]
theorem cmpT_lt {p q:Pr}:Ze8 p q<0↔ltP p q=true:=by
 unfold Ze8 ltP
 split
 · rename_i h
   rw[cmpX_eq]at h
   rw[ZnM,h,Zcm]
   simp
 · rename_i h
   rw[cmpX_eq]at h
   rw[ZnM]
   simp[h]
theorem Zql {p q:Pr}:Ze8 p q=0↔p=q:=by
 unfold Ze8
 split
 · rename_i h
   rw[cmpX_eq]at h ⊢
   constructor
   · intro h2;cases p;cases q;simp_all
   · rintro rfl;rfl
 · rename_i h
   constructor
   · intro e;exact absurd e h
   · rintro rfl;exact absurd (cmpX_eq.2 rfl) h
theorem Zh0 (x:Pr):ltP x x=false:=by simp[ltP,Zcm]
theorem ZhZ {x y:Pr} (h1:ltP x y=false) (h2:ltP y x=false):x=y:=by
 cases h3:Zor x y with
 | true=>simp only[Zor,Bool.and_eq_true,decide_eq_true_eq]at h3;cases x;cases y;simp_all
 | false=>have:=ZgL h1 h3;rw[h2]at this;cases this
def Zcr (ps:List Pr):Nat→List Pr
 | 0=>[]
 | m+1=>if m=0∨ ¬ ge ps m=ge ps (m-1)then Zcr ps m++[ge ps m]else Zcr ps m
theorem ZfD {ps:List Pr} {m:Nat} (h:m=0∨ ¬ ge ps m=ge ps (m-1)):Zcr ps (m+1)=Zcr ps m++[ge ps m]:=by rw[Zcr,if_pos h]
theorem Zeb {ps:List Pr} {m:Nat} (h0:0<m) (h:ge ps m=ge ps (m-1)):Zcr ps (m+1)=Zcr ps m:=by rw[Zcr,if_neg (by rintro(e | e);omega;exact e h)]
theorem ZjK (ps:List Pr):∀ m,(Zcr ps m).length≤m
 | 0=>by simp[Zcr]
 | m+1=>by
  have:=ZjK ps m
  rw[Zcr]
  split
  · simp only[List.length_append,List.length_singleton];omega
  · omega
def WkP (l:List Pr):Prop:=l.Pairwise fun x y=>ltP y x=false
theorem WkP.at {l:List Pr} (h:WkP l) {i j:Nat} (hij:i<j) (hj:j<l.length):ltP (ge l j) (ge l i)=false:=by
 rw[Xc hj,Xc (show i<l.length by omega)]
 exact List.pairwise_iff_getElem.1 h i j (by omega) hj hij
theorem ZdS {α:Type} [Inhabited α] {l:List α} {x:α} {m:Nat} (h:x∈l.take m):∃ i,i<m∧i<l.length∧x=ge l i:=by
 obtain⟨i,hi,rfl⟩:=List.getElem_of_mem h
 rw[List.length_take]at hi
 exact⟨i,by omega,by omega,by rw[Xc (by omega),List.getElem_take]⟩
theorem ZjJ {ps:List Pr} (h:WkP ps):∀ m,m≤ps.length→SrtP (Zcr ps m)∧∀ x,x∈Zcr ps m↔x∈ps.take m
 | 0,_=>⟨List.Pairwise.nil,fun x=>by simp[Zcr]⟩
 | m+1,hm=>by
  obtain⟨h1,h2⟩:=ZjJ h m (by omega)
  by_cases hc:m=0∨ ¬ ge ps m=ge ps (m-1)
  · rw[ZfD hc,ZO (by omega)]
    refine⟨List.pairwise_append.2 ⟨h1,List.pairwise_singleton _ _,fun x hx y hy=>?_⟩,fun x=>by simp only[List.mem_append,h2]⟩
    rw[List.mem_singleton.1 hy]
    obtain⟨i,hi,hil,rfl⟩:=ZdS ((h2 x).1 hx)
    have h3:=h.at hi (by omega)
    cases h4:ltP (ge ps i) (ge ps m)with
    | true=>rfl
    | false=>
     have he:=ZhZ h4 h3
     rcases hc with rfl | hc
     · omega
     · have h5:=h.at (show m-1<m by omega) (by omega)
       have h6:ltP (ge ps (m-1)) (ge ps m)=false:=by
        rcases Nat.lt_or_ge i (m-1)with h7 | h7
        · rw[←he];exact h.at h7 (by omega)
        · rw[show m-1=i by omega,he];exact Zh0 _
       exact absurd (ZhZ h5 h6) hc
  · have hm0:0<m:=by omega
    have he:ge ps m=ge ps (m-1):=by simpa [show ¬ m=0 by omega]using hc
    rw[Zeb hm0 he]
    refine⟨h1,fun x=>?_⟩
    rw[h2,ZO (by omega),List.mem_append]
    constructor
    · exact .inl
    · rintro(h3 | h3)
      · exact h3
      · rw[List.mem_singleton.1 h3,he]
        refine List.mem_of_getElem? (i:=m-1) ?_
        rw[List.getElem?_take,if_pos (by omega),List.getElem?_eq_getElem (by omega),Xc (by omega)]
def ZuO (l qs:List Pr):Prop:=SrtP qs∧(∀ p,p∈qs↔p∈l.map ZbK)∧qs.length≤l.length
theorem srt_of {l ps:List Pr} (hp:ps.Perm (l.map ZbK)) (hw:WkP ps):ZuO l (Zcr ps ps.length):=by
 obtain⟨h1,h2⟩:=ZjJ hw ps.length (Nat.le_refl _)
 refine⟨h1,fun p=>?_,?_⟩
 · rw[h2,List.take_length]
   exact hp.mem_iff
 · have h3:=ZjK ps ps.length
   have h4:=hp.length_eq
   rw[List.length_map]at h4
   omega
theorem SrtP.at {l:List Pr} (h:SrtP l) {i j:Nat} (hij:i<j) (hj:j<l.length):ltP (ge l i) (ge l j)=true:=by
 rw[Xc hj,Xc (show i<l.length by omega)]
 exact List.pairwise_iff_getElem.1 h i j (by omega) hj hij
theorem ZqM {qs:List Pr} {p:Pr} {i j:Nat} (hs:SrtP qs) (hij:j≤i) (h1:∀ k,k<i→ltP (ge qs k) p=true) (h2:∀ k,j≤k→k<qs.length→ltP (ge qs k) p=false):p∈qs↔i<qs.length∧ge qs i=p:=by
 constructor
 · intro hp
   obtain⟨k,hk,rfl⟩:=XQ hp
   have h3:i≤k:=Nat.le_of_not_lt fun h=>by have:=h1 k h;rw[Zh0]at this;cases this
   rcases Nat.lt_or_ge i k with h4 | h4
   · have:=hs.at h4 hk
     rw[h2 i hij (by omega)]at this
     cases this
   · have:i=k:=by omega
     subst this
     exact⟨hk,rfl⟩
 · rintro⟨h3,rfl⟩
   exact ZF h3
theorem Zro {x y:Pr} (h1:x.a=y.a) (h2:x.b=y.b):x=y:=by cases x;cases y;simp_all
section
variable {ps rs:List Pr} {i j k m:Nat} {x:Pr}
theorem ZtK (h:1≤ps.length):Zcr ps 1=ps.take 1:=by
 cases ps with
 | nil=>simp at h
 | cons y r=>rfl
theorem Zea (h:ps.length<2):ps=Zcr ps ps.length:=by
 match ps,h with
 | [],_=>rfl
 | [y],_=>rfl
theorem Zih (h:¬ k<ps.length) (hk:k≤ps.length) (h2:Zcr ps k=ps.take k):ps=Zcr ps ps.length:=by
 have:k=ps.length:=by omega
 subst this
 rw[h2,List.take_length]
theorem Zqh (hk:k<ps.length) (h2:Zcr ps k=ps.take k) (h3:¬ ge ps k=ge ps (k-1)):Zcr ps (k+1)=ps.take (k+1):=by
 rw[ZfD (.inr h3),h2,ZO hk]
theorem Zns (h:¬ i=j):ge (rs.set j x) i=ge rs i:=by
 simp only[ge,List.getD_eq_getElem?_getD]
 rw[List.getElem?_set_ne (fun e=>h e.symm)]
theorem take_set (hj:j<rs.length):(rs.set j x).take (j+1)=rs.take j++[x]:=by
 have h1:j< (rs.set j x).length:=by rw[List.length_set];exact hj
 rw[ZO h1,List.take_set_of_le (Nat.le_refl _)]
 congr 2
 rw[Xc h1,List.getElem_set_self]
end
def bsN (qs:List Pr) (p:Pr):Nat:=(qs.filter fun q=>ltP q p).length
section
variable {qs:List Pr} {p:Pr} {i j h:Nat}
theorem bs_pos (hij:j≤i) (hi:i≤qs.length) (h1:∀ k,k<i→ltP (ge qs k) p=true) (h2:∀ k,j≤k→k<qs.length→ltP (ge qs k) p=false):i=bsN qs p:=by
 have e1:(qs.take i).filter (fun q=>ltP q p)=qs.take i:=List.filter_eq_self.2 fun x hx=>by
  obtain⟨k,hk,_,rfl⟩:=ZdS hx
  exact h1 k hk
 have e2:(qs.drop i).filter (fun q=>ltP q p)=[]:=List.filter_eq_nil_iff.2 fun x hx=>by
  obtain⟨k,hk,rfl⟩:=List.mem_drop_iff_getElem.1 hx
  have:=h2 (i+k) (by omega) (by omega)
  rw[Xc (by omega)]at this
  simpa [Nat.add_comm]using this
 unfold bsN
 have e3:qs.filter (fun q=>ltP q p)=(qs.take i).filter (fun q=>ltP q p)++(qs.drop i).filter (fun q=>ltP q p):=by rw[←List.filter_append,List.take_append_drop]
 rw[e3,e1,e2,List.append_nil,List.length_take]
 omega
theorem bs_dec (hs:SrtP qs) (hij:j≤i) (h1:∀ k,k<i→ltP (ge qs k) p=true) (h2:∀ k,j≤k→k<qs.length→ltP (ge qs k) p=false):(decide ((i:Int)< (qs.length:Int))&&decide (Ze8 (ge qs i) p=0))=decide (p∈qs):=by
 rw[←Bool.decide_and]
 congr 1
 rw[Zql]
 exact propext ((ZqM hs hij h1 h2).trans ⟨fun⟨a,b⟩=>⟨by omega,b⟩,fun⟨a,b⟩=>⟨by omega,b⟩⟩).symm
theorem bs_up (hs:SrtP qs) (hh:h<qs.length) (hc:Ze8 (ge qs h) p<0):∀ k,k<h+1→ltP (ge qs k) p=true:=fun k hk=>by
 rw[cmpT_lt]at hc
 rcases Nat.lt_or_ge k h with h3 | h3
 · exact Q9 (hs.at h3 hh) hc
 · rw[show k=h by omega];exact hc
theorem ZuH (hs:SrtP qs) (hc:¬ Ze8 (ge qs h) p<0):∀ k,h≤k→k<qs.length→ltP (ge qs k) p=false:=fun k hk hkl=>by
 rw[cmpT_lt]at hc
 have hc:ltP (ge qs h) p=false:=by simpa using hc
 rcases Nat.lt_or_ge h k with h3 | h3
 · cases h4:ltP (ge qs k) p with
   | false=>rfl
   | true=>have:=Q9 (hs.at h3 hkl) h4;rw[hc]at this;cases this
 · rw[show k=h by omega];exact hc
end

section
variable {α β:Type} [Inhabited α] {f:α→List β} {g:α→β} {xs:List α} {k:Nat} {q:List β}
theorem Zh9 (hk:k<xs.length):(xs.take (k+1)).flatMap f=(xs.take k).flatMap f++f (ge xs k):=by
 rw[ZO hk,List.flatMap_append]
 simp
theorem ZrK (hk:k<xs.length) (h:q<+:f (ge xs k)):(xs.take k).flatMap f++q<+:xs.flatMap f:=by
 obtain⟨r,hr⟩:=h
 refine⟨r++(xs.drop (k+1)).flatMap f,?_⟩
 have e:xs.flatMap f=((xs.take (k+1))++xs.drop (k+1)).flatMap f:=by rw[List.take_append_drop]
 rw[e,List.flatMap_append,Zh9 hk,←hr]
 simp
theorem Ztd (hk:k<xs.length):(xs.take k).map g++[g (ge xs k)]<+:xs.map g:=by
 refine⟨(xs.drop (k+1)).map g,?_⟩
 have e:xs.map g=((xs.take (k+1))++xs.drop (k+1)).map g:=by rw[List.take_append_drop]
 rw[e,List.map_append,Zau hk]
end
def Zos (l:List Bd) (us:List ByteArray) (s:ByteArray):List ByteArray:=QS (XA (Yp l) s) (Qd us)
def rqB (l:List Bd) (us:List ByteArray) (p:Pr) (x:ByteArray):List Pr:=(Zos l us p.b).map fun y=>ZbK ⟨x,y⟩
def rqA (l:List Bd) (us:List ByteArray) (p:Pr):List Pr:=(Zos l us p.a).flatMap (rqB l us p)
theorem Zrj (l:List Bd) (ap:List Pr) (us:List ByteArray):ZoX l ap us=ap.flatMap (rqA l us):=rfl
theorem rq_pre {l:List Bd} {us:List ByteArray} {ap:List Pr} {k j i:Nat} (hk:k<ap.length) (hj:j< (Zos l us (ge ap k).a).length) (hi:i< (Zos l us (ge ap k).b).length):
 (ap.take k).flatMap (rqA l us)++((Zos l us (ge ap k).a).take j).flatMap (rqB l us (ge ap k))++((Zos l us (ge ap k).b).take i).map (fun y=>ZbK ⟨ge (Zos l us (ge ap k).a) j,y⟩)++[ZbK ⟨ge (Zos l us (ge ap k).a) j,ge (Zos l us (ge ap k).b) i⟩]<+:ZoX l ap us:=by
 rw[Zrj,List.append_assoc,List.append_assoc]
 refine ZrK hk (ZrK hj ?_)
 exact Ztd (g:=fun y=>ZbK ⟨ge (Zos l us (ge ap k).a) j,y⟩) hi
theorem map_of {l rs:List Pr} (h1:rs.length=l.length) (h2:∀ i,i<l.length→ge rs i=ZbK (ge l i)):rs=l.map ZbK:=by
 apply List.ext_getElem (by simpa using h1)
 intro i hi hi2
 have h3:i<l.length:=by omega
 have:=h2 i h3
 rw[Xc hi,Xc h3]at this
 simpa using this
section
variable {l:List Bd} {ap wd qs pre:List Pr} {us:List ByteArray} {p:Pr}
theorem ZrW (h:ZuO wd qs):(!decide (p∈qs)||decide (p.a=p.b))=Zhs wd p:=by
 unfold Zhs
 rw[show decide (p∈qs)=decide (p∈wd.map ZbK)from decide_eq_decide.2 (h.2.1 p)]
theorem ZuI (hp:(pre++[p])<+:ZoX l ap us) (h1:∀ x∈pre,Zhs wd x=false) (h2:Zhs wd p=true):Zod l ap us wd=some p:=by
 obtain⟨r,hr⟩:=hp
 unfold Zod
 rw[←hr,List.append_assoc,List.find?_append,List.find?_eq_none.2 (fun x hx=>by simp[h1 x hx])]
 simp[h2]
theorem ZqN (h1:∀ x∈ZoX l ap us,Zhs wd x=false):Zod l ap us wd=none:=List.find?_eq_none.2 fun x hx=>by simp[h1 x hx]
theorem Zpg (h1:∀ x∈pre,Zhs wd x=false) (h2:Zhs wd p=false):∀ x∈pre++[p],Zhs wd x=false:=fun x hx=>by
 rcases List.mem_append.1 hx with hx | hx
 · exact h1 x hx
 · rw[List.mem_singleton.1 hx];exact h2
theorem Zri {m:Nat} (hu:∀ s∈us,s.size≤m) (h:p∈ZoX l ap us):p.a.size≤m∧p.b.size≤m:=by
 have hocc:∀ t x,x∈QS t (Qd us)→x∈us:=fun t x hx=>mem_lstL.1 (mem_occL.1 hx).2
 unfold ZoX at h
 obtain⟨q,_,h⟩:=List.mem_flatMap.1 h
 obtain⟨x,hx,h⟩:=List.mem_flatMap.1 h
 obtain⟨y,hy,rfl⟩:=List.mem_map.1 h
 have h1:=hu x (hocc _ x hx)
 have h2:=hu y (hocc _ y hy)
 unfold ZbK
 split
 · exact⟨h2,h1⟩
 · exact⟨h1,h2⟩
end
end Go.Proofs.YtapelgeodldlcaaGreatDoor
set_option maxHeartbeats 8000000
set_option maxRecDepth 100000
namespace Go.Proofs.YtapelgeodldlcaaGreatDoor
open Go.RowKit
theorem ZkF {J:World→Prop} (hJ:Stab J) (v:Value) (ps:List Pr) (hn:ps.length≤9223372036854775807):FnM (ι:=Value) Tryz.prog J 169 [] [.lit v] [OB.row v 115 2 (ps.map prC)] (fun i'=>.lit (i')) (fun i'=>[OB.row i' 115 2 ((Zcr ps ps.length).map prC)]):=by
 refine ZX (N:=61) Tryz.func169 rfl rfl (lb rfl) fun S w0 R hS hJ0 hH=>?_
 refine Z6 (B:=St All (SO S (OB.row v 115 2 (ps.map prC)::R)) w0 61 [(0,.lit v)] (XO J S w0.heap.size (OB.row v 115 2 (ps.map prC)::R))) ?_ fun a w h=>h
 refine qso tb hJ [0] [_] [_] ?_
 refine Zj (ZI tb hJ [0,1002] [_,.int (ps.length:Nat),_] [1] [_,_] rfl ⟨fun _ _ _ hx hl _=>Zde (by rw[List.length_map]) Ya rfl (Zd hx (mo 0 rfl)) (hl.D 0 6 rfl rfl) hx,trivial⟩ ?_)
 refine cj 1 (fun hb1=>?_) fun hb1=>?_
 try simp at hb1
 refine qso tb hJ [1001] [_,_] [_] ?_
 refine tw (ob0 (congrArg (fun z'=>OB.row v 115 2 ((z').map prC)) (show ps=(Zcr ps ps.length)from by first | exact Zea (by omega) | exact(f2_5.trans (by congr 1;omega)) | exact Zih (by omega) f1_2 f1_3))) ?_
 exact Zg (fun a w h=>ZQ  (m:=0) v rfl h rfl rfl)
 try simp at hb1
 refine Zc (nx (Zj (qso tb hJ [0,1000] [_] [_,_] ?_)))
 refine Zf (lpo (ι:=Nat) (fun k=>(1≤k)∧(k≤ps.length)∧(Zcr ps k=ps.take k)) (fun _=>(OB.row v 115 2 (ps.map prC)::R)) (fun k=>[(3,.int (k:Nat))]) (fun k=>ps.length-k) [0,1] [_] 1 ⟨by omega,by omega,ZtK (by omega)⟩ ?_)
 rintro k ⟨f1_1,f1_2,f1_3⟩
 refine Zj (ZI tb hJ [0,1,1003] [_,_,.int (ps.length:Nat),_] [2] [_,_,_] rfl ⟨fun _ _ _ hx hl _=>Zde (by rw[List.length_map]) Ya rfl (Zd hx (mo 0 rfl)) (hl.D 1 11 rfl rfl) hx,trivial⟩ ?_)
 refine cj 2 (fun hb2=>?_) fun hb2=>?_
 try simp at hb2
 refine Zc (nx (Zj (Zf (ZI tb hJ [0,1,1009] [_,_,.lit (X5 v (k*2)),.agg (prC (ge ps k)),_,_,.int (k-1:Nat),.lit (X5 v ((k-1)*2)),.agg (prC (ge ps (k-1))),.bool (decide ((ge ps k).a=(ge ps (k-1)).a)&&decide ((ge ps k).b=(ge ps (k-1)).b))] [2,3,6,7,8,9] [_,_,_] rfl ⟨fun _ _ _ hx hl _=>Y8 (i:=(k:Int)) ZD rfl (Zd hx (mo 0 rfl)) (hl.D 0 16 rfl rfl) (hl.D 1 17 rfl rfl) (Int.natCast_nonneg _) (by rw[List.length_map];exact Int.ofNat_lt.2 sfz) hx,fun _ _ _ hx hl _=>Qb (i:=k) Xd rfl (Zd hx (mo 0 rfl)) (hl.D 2 18 rfl rfl) (Q7 (xs:=ps) (k:=k) sfz) rfl hx,fun _ _ _ hx hl _=>Zrl (i:=k) (j:=1) rfl (hl.D 5 21 rfl rfl) (Rel.of_lit (Go.Value.int Go.IntKind.i64 1)) sfz sfz hx,fun _ _ _ hx hl _=>Y8 (i:=((k-1:Nat):Int)) ZD rfl (Zd hx (mo 0 rfl)) (hl.D 4 20 rfl rfl) (hl.D 6 22 rfl rfl) (Int.natCast_nonneg _) (by rw[List.length_map];exact Int.ofNat_lt.2 sfz) hx,fun _ _ _ hx hl _=>Qb (i:=k-1) Xd rfl (Zd hx (mo 0 rfl)) (hl.D 7 23 rfl rfl) (Q7 (xs:=ps) (k:=k-1) sfz) rfl hx,fun _ _ _ hx hl _=>r_eqlP ZnA rfl (hl.D 3 19 rfl rfl) (hl.D 8 24 rfl rfl) hx,trivial⟩ ?_))))
 refine cj 2 (fun hb3=>?_) fun hb3=>?_
 try simp at hb3
 have e3:ge ps k=ge ps (k-1):=Zro hb3.1 hb3.2
 refine ZI tb hJ [0,1,1003] [_,_,.lit (ZeF v k 2),_] [2] [_,_,_] rfl ⟨fun _ _ _ hx hl _=>Zgk (lo:=k) ZD rfl (Zd hx (mo 0 rfl)) (hl.D 0 26 rfl rfl) (hl.D 1 27 rfl rfl) (by rw[List.length_map];exact sfz) hx,trivial⟩ ?_
 refine Zj (qso tb hJ [0,1,2,1000] [_] [_,_,_,_] ?_)
 refine Zf (lpo (ι:=Nat×Nat×(List Pr)) (fun(m,j,rs)=>(1≤m)∧(k+m≤ps.length)∧(rs.length=ps.length)∧(∀ i,k+m-1≤i→i<ps.length→ge rs i=ge ps i)∧(rs.take j=Zcr ps (k+m))∧(j≤k+m-1)∧(k≤j)) (fun(_,_,rs)=>(OB.row v 115 2 (rs.map prC)::R)) (fun(m,j,_)=>[(5,.int (m:Nat)),(3,.int (j:Nat))]) (fun(m,_,_)=>ps.length-(k+m)) [0,2,3,1] [_,_] (1,k,ps) ⟨Nat.le_refl _,by omega,rfl,fun _ _ _=>rfl,by rw[Zeb (by omega) e3,f1_3],Nat.le_refl _,Nat.le_refl _⟩ ?_)
 rintro⟨m,j,rs⟩ ⟨f2_1,f2_2,f2_3,f2_4,f2_5,f2_6,f2_7⟩
 refine Zj (ZI tb hJ [0,1,2,3,1003] [_,_,.int (rs.length-k:Nat),_] [2] [_,_,_,_,_] rfl ⟨fun _ _ _ hx hl _=>Zo5 (by rw[List.length_map]) Ya rfl (Zd hx (mo 0 rfl)) (hl.D 1 30 rfl rfl) hx,trivial⟩ ?_)
 refine cj 4 (fun hb4=>?_) fun hb4=>?_
 try simp at hb4
 refine Zc (nx (Zj (Zf (ZI tb hJ [0,1,2,3,1009] [_,_,.lit (X5 v ((k+m)*2)),.agg (prC (ge rs (k+m))),_,_,.int (m-1:Nat),.lit (X5 v ((k+(m-1))*2)),.agg (prC (ge rs (k+(m-1)))),.bool (!(decide ((ge rs (k+m)).a=(ge rs (k+(m-1))).a)&&decide ((ge rs (k+m)).b=(ge rs (k+(m-1))).b)))] [2,3,6,7,8,9] [_,_,_,_,_] rfl ⟨fun _ _ _ hx hl _=>Q8 (lo:=k) (i:=(m:Int)) ZD rfl (Zd hx (mo 0 rfl)) (hl.D 0 35 rfl rfl) (hl.D 1 36 rfl rfl) (Int.natCast_nonneg _) (by rw[List.length_map];exact sfz) hx,fun _ _ _ hx hl _=>Qb (i:=(k+m)) Xd rfl (Zd hx (mo 0 rfl)) (hl.D 2 37 rfl rfl) (Q7 (xs:=rs) (k:=(k+m)) sfz) rfl hx,fun _ _ _ hx hl _=>Zrl (i:=m) (j:=1) rfl (hl.D 5 40 rfl rfl) (Rel.of_lit (Go.Value.int Go.IntKind.i64 1)) sfz sfz hx,fun _ _ _ hx hl _=>Q8 (lo:=k) (i:=((m-1:Nat):Int)) ZD rfl (Zd hx (mo 0 rfl)) (hl.D 4 39 rfl rfl) (hl.D 6 41 rfl rfl) (Int.natCast_nonneg _) (by rw[List.length_map];exact sfz) hx,fun _ _ _ hx hl _=>Qb (i:=(k+(m-1))) Xd rfl (Zd hx (mo 0 rfl)) (hl.D 7 42 rfl rfl) (Q7 (xs:=rs) (k:=(k+(m-1))) sfz) rfl hx,fun _ _ _ hx hl _=>Zrn ZnA rfl (hl.D 3 38 rfl rfl) (hl.D 8 43 rfl rfl) hx,trivial⟩ ?_))))
 refine cj 4 (fun hb5=>?_) fun hb5=>?_
 try simp at hb5
 have e4:¬ ge ps (k+m)=ge ps (k+m-1):=fun e=>by rw[←f2_4 _ (by omega) (by omega),←f2_4 _ (Nat.le_refl _) (by omega)]at e;rw[show k+(m-1)=k+m-1 by omega,e]at hb5;simp at hb5
 refine tsq ?_
 refine snK 4 tb rfl ?_
 refine sq (.lit (X5 v ((k+m)*2))) rfl rfl (lb rfl) (fun _ _ h=>Q8 (lo:=k) (i:=(m:Int)) ZD rfl (Zd h.x (mo 0 rfl)) (h.get 1 rfl) (h.get 0 rfl) (Int.natCast_nonneg _) (by rw[List.length_map];exact sfz) h.x) ?_
 refine sq (.agg (prC (ge rs (k+m)))) rfl rfl (lb rfl) (fun _ _ h=>Qb (i:=(k+m)) Xd rfl (Zd h.x (mo 0 rfl)) (h.get 0 rfl) (Q7 (xs:=rs) (k:=(k+m)) sfz) rfl h.x) ?_
 refine sq (.lit (X5 v (j*2))) rfl rfl (lb rfl) (fun _ _ h=>Y8 (i:=(j:Int)) ZD rfl (Zd h.x (mo 0 rfl)) (h.get 5 rfl) (h.get 4 rfl) (Int.natCast_nonneg _) (by rw[List.length_map];exact Int.ofNat_lt.2 sfz) h.x) ?_
 refine QN (i:=j) hJ hJ0 Xf rfl rfl rfl (by rw[List.length_map];exact sfz) rfl (fun a w h=>⟨(h.get 0 rfl),(h.get 1 rfl)⟩) ?_
 rw[show(rs.map prC).set j (prC (ge rs (k+m)))=(rs.set j (ge rs (k+m))).map prC from List.map_set.symm]
 refine seK [7,8,9,10] [_,_,_,_] rfl ?_
 refine nx (YQ tb hJ [0,1,2,1002] [_,.int (j+1:Nat),_] [1] [_,_,_,_] rfl ⟨Yv,trivial⟩ ?_)
 refine nx (YQ tb hJ [0,1,3,1002] [_,.int (m+1:Nat),_] [1] [_,_,_,_] rfl ⟨Yv,trivial⟩ ?_)
 exact Xi (m+1,j+1,rs.set j (ge rs (k+m))) [0,1,3,2] ⟨by omega,by omega,by rw[List.length_set];exact f2_3,fun i h1 h2=>by rw[Zns (by omega)];exact f2_4 i (by omega) h2,by rw[take_set (by omega),f2_5,f2_4 _ (by omega) (by omega)];exact(ZfD (.inr e4)).symm,by omega,by omega⟩
 try simp at hb5
 have e4:ge ps (k+m)=ge ps (k+m-1):=by rw[←f2_4 _ (by omega) (by omega),←f2_4 (k+m-1) (Nat.le_refl _) (by omega)];rw[show k+(m-1)=k+m-1 by omega]at hb5;exact Zro hb5.1 hb5.2
 refine Zc (nx (YQ tb hJ [0,1,3,1002] [_,.int (m+1:Nat),_] [1] [_,_,_,_] rfl ⟨Yv,trivial⟩ ?_))
 exact Xi (m+1,j,rs) [0,1,3,2] ⟨by omega,by omega,f2_3,fun i h1 h2=>f2_4 i (by omega) h2,by rw[f2_5];exact(Zeb (by omega) e4).symm,by omega,f2_7⟩
 try simp at hb4
 refine Zx (nx (tsq ?_))
 refine snK 2 tb rfl ?_
 refine sq (.lit (ZeF v j 2)) rfl rfl (lb rfl) (fun _ _ h=>Zgk (lo:=j) ZD rfl (Zd h.x (mo 0 rfl)) (h.get 1 rfl) (h.get 0 rfl) (by rw[List.length_map];exact sfz) h.x) ?_
 refine Zff (lo:=j) Zdn Ya (by decide) hJ hJ0 rfl rfl rfl (by rw[List.length_map];exact sfz) (fun a w h=>(h.get 0 rfl)) ?_
 rw[←List.map_take]
 refine seK [3,6] [_,_] rfl ?_
 refine nx (ZI tb hJ [1003] [_,_,.lit (Za6 v j),_] [2] [_] rfl ⟨fun _ _ _ hx hl _=>Zgl (m:=j) ZD rfl (Zd hx (mo 0 rfl)) (by first | rfl | (rw[List.length_map];exact sfz)) (hl.D 0 57 rfl rfl) (hl.D 1 58 rfl rfl) hx,trivial⟩ ?_)
 refine tw (ob0 (congrArg (fun z'=>OB.row (Za6 v j) 115 2 ((z').map prC)) (show(rs.take j)=(Zcr ps ps.length)from by first | exact Zea (by omega) | exact(f2_5.trans (by congr 1;omega)) | exact Zih (by omega) f1_2 f1_3))) ?_
 exact Zg (fun a w h=>ZQ  (m:=0) (Za6 v j) rfl h rfl rfl)
 try simp at hb3
 have e3:¬ ge ps k=ge ps (k-1):=fun e=>by simp[e]at hb3
 refine Zc (nx (YQ tb hJ [0,1002] [_,.int (k+1:Nat),_] [1] [_,_] rfl ⟨Yv,trivial⟩ ?_))
 exact Xi (k+1) [0,1] ⟨by omega,by omega,Zqh (by omega) f1_3 e3⟩
 try simp at hb2
 refine Zx (nx (qso tb hJ [1001] [_,_] [_] ?_))
 refine tw (ob0 (congrArg (fun z'=>OB.row v 115 2 ((z').map prC)) (show ps=(Zcr ps ps.length)from by first | exact Zea (by omega) | exact(f2_5.trans (by congr 1;omega)) | exact Zih (by omega) f1_2 f1_3))) ?_
 exact Zg (fun a w h=>ZQ  (m:=0) v rfl h rfl rfl)
theorem p_bsP {J:World→Prop} (hJ:Stab J) (xs:List Pr) (p:Pr) (f:FuncId) (caps:List AV) (hf:∀ x' y',FnR Tryz.prog J f [] ([.agg (prC (x')),.agg (prC (y'))]++caps) (.int (Ze8 x' y'))) (hk0:Zl Tryz.prog f) (hs:SrtP xs) (hn:xs.length≤4000000000000000000):Fn Tryz.prog J 157 [.rd (Xm xs),.agg (prC p),.fn f caps] (.tup [.int (bsN xs p:Nat),.bool (decide (p∈xs))]):=by
 refine Zu (N:=49) Tryz.func157 rfl rfl (lb rfl) fun S w0 hS hJ0=>?_
 clear hJ0
 refine ln 0 fun hl1=>?_
 refine hqs tb hJ [0,2,1000] [.ptr (prC p),_,_] [0] [_,_,_] rfl ⟨fun _ _ hk hx hl _=>YP rfl (hl.env 1 1 _ rfl rfl) (hS _ hk.size) (js hJ hx),trivial⟩ ?_
 refine hqs tb hJ [0,1,2,1002] [_,.int (xs.length:Nat),_] [1] [_,_,_,_] rfl ⟨YG Ya,trivial⟩ ?_
 refine qs tb hJ [0,1,2,3,1001,1002] [_,_,_] [_,_,_,_,_,_] ?_
 refine Zj (Zf (lp (ι:=Nat×Nat) (fun(i,j)=>(i≤j)∧(j≤xs.length)∧(∀ k,k<i→ltP (ge xs k) p=true)∧(∀ k,j≤k→k<xs.length→ltP (ge xs k) p=false)) (fun(i,j)=>[(9,.int (i:Nat)),(10,.int (j:Nat))]) (fun(i,j)=>j-i) [0,1,2,3,4,5] [_,_,_,_] (0,xs.length) ⟨Nat.zero_le _,Nat.le_refl _,fun k hk=>by omega,fun k hk hl=>by omega⟩ ?_))
 rintro⟨i,j⟩ ⟨f1_1,f1_2,f1_3,f1_4⟩
 refine Zj (qs tb hJ [0,1,2,3,4,5,1002] [_,_,_] [_,_,_,_,_,_,_] ?_)
 refine cj 6 (fun hb1=>?_) fun hb1=>?_
 try simp at hb1
 refine Zc (nx (Zf (hqs tb hJ [0,1,2,3,4,5,1006] [_,_,.int (i+j:Nat),.rd (.lit (.int .u64 (((i+j):Nat):Int))),.rd (.lit (.int .u64 ((((i+j)/2):Nat):Int))),.int (((i+j)/2):Nat),_] [2,3,4,5] [_,_,_,_,_,_,_] rfl ⟨Yv,fun _ _ _ hx hl _=>r_toU (k:=(i+j)) X9 ZcI rfl (hl.D 2 20 rfl rfl) sfz hx,fun _ _ _ hx hl _=>r_half (k:=(i+j)) rfl (hl.D 3 21 rfl rfl) (Rel.of_lit (Go.Value.int Go.IntKind.u64 1)) hx,fun _ _ _ hx hl _=>r_ofU (k:=((i+j)/2)) ZcI X9 rfl (hl.D 4 22 rfl rfl) sfz hx,trivial⟩ ?_)))
 refine hqs tb hJ [0,1,2,3,4,5,6,1007] [_,_,_,.ptr (prC (ge xs ((i+j)/2))),_,_,.int (Ze8 (ge xs ((i+j)/2)) p),_] [3,6] [_,_,_,_,_,_,_,_] rfl ⟨iIx ZD,fun _ _ hk hx hl _=>Zbu (hf (ge xs ((i+j)/2)) p) hk0 rfl (hl.D 0 24 rfl rfl) (nm hS hk) (hx) Zq (Za (hl.D 4 28 rfl rfl) (Za (hl.D 5 29 rfl rfl) Ze)) (js hJ hx),trivial⟩ ?_
 refine cj 7 (fun hb2=>?_) fun hb2=>?_
 try simp at hb2
 refine hqp tb hJ [0,1,2,3,5,1002] [_,.int (((i+j)/2)+1:Nat),_] [1] [_,_,_,_,_,_] rfl ⟨Yv,trivial⟩ ?_
 exact lpE (((i+j)/2)+1,j) [0,1,2,3,5,4] ⟨by omega,by omega,bs_up hs (by omega) hb2,f1_4⟩
 try simp at hb2
 refine qp tb hJ [0,1,2,3,4,1001] [_,_] [_,_,_,_,_,_] ?_
 exact lpE (i,((i+j)/2)) [0,1,2,3,4,5] ⟨by omega,by omega,f1_3,ZuH hs (by omega)⟩
 try simp at hb1
 refine Zx (nx (hqs tb hJ [1014,1015] [_,_,_,_,_,_,_,_,.ptr (prC (ge xs i)),_,_,.int (Ze8 (ge xs i) p),_,_,_,_] [8,11] [_,_] rfl ⟨gIx ZD (hk:=fun(hc':((decide ((i:Int)< (xs.length:Int)))==true)=true)=>by(try simp at hc');first | omega | (simp;omega) | grind[ZF]),fun _ _ hk hx hl hc=>Zbu (hf (ge xs i) p) hk0 rfl (hl.D 5 40 rfl hc) (nm hS hk) (hx) Zq (Za (hl.D 9 44 rfl hc) (Za (hl.D 10 45 rfl hc) Ze)) (js hJ hx),trivial⟩ ?_))
 exact Zg (fun a w h=>X1 (m:=0) (k:=1) rfl h rfl rfl (eI (by rw[bs_pos (p:=p) (by omega) (by omega) f1_3 f1_4])) (eB (bs_dec hs (by omega) f1_3 f1_4)))
section
variable {P:Program} {n:Rn} {S:Nat→Prop} {X:World→Prop} {o:Oper} {a:Act} {w:World} {t u:TypeId} {x y:Operand}
theorem r_mul {i j:Int} (hop:o.op= .binOp .mul t x y u) (h1:Rel S w (.int i) (a.eval x)) (h2:Rel S w (.int j) (a.eval y)) (hlo: -9223372036854775808≤i*j) (hhi:i*j≤9223372036854775807) (hx:X w):Z5 n P o a w (Yu S X (.int (i*j)) w):=
 ZaG True.intro (Xb ..) (by simp only[binOp,ne_eq,not_true,if_false,Op.intArith,IntWalk.i64_in _ ⟨hlo,hhi⟩];rfl) hop h1 h2 hx
theorem Zr3 {i:Int} (h0:0≤i) (h1:i<256):IntKind.u8.wrap i=i:=by
 have h256:i%256=i:=by omega
 simp[IntKind.wrap,IntKind.bits,IntKind.signed,h256]
theorem Zrk {i j:Int} (hop:o.op= .binOp .sub t x y u) (h1:Rel S w (.rd (.lit (.int .u8 i))) (a.eval x)) (h2:Rel S w (.rd (.lit (.int .u8 j))) (a.eval y)) (hlo:0≤i-j) (hhi:i-j<256) (hx:X w):Z5 n P o a w (Yu S X (.rd (.lit (.int .u8 (i-j)))) w):=
 ZaG True.intro (Xb ..) (by simp only[binOp,ne_eq,not_true,if_false,Op.intArith,Zr3 hlo hhi];rfl) hop h1 h2 hx
theorem Zi4 {s d:TypeId} {i:Int} (hs:P.underlying s=some (.int .u8)) (hd:P.underlying d=some (.int .i64)) (hop:o.op= .convert s d x) (h:Rel S w (.rd (.lit (.int .u8 i))) (a.eval x)) (h0:0≤i) (h1:i<256) (hx:X w):Z5 n P o a w (Yu S X (.int i) w):=by
 obtain⟨k,rfl⟩:∃ k:Nat,i=(k:Int):=⟨i.toNat,by omega⟩
 have hu:(UInt8.ofNat k).toNat=k:=by rw[UInt8.toNat_ofNat'];exact Nat.mod_eq_of_lt (by omega)
 have:=Zmd (n:=n) (X:=X) (b:=UInt8.ofNat k) hs hd hop (by rw[hu];exact h) hx (S:=S)
 rw[hu]at this
 exact this
end
section
variable {P:Program} {J:World→Prop} {N:Nat}
def YldE {α κ μ σ:Type} (P:Program) (J:World→Prop) (S:Nat→Prop) (w0:World) (l:Nat) (enc:α→Value) (xs:List α) (I:List α→κ→List OB) (pv:μ→Value) (O3:μ→List OB) (O4:σ→List OB):Prop:=
 ∀(m:Nat) (R':List OB) (pre:List α) (x:α) (k:κ) (w1:World),(pre++[x])<+:xs→Keeps All w0 w1→XO J S w0.heap.size (I pre k++R') w1→YieldAt Fence.wide m P l #[enc x] w1 (rndE J S w0 (I (pre++[x])) pv O3 O4 R')
theorem Zg0 {α:Type} {g:FuncId} {fn:Func} {c:Code} {avc:List AV} {enc:α→Value} {xs:List α} {fl:Option Value} {Hs:List OB} (hf:P.funcs[g]?=some fn) (hb:fn.body=some c) (hN:fn.ntmps=N) (hl:avc.length+1≤N)
 (h:∀(S:Nat→Prop) (w0:World) (R:List OB) (l:Nat) (κ μ σ:Type) (I:List α→κ→List OB) (pv:μ→Value) (O3:μ→List OB) (O4:σ→List OB) (k0:κ),(∀ b,w0.heap.size≤b→S b)→J w0→Has Hs S w0→YldE P J S w0 l enc xs I pv O3 O4→
  Tr 5 P (St All (SO S (I [] k0++R)) w0 N (Xl 0 (.lit (.func (.yield l) #[] #[])::avc)) (XO J S w0.heap.size (I [] k0++R))) c (bodyPost P fn (Zrg J S w0 (I xs) pv O3 O4 R fl))):SeqE P J g Hs avc enc xs fl:=by
 intro S w0 R w l n us κ μ σ I pv O3 O4 k0 hS hJ hH hk hx hus hY
 have ha:RelL (SO S (I [] k0++R)) w (.lit (.func (.yield l) #[] #[])::avc) (.func (.yield l) #[] #[]::us):=Za (Rel.of_lit _) hus
 obtain⟨g1,g2⟩:=QF (N:=N) (by simpa using hl) hN ha
 have he:(#[Value.func (.yield l) #[] #[]]++us.toArray)=(Value.func (.yield l) #[] #[]::us).toArray:=by simp
 rw[he]
 have hc:Calls P g (Value.func (.yield l) #[] #[]::us).toArray w (Zrg J S w0 (I xs) pv O3 O4 R fl):=(callsIn_wide (n:=5)).1 (callsIn_of_wp hf hb trivial (h S w0 R l κ μ σ I pv O3 O4 k0 hS hJ hH hY _ _ ⟨rfl,g1,hk,hx,g2⟩) rfl)
 exact callsIn_wide.2 hc
variable {α κ μ σ:Type} {S:Nat→Prop} {w0 w:World} {a:Act} {env:List (Nat×AV)} {R:List OB} {I:List α→κ→List OB} {pv:μ→Value} {O3:μ→List OB} {O4:σ→List OB} {xs pre:List α} {fl:Option Value} {fn:Func}
theorem ZrF (hf:fl=none) (he:pre=xs) (k:κ) (hr:fn.results= #[]) (h:St All (SO S (I pre k++R)) w0 N env (XO J S w0.heap.size (I pre k++R)) a w):bodyPost P fn (Zrg J S w0 (I xs) pv O3 O4 R fl) .ret a w:=by
 subst he
 exact⟨h.defs,.tuple #[],by simp[results,hr,Sem.run_pure],.inl ⟨hf,_,k,rfl,h.keep,h.x⟩⟩
theorem Zjt (s:σ) (hr:fn.results= #[]) (h:St All (SO S (O4 s++R)) w0 N env (XO J S w0.heap.size (O4 s++R)) a w):bodyPost P fn (Zrg J S w0 (I xs) pv O3 O4 R fl) .ret a w:=
 ⟨h.defs,.tuple #[],by simp[results,hr,Sem.run_pure],.inr (.inr (.inl ⟨_,s,rfl,h.keep,h.x⟩))⟩
theorem itPan (q:μ):∀ a w,St All (SO S (O3 q++R)) w0 N env (XO J S w0.heap.size (O3 q++R)) a w→a.defers=[]∧Zrg J S w0 (I xs) pv O3 O4 R fl (.panicked (pch (pv q))) w:=fun _ _ h=>
 ⟨h.defs,.inr (.inr (.inr ⟨q,rfl,h.keep,h.x⟩))⟩
theorem Zju {v:Value} (hf:fl=some v) (he:pre=xs) (k:κ):∀ a w,St All (SO S (I pre k++R)) w0 N env (XO J S w0.heap.size (I pre k++R)) a w→a.defers=[]∧Zrg J S w0 (I xs) pv O3 O4 R fl (.panicked (pch v)) w:=fun _ _ h=>by
 subst he
 exact⟨h.defs,.inr (.inl ⟨v,k,hf,rfl,h.keep,h.x⟩)⟩
theorem pfx {x:α} {r:List α}:(pre++[x])<+:(pre++x::r):=⟨r,by simp⟩
theorem Zl2 {T:Nat→Prop} {v:Value} {x:Lt} (h:Rel T w (.agg (ltC x)) v):v=ZuQ x:=by
 simp only[Rel]at h
 obtain⟨us,rfl,hr⟩:=h
 match us,hr with
 | [u1,u2],⟨h1,h2,_⟩=>
  rw[h1.of_lit,h2.of_lit]
  rfl
end
section
variable {N:Nat} {J:World→Prop} {S:Nat→Prop} {w0 w:World} {a:Act} {env:List (Nat×AV)} {B R:List OB}
theorem Zmr (A B R:List OB):(A++(B++R)).Perm (B++(A++R)):=by
 rw[←List.append_assoc,←List.append_assoc]
 exact List.Perm.append_right R List.perm_append_comm
theorem ZiL {O O':List OB} (hp:O.Perm O') (h:St All (SO S O) w0 N env (XO J S w0.heap.size O) a w):St All (SO S O') w0 N env (XO J S w0.heap.size O') a w:=
 ⟨h.defs,h.size,h.keep,Yt hp h.x,fun p hm=>⟨(h.env p hm).1,(h.env p hm).2.sub fun _ _ hs=>hs.perm hp⟩⟩
theorem ZlL (A:List OB) (h:St All (SO S (A++(B++R))) w0 N env (XO J S w0.heap.size (A++(B++R))) a w):St All (SO S (B++(A++R))) w0 N env (XO J S w0.heap.size (B++(A++R))) a w:=ZiL (Zmr A B R) h
theorem Zdz (A:List OB) (h:St All (SO S (B++(A++R))) w0 N env (XO J S w0.heap.size (B++(A++R))) a w):St All (SO S (A++(B++R))) w0 N env (XO J S w0.heap.size (A++(B++R))) a w:=ZiL (Zmr B A R) h
theorem ZiM:∀(A:List OB) {O:List OB},St All (SO S (A++O)) w0 N env (XO J S w0.heap.size (A++O)) a w→St All (SO S O) w0 N env (XO J S w0.heap.size O) a w
 | [],_,h=>h
 | _::A,_,h=>ZiM A (Zy h)
theorem Znk {α κ μ σ:Type} {I:List α→κ→List OB} {pv:μ→Value} {O3:μ→List OB} {O4:σ→List OB} {xs:List α} {fl:Option Value} (A:List OB) (q:μ):∀ a w,St All (SO S (O3 q++(A++R))) w0 N env (XO J S w0.heap.size (O3 q++(A++R))) a w→a.defers=[]∧Zrg J S w0 (I xs) pv O3 O4 R fl (.panicked (pch (pv q))) w:=
 fun a w h=>itPan q a w (ZiM A (Zdz A h))
end
def encR (p:Pr):Value:=.agg #[.string p.a,.string p.b]
theorem rel_pr {T:Nat→Prop} {w:World} {v:Value} {x:Pr} (h:Rel T w (.agg (prC x)) v):v=encR x:=by
 simp only[Rel]at h
 obtain⟨us,rfl,hr⟩:=h
 match us,hr with
 | [u1,u2],⟨h1,h2,_⟩=>
  rw[h1.of_lit,h2.of_lit]
  rfl
theorem ZhQ {J:World→Prop} (hJ:Stab J) (bl:List Bd) (us:List ByteArray) (ap:List Pr) (hbl:∀ b∈bl,b.text.length≤2000):SeqE Tryz.prog J 170 [] [.ptr [Ziq bl],.ptr [Zb us],.ptr [Xm ap]] encR (ZoX bl ap us) (none):=by
 refine Zg0 (N:=55) Tryz.func170 rfl rfl (lb rfl) fun S w0 R l κ μ σ I pv O3 O4 k0 hS hJ0 hH hY=>?_
 refine Z6 (B:=St All (SO S (I ([]) k0++R)) w0 55 [(0,.rd (.lit (.func (.yield l) #[] #[]))),(1,.ptr [Ziq bl]),(2,.ptr [Zb us]),(3,.ptr [Xm ap])] (XO J S w0.heap.size (I ([]) k0++R))) ?_ fun a w h=>h
 refine tsq ?_
 refine snK 1 tb rfl ?_
 refine Y7 (O:=[]) (R:=(I ([]) k0++R)) (ZmJ hJ (l:=bl) ) ZfL rfl rfl rfl (lb rfl) hS hJ0 Zq (fun a w h=>(Za (h.get 0 rfl) Ze)) fun z1=>?_
 refine snK 1 tb rfl ?_
 refine seK [0,2,3,5,6] [_,_,_,_,_] rfl ?_
 refine nx (ln 1 fun hl1=>?_)
 refine tsq ?_
 refine snK 1 tb rfl ?_
 refine Y7 (O:=[]) (R:=(OB.map keyS (fun z':List ByteArray=>AV.rd (Zb z')) z1 (Yp bl)::(I ([]) k0++R))) (Zpo hJ (l:=us) ) Zqo rfl rfl rfl (lb rfl) hS hJ0 Zq (fun a w h=>(Za (h.get 0 rfl) Ze)) fun z2=>?_
 refine snK 1 tb rfl ?_
 refine seK [0,2,3,5,7] [_,_,_,_,_] rfl ?_
 refine nx (ln 1 fun hl2=>?_)
 refine ZI tb hJ [0,2,3,1000,1001,1002] [_,.int (ap.length:Nat),_] [1] [_,_,_,_,_,_] rfl ⟨YG Ya,trivial⟩ ?_
 refine ln 3 fun hl3=>?_
 refine Zf (lpo (ι:=Nat×(List Pr)×κ) (fun(k,pre,_)=>(k≤ap.length)∧(pre=(ap.take k).flatMap (rqA bl us))) (fun(_,pre,kk)=>(OB.set keyS z2 (Qd us)::OB.map keyS (fun z':List ByteArray=>AV.rd (Zb z')) z1 (Yp bl)::(I pre kk++R))) (fun(k,_,_)=>[(19,.int (k:Nat))]) (fun(k,_,_)=>ap.length-k) [0,1,2,3,4,5] [_,_,_,_,_] (0,[],k0) ⟨Nat.zero_le _,rfl⟩ ?_)
 rintro⟨k,pre,kk⟩ ⟨f1_1,f1_2⟩
 refine qso tb hJ [0,1,2,3,4,5,1000] [_] [_,_,_,_,_,_,_] ?_
 refine cjS 6 (fun hb1=>?_) fun hb1=>?_
 try simp at hb1
 refine Zc (nx (Zj (Zf (tsq ?_))))
 refine sq (.ptr (prC (ge ap k))) rfl rfl (lb rfl) (fun _ _ h=>Yg (i:=(k:Int)) ZD rfl (h.get 3 rfl) (h.get 5 rfl) (Int.natCast_nonneg _) (Yy (xs:=ap) (k:=k) sfz) rfl h.x) ?_
 refine snK 1 tb rfl ?_
 refine Qi (cs:=prC (ge ap k)) Zds rfl rfl rfl (lb rfl) rfl rfl rfl (by decide) (m:=0) rfl rfl (fun a w h=>Zr hS _ h.keep h.x _ (Nat.le_refl _)) (fun a w h w' hk'=>Yw hJ _ _ hk' h.x) ?_
 refine seK [0,3,4,5,6,7,8] [_,_,_,_,_,_,_] rfl ?_
 refine nx (ZI tb hJ [0,1,2,3,4,5,6,1003,1005,1006,1007] [_,_,_,.rd (Zb (XA (Yp bl) ((ge ap k).a))),_,.rd (Zb (QS (XA (Yp bl) ((ge ap k).a)) (Qd us))),.int ((QS (XA (Yp bl) ((ge ap k).a)) (Qd us)).length:Nat),_] [3,5,6] [_,_,_,_,_,_,_,_,_,_,_] rfl ⟨fun a _ hk hx hl _=>Y9 (ZdK hJ (M:=z1) (bm:=(Yp bl)) (s:=((ge ap k).a)) ) Zck rfl (Zr hS _ hk hx) (hx.1) (ZG (Zd hx (mo 1 rfl)) Zq) (Za (hl.D 0 23 rfl rfl) (Za (hl.D 2 25 rfl rfl) Ze)) (jo hJ hx),fun a _ hk hx hl _=>Y9 (ZcK hJ (M:=z2) (vs:=(Qd us)) (t:=(XA (Yp bl) ((ge ap k).a))) (by exact Zh6 (m:=2000) (by omega) hbl _)) ZjP rfl (Zr hS _ hk hx) (hx.1) (ZG (Zd hx (mo 0 rfl)) Zq) (Za (hl.D 3 26 rfl rfl) (Za (hl.D 4 27 rfl rfl) Ze)) (jo hJ hx),YG Zv,trivial⟩ ?_)
 refine ln 7 fun hl4=>?_
 refine ln 8 fun hl5=>?_
 refine Zf (lpo (ι:=Nat×(List Pr)×κ) (fun(j,pre,_)=>(j≤(QS (XA (Yp bl) (ge ap k).a) (Qd us)).length)∧(pre=(ap.take k).flatMap (rqA bl us)++((QS (XA (Yp bl) (ge ap k).a) (Qd us)).take j).flatMap (rqB bl us (ge ap k)))) (fun(_,pre,kk)=>(OB.set keyS z2 (Qd us)::OB.map keyS (fun z':List ByteArray=>AV.rd (Zb z')) z1 (Yp bl)::(I pre kk++R))) (fun(j,_,_)=>[(30,.int (j:Nat))]) (fun(j,_,_)=>(QS (XA (Yp bl) (ge ap k).a) (Qd us)).length-j) [0,1,2,3,4,5,6,8,9,10] [_,_,_,_,_,_,_,_,_] (0,pre,kk) ⟨Nat.zero_le _,by rw[f1_2];simp⟩ ?_)
 rintro⟨j,pre,kk⟩ ⟨f2_1,f2_2⟩
 refine qso tb hJ [0,1,2,3,4,5,6,7,8,9,1000] [_] [_,_,_,_,_,_,_,_,_,_,_] ?_
 refine cjS 10 (fun hb2=>?_) fun hb2=>?_
 try simp at hb2
 refine Zc (nx (Zj (Zf (ZI tb hJ [0,1,2,3,4,5,6,7,8,9,1002] [.ptr [.lit (.string (ge (QS (XA (Yp bl) ((ge ap k).a)) (Qd us)) j))],_,_] [0] [_,_,_,_,_,_,_,_,_,_,_] rfl ⟨iIx Zn,trivial⟩ ?_))))
 refine ZI tb hJ [0,1,2,3,4,5,6,7,8,9,10,1003,1005,1006,1007] [_,_,_,.rd (Zb (XA (Yp bl) ((ge ap k).b))),_,.rd (Zb (QS (XA (Yp bl) ((ge ap k).b)) (Qd us))),.int ((QS (XA (Yp bl) ((ge ap k).b)) (Qd us)).length:Nat),_] [3,5,6] [_,_,_,_,_,_,_,_,_,_,_,_,_,_,_] rfl ⟨fun _ _ hk hx hl _=>Y9 (ZdK hJ (M:=z1) (bm:=(Yp bl)) (s:=((ge ap k).b)) ) Zck rfl (Zr hS _ hk hx) (hx.1) (ZG (Zd hx (mo 1 rfl)) Zq) (Za (hl.D 0 34 rfl rfl) (Za (hl.D 2 36 rfl rfl) Ze)) (jo hJ hx),fun _ _ hk hx hl _=>Y9 (ZcK hJ (M:=z2) (vs:=(Qd us)) (t:=(XA (Yp bl) ((ge ap k).b))) (by exact Zh6 (m:=2000) (by omega) hbl _)) ZjP rfl (Zr hS _ hk hx) (hx.1) (ZG (Zd hx (mo 0 rfl)) Zq) (Za (hl.D 3 37 rfl rfl) (Za (hl.D 4 38 rfl rfl) Ze)) (jo hJ hx),YG Zv,trivial⟩ ?_
 refine ln 11 fun hl6=>?_
 refine ln 12 fun hl7=>?_
 refine Zf (lpo (ι:=Nat×(List Pr)×κ) (fun(i,pre,_)=>(i≤(QS (XA (Yp bl) (ge ap k).b) (Qd us)).length)∧(pre=(ap.take k).flatMap (rqA bl us)++((QS (XA (Yp bl) (ge ap k).a) (Qd us)).take j).flatMap (rqB bl us (ge ap k))++((QS (XA (Yp bl) (ge ap k).b) (Qd us)).take i).map (fun y=>ZbK ⟨ge (QS (XA (Yp bl) (ge ap k).a) (Qd us)) j,y⟩))) (fun(_,pre,kk)=>(OB.set keyS z2 (Qd us)::OB.map keyS (fun z':List ByteArray=>AV.rd (Zb z')) z1 (Yp bl)::(I pre kk++R))) (fun(i,_,_)=>[(41,.int (i:Nat))]) (fun(i,_,_)=>(QS (XA (Yp bl) (ge ap k).b) (Qd us)).length-i) [0,1,2,3,4,5,6,7,8,9,10,12,13,14] [_,_,_,_,_,_,_,_,_,_,_,_,_] (0,pre,kk) ⟨Nat.zero_le _,by rw[f2_2];simp⟩ ?_)
 rintro⟨i,pre,kk⟩ ⟨f3_1,f3_2⟩
 refine qso tb hJ [0,1,2,3,4,5,6,7,8,9,10,11,12,13,1000] [_] [_,_,_,_,_,_,_,_,_,_,_,_,_,_,_] ?_
 refine cjS 14 (fun hb3=>?_) fun hb3=>?_
 try simp at hb3
 refine Zc (nx (Zj (Zf (ZI tb hJ [0,1,2,3,4,5,6,7,8,9,10,11,12,13,1002] [.ptr [.lit (.string (ge (QS (XA (Yp bl) ((ge ap k).b)) (Qd us)) i))],_,_] [0] [_,_,_,_,_,_,_,_,_,_,_,_,_,_,_] rfl ⟨iIx Zn,trivial⟩ ?_))))
 refine tsq ?_
 refine snK 3 tb rfl ?_
 refine sq (.agg (prC (⟨(ge (QS (XA (Yp bl) ((ge ap k).a)) (Qd us)) j),(ge (QS (XA (Yp bl) ((ge ap k).b)) (Qd us)) i)⟩:Pr))) rfl rfl (lb rfl) (fun a _ h=>ZbI (us:=[a.eval (Go.Operand.tmp 46),a.eval (Go.Operand.tmp 47)]) Zio rfl (by simp) (Zz (h.get 1 rfl) (Zz (h.get 0 rfl) Yb)) rfl h.x) ?_
 refine sq (.agg (prC (ZbK (⟨(ge (QS (XA (Yp bl) ((ge ap k).a)) (Qd us)) j),(ge (QS (XA (Yp bl) ((ge ap k).b)) (Qd us)) i)⟩:Pr)))) rfl rfl (lb rfl) (fun _ _ h=>ZeS (Zgp hJ (x:=(⟨(ge (QS (XA (Yp bl) ((ge ap k).a)) (Qd us)) j),(ge (QS (XA (Yp bl) ((ge ap k).b)) (Qd us)) i)⟩:Pr)) ) ZjQ rfl (Zr hS _ h.keep h.x) (h.x.1) (Za (h.get 0 rfl) Ze) (jo hJ h.x)) ?_
 refine kw (ZlL [OB.set keyS z2 (Qd us),OB.map keyS (fun z':List ByteArray=>AV.rd (Zb z')) z1 (Yp bl)]) ?_
 refine Zc9 (O:=I pre kk) (R:=([OB.set keyS z2 (Qd us),OB.map keyS (fun z':List ByteArray=>AV.rd (Zb z')) z1 (Yp bl)]++R)) (v:=encR (ZbK (⟨(ge (QS (XA (Yp bl) ((ge ap k).a)) (Qd us)) j),(ge (QS (XA (Yp bl) ((ge ap k).b)) (Qd us)) i)⟩:Pr))) rfl rfl rfl rfl (lb rfl) (fun a w h=>(h.get 4 rfl).lit) (fun a w h=>rel_pr (x:=(ZbK (⟨(ge (QS (XA (Yp bl) ((ge ap k).a)) (Qd us)) j),(ge (QS (XA (Yp bl) ((ge ap k).b)) (Qd us)) i)⟩:Pr))) (h.get 0 rfl)) (fun m' R' w1 hk hx=>hY m' R' pre (ZbK (⟨(ge (QS (XA (Yp bl) ((ge ap k).a)) (Qd us)) j),(ge (QS (XA (Yp bl) ((ge ap k).b)) (Qd us)) i)⟩:Pr)) kk w1 (by rw[f3_2];exact rq_pre hb1 hb2 hb3) hk hx) (fun q=>Znk [OB.set keyS z2 (Qd us),OB.map keyS (fun z':List ByteArray=>AV.rd (Zb z')) z1 (Yp bl)] q) (fun s3=>?_) (fun z4=>?_)
 refine kw (Zdz [OB.set keyS z2 (Qd us),OB.map keyS (fun z':List ByteArray=>AV.rd (Zb z')) z1 (Yp bl)]) ?_
 refine snK 1 tb rfl ?_
 refine seK [0,7,8,9,10,11,12,13,14,15,16,17,18,19,20] [_,_,_,_,_,_,_,_,_,_,_,_,_,_,_] rfl ?_
 refine nx (cj 0 (fun hb4=>?_) fun hb4=>?_)
 try simp at hb4
 refine tw Zy ?_
 refine tw Zy ?_
 exact Zg (fun a w h=>Zjt s3 rfl h)
 exact False.elim (by simp at hb4)
 refine kw (Zdz [OB.set keyS z2 (Qd us),OB.map keyS (fun z':List ByteArray=>AV.rd (Zb z')) z1 (Yp bl)]) ?_
 refine snK 1 tb rfl ?_
 refine seK [0,7,8,9,10,11,12,13,14,15,16,17,18,19,20] [_,_,_,_,_,_,_,_,_,_,_,_,_,_,_] rfl ?_
 refine nx (cj 0 (fun hb4=>?_) fun hb4=>?_)
 exact False.elim (by simp at hb4)
 try simp at hb4
 refine Zc (nx (YQ tb hJ [1,2,3,4,5,6,7,8,9,10,11,12,13,1001] [.int (i+1:Nat),_] [0] [_,_,_,_,_,_,_,_,_,_,_,_,_,_] rfl ⟨Yv,trivial⟩ ?_))
 exact Xi (i+1,(pre++[(ZbK (⟨(ge (QS (XA (Yp bl) ((ge ap k).a)) (Qd us)) j),(ge (QS (XA (Yp bl) ((ge ap k).b)) (Qd us)) i)⟩:Pr))]),z4) [0,1,2,3,4,5,6,7,8,9,10,11,12,13] ⟨by omega,by rw[f3_2,Zau hb3,←List.append_assoc]⟩
 try simp at hb3
 refine Zx (nx (YQ tb hJ [0,1,2,3,4,5,6,7,8,1001] [.int (j+1:Nat),_] [0] [_,_,_,_,_,_,_,_,_,_] rfl ⟨Yv,trivial⟩ ?_))
 exact Xi (j+1,pre,kk) [0,1,2,3,4,5,6,7,8,9] ⟨by omega,by rw[f3_2,ZC (xs:=(QS (XA (Yp bl) (ge ap k).b) (Qd us))) (k:=i) (by omega),Zh9 hb2,←List.append_assoc];rfl⟩
 try simp at hb2
 refine Zx (nx (YQ tb hJ [1,2,3,4,5,1001] [.int (k+1:Nat),_] [0] [_,_,_,_,_,_] rfl ⟨Yv,trivial⟩ ?_))
 exact Xi (k+1,pre,kk) [0,1,2,3,4,5] ⟨by omega,by rw[f2_2,ZC (xs:=(QS (XA (Yp bl) (ge ap k).a) (Qd us))) (k:=j) (by omega),Zh9 hb1];rfl⟩
 try simp at hb1
 refine Zx (kw Zy ?_)
 refine kw Zy ?_
 exact fun a w h=>ZrF (rfl) (by rw[f1_2,Zrj,ZC (by omega)]) kk rfl h
end Go.Proofs.YtapelgeodldlcaaGreatDoor
