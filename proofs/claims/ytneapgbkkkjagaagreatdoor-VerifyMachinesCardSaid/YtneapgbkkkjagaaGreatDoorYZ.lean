/-
  THE ENGINE: worlds that are grown of one world: draws, and blocks behind it (what a sort asks of its comparison).
  CONTRACT of the program: the order of pairs, and what it lays.
  PAIRS IN ORDER (plain): sorted rows, a search by halves, what a substitution requires.
  CONTRACTS of the program: pairs, each once; a search by halves.
  THE ENGINE: a range over a function: the iterator's contract, and the statement, where rounds and the iterator may end by a panic.
  THE ENGINE: entering an iterator.
  THE ENGINE: an iterator that owns something while it yields.
  THE ENGINE: the way to a range over a function, where the frame's function is known; behind it, where a mark is deferred.
  CONTRACTS of the program: what a substitution requires.
-/
import Derived.Test.YtneapgbkkkjagaaGreatDoorYY
import Derived.Sort.Grow
namespace Go.Proofs.YtneapgbkkkjagaaGreatDoor
open Go.RowKit Go.Sort
def Ex (W w:World):Prop:=∃ q os,w=grow (W.drewN q) os
theorem Zv3 (W:World):Ex W W:=⟨0, #[],by rw[grow_empty];rfl⟩
theorem Zld {W w:World} (h:Ex W w) (o:Obj):Ex W (w.alloc o):=by
 obtain⟨q,os,rfl⟩:=h
 exact⟨q,os++ #[o],by rw[alloc_eq_grow,grow_grow]⟩
theorem Zv4 {W w:World} (h:Ex W w):Ex W w.drew:=by
 obtain⟨q,os,rfl⟩:=h
 exact⟨q+1,os,rfl⟩
section
variable {P:Program} {n:Rn} {S:Nat→Prop} {W:World} {o:Oper} {a:Act} {w:World} {x:Operand} {t e:TypeId}
theorem x_box {cs:List CD} (hop:o.op= .box t x) (h:Rel S w (.agg cs) (a.eval x)) (hS:S w.heap.size) (hx:Ex W w):Yj n P o a w (YB S (Ex W) (.ptr cs) w):=by
 simp only[Rel]at h
 obtain⟨us,hv,hr⟩:=h
 have hk:Keeps All w (w.alloc (.cells us.toArray t)):=(Keeps.refl _ _).alloc _
 refine Z8 (v:=.pointer (some ⟨w.heap.size,0,none⟩)) (w':=w.alloc (.cells us.toArray t)) ?_ ⟨?_,hk,Zld hx _⟩
 · simp[execOp,hop,hv,Instr.box,newVar,newRow,newObj,Sem.run,Value.cells]
 · simp only[Rel]
   exact⟨w.heap.size,0,us,rfl,by simp,hS,hr.keep hk fun _ _ _=>trivial,fun j u hj=>ZaI j u hj⟩
theorem ZqH {k:Nat} {cs:List CD} {parts:Array (Nat×Operand)} {us:List Value} (ht:Yx P t e 1) (hz:ZfR P e 1) (hop:o.op= .buildSlice t k parts) (hp:(parts.map fun(i,x)=>(i,a.eval x)).toList=us.zipIdx.map fun p=>(p.2,p.1)) (h:RdL S w cs us) (hk:us.length=k) (hk0:0<k) (hk1:k≤1000) (hS:S w.heap.size) (hx:Ex W w):
 Yj n P o a w (YB S (Ex W) (.rd (.sl (cs.map fun c=>[c]))) w):=by
 obtain⟨z,hz,hzs,_⟩:=hz
 have hk':Keeps All w (w.alloc (.cells us.toArray e)):=(Keeps.refl _ _).alloc _
 have hf:=Zdd (k:=k) (place:=fun i=>some (i*1,1)) (fun j _=>by simp) us 0 ((Array.range (k*1)).map (z.cells[· %z.cells.size]!)) yz oz h.one
 refine Z8 (v:=.slice (some ⟨w.heap.size,0,none⟩) k k) (w':=w.alloc (.cells us.toArray e)) ?_ ⟨?_,hk',Zld hx _⟩
 · have hpl:(parts.map fun(i,x)=>(i,a.eval x)).toList=us.zipIdx.map fun p=>(p.2,p.1):=hp
   have hd:((Array.range (k*1)).map (z.cells[· %z.cells.size]!)).toList.drop (0+us.length)=[]:=by
    apply List.drop_of_length_le;simp;omega
   rw[hd]at hf
   simp only[List.take_zero,List.nil_append,List.append_nil]at hf
   rw[execOp,hop]
   have hn:¬ (k*1>2^24):=by omega
   have hn0:¬ (k*1=0):=by omega
   simp only[Sem.run_bind,Instr.buildSlice,run_underlying ht.1,Result.andThen_ok,ht.2 w,if_neg hn,if_neg hn0,hz w,hpl]
   simp only[Nat.mul_one]at hf ⊢
   simp[newRow,newObj,Sem.run,hf]
 · simp only[Rel]
   have hlen:(cs.map fun c=>[c]).length=k:=by rw[List.length_map,←hk,h.length]
   rw[←hlen]
   refine Rd.of_cells (n:=1) (us:=us) nlr (by rw[hlen];simp only[maxLen];omega) yz hS (fun r hr=>by obtain⟨c,_,rfl⟩:=List.mem_map.1 hr;rfl) ?_ fun j u hj=>ZaI j u hj
   have:(cs.map fun c=>[c]).flatten=cs:=by
    clear hlen hf h hp
    induction cs with
    | nil=>rfl
    | cons c cs ih=>simp only[List.map_cons,List.flatten_cons,ih];rfl
   rw[this]
   exact h.keep hk' fun _ _ _=>trivial
theorem Zm1 {f:FuncId} {args:List Operand} {ts:Array TypeId} {vs:List Value} {r:Value} (h1:Zk P f) (hop:o.op= .call { callee:=.value (.func f),args:=args.toArray,argTypes:=ts }) (hv:args.map a.eval=vs) (hc:Calls P f vs.toArray w fun e w'=>e= .returned r∧w'=w) (hr:okLit r) (hx:Ex W w):Yj n P o a w (YB S (Ex W) (.lit r) w):=by
 refine Zn2 h1 hop ?_
 rw[List.map_toArray,hv]
 refine hc.mono fun e w' ⟨he,hw⟩=>⟨r,he,Rel.of_lit _ hr,hw▸Keeps.refl _ _,hw▸hx⟩
end
section
variable {P:Program} {n:Rn} {S S':Nat→Prop} {X:WP} {o:Oper} {a:Act} {w:World} {x y:Operand} {t u s d:TypeId}
theorem r_toU {k:Nat} (hs:P.underlying s=some (.int .i64)) (hd:P.underlying d=some (.int .u64)) (hop:o.op= .convert s d x) (h:Rel S' w (.int (k:Int)) (a.eval x)) (hk:k<18446744073709551616) (hx:X w):Yj n P o a w (YB S X (.lit (.int .u64 (k:Int))) w):=by
 refine ZC (v:=.int .u64 (k:Int)) ?_ (Rel.of_lit _) hx
 have hw:IntKind.u64.wrap (k:Int)=k:=by simp[IntKind.wrap,IntKind.bits,IntKind.signed];omega
 simp[execOp,hop,h.lit,convert,Conv.intToInt,Sem.run_bind,run_underlying hs,run_underlying hd,hw]
theorem r_ofU {k:Nat} (hs:P.underlying s=some (.int .u64)) (hd:P.underlying d=some (.int .i64)) (hop:o.op= .convert s d x) (h:Rel S' w (.lit (.int .u64 (k:Int))) (a.eval x)) (hk:k≤9223372036854775807) (hx:X w):Yj n P o a w (YB S X (.int (k:Int)) w):=by
 refine ZC (v:=.int .i64 (k:Int)) ?_ (Rel.of_lit _) hx
 have hw:IntKind.i64.wrap (k:Int)=k:=IntWalk.i64_in (k:Int) ⟨oz,oz⟩
 simp[execOp,hop,h.lit,convert,Conv.intToInt,Sem.run_bind,run_underlying hs,run_underlying hd,hw]
theorem r_half {k:Nat} (hop:o.op= .binOp .shr t x y u) (h:Rel S w (.lit (.int .u64 (k:Int))) (a.eval x)) (hy:Rel S w (.lit (.int .u64 1)) (a.eval y)) (hx:X w):Yj n P o a w (YB S X (.lit (.int .u64 ((k/2:Nat):Int))) w):=by
 have hrun:(binOp .shr t (.int .u64 (k:Int)) (.int .u64 1)).run P w= .ok (.int .u64 ((k/2:Nat):Int)) w:=by
  have h2:(k:Int).fdiv (2^ (min (Int.toNat 1) 64))=((k/2:Nat):Int):=by
   rw[show(2:Int)^ (min (Int.toNat 1) 64)=2 from by decide,Int.fdiv_eq_ediv_of_nonneg _ oz]
   omega
  show(Op.shift .shr .u64 (k:Int) .u64 1).run P w=_
  unfold Op.shift
  rw[if_neg oz]
  show Result.ok (Value.int .u64 ((k:Int).fdiv (2^ (min (Int.toNat 1) 64)))) w=_
  rw[h2]
 exact Q4 True.intro (Xy ..) hrun hop h hy hx
end
section
variable {P:Program} {n:Rn} {S S':Nat→Prop} {X:WP} {o:Oper} {a:Act} {w:World} {x:Operand} {t e:TypeId} {k:Nat} {v:Value} {rows:List (List CD)}
theorem Zra {lo m:Nat} (hm:rows.length-lo=m) (h1:P.underlying t=some (.slice e)) (hop:o.op= .call { callee:=.builtin .len,args:= #[x],argTypes:= #[t] }) (hi:∃ l,(OB.row v e k rows).inv l S w) (h:Rel S' w (.lit (ZfY v lo k)) (a.eval x)) (hx:X w):
 Yj n P o a w (YB S X (.int m) w):=by
 subst hm
 obtain⟨l,us,g1,_⟩:=hi
 refine ZC (v:=.int .i64 ((rows.length-lo:Nat):Int)) ?_ (Rel.of_lit _) hx
 rcases g1.2 with⟨hv,h4⟩ | ⟨g,cap,cur,hv,_⟩
 · simp[execOp,hop,h.lit,hv,ZfY,resolve,invoke,builtin,Builtin.len_,Sem.run_bind,run_underlying h1,goInt,h4]
 · simp[execOp,hop,h.lit,hv,ZfY,resolve,invoke,builtin,Builtin.len_,Sem.run_bind,run_underlying h1,goInt]
end
end Go.Proofs.YtneapgbkkkjagaaGreatDoor
set_option maxHeartbeats 8000000
set_option maxRecDepth 100000
namespace Go.Proofs.YtneapgbkkkjagaaGreatDoor
open Go.RowKit
theorem ZvP (s:BA) (w:World):Calls Tryz.prog 204 #[.string s] w fun e w'=>e= .returned (.bool false)∧w'=w:=by
 go_enter Tryz.func204,Tryz.ntmps204
 go_wp2
 go_ret
 exact⟨by simp,rfl⟩
theorem Zui (x y:BA) (w:World):Calls Tryz.prog 194 #[.string x,.string y] w fun e w'=>e= .returned (.int .i64 (Zbw x y))∧w'=w:=by
 go_enter Tryz.func194,Tryz.ntmps194
 go_wp2_with (go_at_call 204;refine(ZvP _ _).mono ?_;rintro e w' ⟨rfl,rfl⟩)
 all_goals go_ret
 · rename_i h
   exact⟨by rw[Zbw,if_pos h];rfl,rfl⟩
 · rename_i h2 _ _ h
   have h3:¬ x=y:=fun e=>by simp[e]at h
   exact⟨by rw[Zbw,if_neg (by simp[h2]),if_neg h3];rfl,rfl⟩
 · rename_i h2 h
   have h3:x=y:=by
    have:=Za9 x y
    simp_all
   exact⟨by rw[Zbw,if_neg (by simp[h2]),if_pos h3];rfl,rfl⟩
theorem orI_x (b off cap:Nat) (x y:Int) (w:World) (h0:w.cell? ⟨b,off,none⟩=some (.int .i64 x)) (h1:w.cell? ⟨b,off+1,none⟩=some (.int .i64 y)):Calls Tryz.prog 193 #[.slice (some ⟨b,off,none⟩) 2 cap] w fun e w'=>e= .returned (.int .i64 (orI [x,y]))∧w'=w:=by
 go_enter Tryz.func193,Tryz.ntmps193
 go_wp2_with fail
 refine wp_loop_rounds 3 ?_
 rw[rounds_succ]
 go_wp2
 · rename_i h
   go_ret
   exact⟨by simp at h;simp[orI,h],rfl⟩
 rw[rounds_succ]
 go_wp2
 · rename_i h2 _ _ h
   go_ret
   exact⟨by simp at h h2;simp[orI,h,h2],rfl⟩
 rw[rounds_succ]
 go_wp2
 have h3:x=0:=by simpa using ‹(x !=0)=false›
 have h4:y=0:=by simpa using ‹(y !=0)=false›
 go_ret
 exact⟨by simp[orI,h3,h4],rfl⟩
def Zps (p:Pr):List Value:=[.string p.a,.string p.b]
theorem ZgP {T:Nat→Prop} {w:World} {p:Pr} (h1:p.a.size≤maxLen) (h2:p.b.size≤maxLen):Rel T w (.agg (prC p)) (.agg (Zps p).toArray):=by
 simp only[Rel]
 exact⟨_,rfl,.lit _ h1,.lit _ h2,trivial⟩
theorem ZpC (p q:Pr) (hp:p.a.size≤maxLen∧p.b.size≤maxLen) (hq:q.a.size≤maxLen∧q.b.size≤maxLen) (W:World):Calls Tryz.prog 174 #[.agg (Zps p).toArray,.agg (Zps q).toArray] W fun e w'=>e= .returned (.int .i64 (Zgk p q))∧Ex W w':=by
 have ha:RelL (fun _=>True) W [.agg (prC p),.agg (prC q)] [.agg (Zps p).toArray,.agg (Zps q).toArray]:=Za (ZgP hp.1 hp.2) (Za (ZgP hq.1 hq.2) Zg)
 obtain⟨g1,g2⟩:=Zak (N:=17) (M:=17) yz rfl ha
 refine(callsIn_wide (n:=5)).1 (callsIn_of_wp Tryz.func174 rfl trivial ?_ rfl)
 suffices h:Tr 5 Tryz.prog (St All (fun _=>True) W 17 (Y4 0 [.agg (prC p),.agg (prC q)]) (Ex W)) _ _ from h _ _ ⟨rfl,g1,Keeps.refl _ _,Zv3 W,g2⟩
 refine tsq (sy (.ptr (prC p)) (fun h=>x_box rfl (h.get 0 rfl) trivial h.x) ?_)
 refine sy (.ptr (prC q)) (fun h=>x_box rfl (h.get 2 rfl) trivial h.x) ?_
 refine sy (.int 0) (fun h=>XW rfl (Rel.of_lit _) h.x) ?_
 refine seK [1,2] U2 rfl (nx (Ze ?_))
 refine fun a w h=>Zkw (fun ix'=>([.ptr (prC p),.str p.a,.ptr (prC q),.str q.a,.int (Zbw p.a q.a),.ptr [lS p.b],.str p.b,.ptr [lS q.b],.str q.b,.int (Zbw p.b q.b),.rd (.sl [[lI (Zbw p.a q.a)],[lI (Zbw p.b q.b)]]),.int (Zgk p q),.int (Zgk p q)]:List AV).getD ix' .any) (fun _=>true) [(4,.int (Zgk p q))] h (fun _ h=>h) Yr rfl rfl rfl (fun _=>Zv4) ⟨?o0,?o1,?o2,?o3,?o4,?o5,?o6,?o7,?o8,?o9,?o10,?o11,?o12,trivial⟩ ⟨.new 12 4 _ rfl rfl rfl (.inl ⟨_,rfl⟩),trivial⟩ ?n
 case o0=>exact⟨rfl,fun a w _ hx hl _=>ZN Zat rfl (hl.env 1 2 _ rfl rfl) hx⟩
 case o1=>exact⟨rfl,fun a w _ hx hl _=>ZH QU rfl (hl.dep 0 5 _ rfl rfl rfl rfl) hx⟩
 case o2=>exact⟨rfl,fun a w _ hx hl _=>ZN Zat rfl (hl.env 0 3 _ rfl rfl) hx⟩
 case o3=>exact⟨rfl,fun a w _ hx hl _=>ZH QU rfl (hl.dep 2 7 _ rfl rfl rfl rfl) hx⟩
 case o4=>exact⟨rfl,fun a w _ hx hl _=>Zm1 (args:=[.tmp 6,.tmp 8]) (vs:=[.string p.a,.string q.a]) Zeq rfl (by rw[List.map_cons,List.map_cons,List.map_nil,(hl.dep 1 6 _ rfl rfl rfl rfl).lit,(hl.dep 3 8 _ rfl rfl rfl rfl).lit]) (Zui _ _ _) True.intro hx⟩
 case o5=>exact⟨rfl,fun a w _ hx hl _=>ZN Zas rfl (hl.env 1 2 _ rfl rfl) hx⟩
 case o6=>exact⟨rfl,fun a w _ hx hl _=>ZH QU rfl (hl.dep 5 10 _ rfl rfl rfl rfl) hx⟩
 case o7=>exact⟨rfl,fun a w _ hx hl _=>ZN Zas rfl (hl.env 0 3 _ rfl rfl) hx⟩
 case o8=>exact⟨rfl,fun a w _ hx hl _=>ZH QU rfl (hl.dep 7 12 _ rfl rfl rfl rfl) hx⟩
 case o9=>exact⟨rfl,fun a w _ hx hl _=>Zm1 (args:=[.tmp 11,.tmp 13]) (vs:=[.string p.b,.string q.b]) Zeq rfl (by rw[List.map_cons,List.map_cons,List.map_nil,(hl.dep 6 11 _ rfl rfl rfl rfl).lit,(hl.dep 8 13 _ rfl rfl rfl rfl).lit]) (Zui _ _ _) True.intro hx⟩
 case o10=>exact⟨rfl,fun a w _ hx hl _=>ZqH (k:=2) (us:=[a.eval (.tmp 9),a.eval (.tmp 14)]) Qk ZhD rfl yz (Zi (hl.dep 4 9 _ rfl rfl rfl rfl) (Zi (hl.dep 9 14 _ rfl rfl rfl rfl) ZJ)) rfl dz dz trivial hx⟩
 case o11=>
  refine⟨rfl,fun a w _ hx hl _=>?_⟩
  have hr:=hl.dep 10 15 _ rfl rfl rfl rfl
  simp only[List.getD_cons_succ,List.getD_cons_zero,Rel]at hr
  generalize hrows:([[lI (Zbw p.a q.a)],[lI (Zbw p.b q.b)]]:List (List CD))=rows at hr
  generalize hv:a.eval (.tmp 15)=v at hr
  cases hr with
  | nil=>cases hrows
  | sl b off cap n rows vs hl2 hm hb hS hn hc hrd=>
   subst hrows
   have h1:n=1:=(hn _ (List.mem_cons_self)).symm
   subst h1
   have h0:=hc 0 0 yz oz
   have h1:=hc 1 0 yz oz
   rw[(hrd 0 0 _ _ rfl rfl).of_lit]at h0
   rw[(hrd 1 0 _ _ rfl rfl).of_lit]at h1
   refine(?_:Yj _ _ _ _ _ (YB _ (Ex W) (.int (Zgk p q)) w))
   rw[←ZpF]
   exact Zm1 (args:=[.tmp 15]) (vs:=[.slice (some ⟨b,off,none⟩) 2 cap]) Zlo rfl (by rw[List.map_cons,List.map_nil,hv];rfl) (orI_x b off cap _ _ w h0 h1) True.intro hx
 case o12=>exact⟨rfl,fun a w _ hx hl _=>XW rfl (hl.dep 11 16 _ rfl rfl rfl rfl) hx⟩
 refine nx (ZA fun a w h=>⟨h.defs,a.tmps.getD 4 undef,by simp[results,Tryz.results174,Sem.run_pure],?_,h.x⟩)
 rw[show a.tmps.getD 4 undef= .int .i64 (Zgk p q)from(h.get 0 rfl).lit]
end Go.Proofs.YtneapgbkkkjagaaGreatDoor
namespace Go.Proofs.YtneapgbkkkjagaaGreatDoor
theorem ZpE {x y:BA}:Zbw x y<0↔Op.bytesLess x.toList y.toList=true:=by
 unfold Zbw
 split
 · rename_i h;simp[h]
 · rename_i h
   split<;>simp[h]
theorem cmpX_eq {x y:BA}:Zbw x y=0↔x=y:=by
 unfold Zbw
 split
 · rename_i h
   constructor
   · intro e;omega
   · rintro rfl;rw[Zdn]at h;cases h
 · split
   · rename_i h;simp[h]
   · rename_i h;simp[h]
theorem cmpT_lt {p q:Pr}:Zgk p q<0↔ltP p q=true:=by
 unfold Zgk ltP
 split
 · rename_i h
   rw[cmpX_eq]at h
   rw[ZpE,h,Zdn]
   simp
 · rename_i h
   rw[cmpX_eq]at h
   rw[ZpE]
   simp[h]
theorem Zsl {p q:Pr}:Zgk p q=0↔p=q:=by
 unfold Zgk
 split
 · rename_i h
   rw[cmpX_eq]at h ⊢
   constructor
   · intro h2;cases p;cases q;simp_all
   · rintro rfl;rfl
 · rename_i h
   constructor
   · intro e;exact absurd e h
   · rintro rfl;exact absurd (cmpX_eq.2 rfl) h
theorem Zju (x:Pr):ltP x x=false:=by simp[ltP,Zdn]
theorem Zjt {x y:Pr} (h1:ltP x y=false) (h2:ltP y x=false):x=y:=by
 cases h3:ZfF x y with
 | true=>simp only[ZfF,Bool.and_eq_true,decide_eq_true_eq]at h3;cases x;cases y;simp_all
 | false=>have:=Zij h1 h3;rw[h2]at this;cases this
def Zdw (ps:List Pr):Nat→List Pr
 | 0=>[]
 | m+1=>if m=0∨ ¬ ge ps m=ge ps (m-1)then Zdw ps m++[ge ps m]else Zdw ps m
theorem Zhe {ps:List Pr} {m:Nat} (h:m=0∨ ¬ ge ps m=ge ps (m-1)):Zdw ps (m+1)=Zdw ps m++[ge ps m]:=by rw[Zdw,if_pos h]
theorem Zfn {ps:List Pr} {m:Nat} (h0:0<m) (h:ge ps m=ge ps (m-1)):Zdw ps (m+1)=Zdw ps m:=by rw[Zdw,if_neg (by rintro(e | e);omega;exact e h)]
theorem Zlf (ps:List Pr):∀ m,(Zdw ps m).length≤m
 | 0=>by simp[Zdw]
 | m+1=>by
  have:=Zlf ps m
  rw[Zdw]
  split
  · simp only[List.length_append,List.length_singleton];omega
  · omega
def WkP (l:List Pr):Prop:=l.Pairwise fun x y=>ltP y x=false
theorem WkP.at {l:List Pr} (h:WkP l) {i j:Nat} (hij:i<j) (hj:j<l.length):ltP (ge l j) (ge l i)=false:=by
 rw[Xj hj,Xj (show i<l.length by omega)]
 exact List.pairwise_iff_getElem.1 h i j oz hj hij
theorem Ze0 {α:Type} [Inhabited α] {l:List α} {x:α} {m:Nat} (h:x∈l.take m):∃ i,i<m∧i<l.length∧x=ge l i:=by
 obtain⟨i,hi,rfl⟩:=List.getElem_of_mem h
 rw[List.length_take]at hi
 exact⟨i,oz,oz,by rw[Xj oz,List.getElem_take]⟩
theorem Zle {ps:List Pr} (h:WkP ps):∀ m,m≤ps.length→SrtP (Zdw ps m)∧∀ x,x∈Zdw ps m↔x∈ps.take m
 | 0,_=>⟨List.Pairwise.nil,fun x=>by simp[Zdw]⟩
 | m+1,hm=>by
  obtain⟨h1,h2⟩:=Zle h m oz
  by_cases hc:m=0∨ ¬ ge ps m=ge ps (m-1)
  · rw[Zhe hc,ZZ oz]
    refine⟨List.pairwise_append.2 ⟨h1,List.pairwise_singleton _ _,fun x hx y hy=>?_⟩,fun x=>by simp only[List.mem_append,h2]⟩
    rw[List.mem_singleton.1 hy]
    obtain⟨i,hi,hil,rfl⟩:=Ze0 ((h2 x).1 hx)
    have h3:=h.at hi oz
    cases h4:ltP (ge ps i) (ge ps m)with
    | true=>rfl
    | false=>
     have he:=Zjt h4 h3
     rcases hc with rfl | hc
     · omega
     · have h5:=h.at (show m-1<m by omega) oz
       have h6:ltP (ge ps (m-1)) (ge ps m)=false:=by
        rcases Nat.lt_or_ge i (m-1)with h7 | h7
        · rw[←he];exact h.at h7 oz
        · rw[show m-1=i by omega,he];exact Zju _
       exact absurd (Zjt h5 h6) hc
  · have hm0:0<m:=by omega
    have he:ge ps m=ge ps (m-1):=by simpa [show ¬ m=0 by omega]using hc
    rw[Zfn hm0 he]
    refine⟨h1,fun x=>?_⟩
    rw[h2,ZZ oz,List.mem_append]
    constructor
    · exact .inl
    · rintro(h3 | h3)
      · exact h3
      · rw[List.mem_singleton.1 h3,he]
        refine List.mem_of_getElem? (i:=m-1) ?_
        rw[List.getElem?_take,if_pos oz,List.getElem?_eq_getElem oz,Xj oz]
def Zw9 (l qs:List Pr):Prop:=SrtP qs∧(∀ p,p∈qs↔p∈l.map QN)∧qs.length≤l.length
theorem srt_of {l ps:List Pr} (hp:ps.Perm (l.map QN)) (hw:WkP ps):Zw9 l (Zdw ps ps.length):=by
 obtain⟨h1,h2⟩:=Zle hw ps.length nlr
 refine⟨h1,fun p=>?_,?_⟩
 · rw[h2,List.take_length]
   exact hp.mem_iff
 · have h3:=Zlf ps ps.length
   have h4:=hp.length_eq
   rw[List.length_map]at h4
   omega
theorem SrtP.at {l:List Pr} (h:SrtP l) {i j:Nat} (hij:i<j) (hj:j<l.length):ltP (ge l i) (ge l j)=true:=by
 rw[Xj hj,Xj (show i<l.length by omega)]
 exact List.pairwise_iff_getElem.1 h i j oz hj hij
theorem Ztw {qs:List Pr} {p:Pr} {i j:Nat} (hs:SrtP qs) (hij:j≤i) (h1:∀ k,k<i→ltP (ge qs k) p=true) (h2:∀ k,j≤k→k<qs.length→ltP (ge qs k) p=false):p∈qs↔i<qs.length∧ge qs i=p:=by
 constructor
 · intro hp
   obtain⟨k,hk,rfl⟩:=Xp hp
   have h3:i≤k:=Nat.le_of_not_lt fun h=>by have:=h1 k h;rw[Zju]at this;cases this
   rcases Nat.lt_or_ge i k with h4 | h4
   · have:=hs.at h4 hk
     rw[h2 i hij oz]at this
     cases this
   · have:i=k:=by omega
     subst this
     exact⟨hk,rfl⟩
 · rintro⟨h3,rfl⟩
   exact Zu h3
theorem ZtY {x y:Pr} (h1:x.a=y.a) (h2:x.b=y.b):x=y:=by cases x;cases y;simp_all
section
variable {ps rs:List Pr} {i j k m:Nat} {x:Pr}
theorem Zv9 (h:1≤ps.length):Zdw ps 1=ps.take 1:=by
 cases ps with
 | nil=>simp at h
 | cons y r=>rfl
theorem Zfm (h:ps.length<2):ps=Zdw ps ps.length:=by
 match ps,h with
 | [],_=>rfl
 | [y],_=>rfl
theorem ZjM (h:¬ k<ps.length) (hk:k≤ps.length) (h2:Zdw ps k=ps.take k):ps=Zdw ps ps.length:=by
 have:k=ps.length:=by omega
 subst this
 rw[h2,List.take_length]
theorem Zsh (hk:k<ps.length) (h2:Zdw ps k=ps.take k) (h3:¬ ge ps k=ge ps (k-1)):Zdw ps (k+1)=ps.take (k+1):=by
 rw[Zhe (.inr h3),h2,ZZ hk]
theorem Zpd (h:¬ i=j):ge (rs.set j x) i=ge rs i:=by
 simp only[ge,List.getD_eq_getElem?_getD]
 rw[List.getElem?_set_ne (fun e=>h e.symm)]
theorem take_set (hj:j<rs.length):(rs.set j x).take (j+1)=rs.take j++[x]:=by
 have h1:j< (rs.set j x).length:=by rw[List.length_set];exact hj
 rw[ZZ h1,List.take_set_of_le nlr]
 congr 2
 rw[Xj h1,List.getElem_set_self]
end
def bsN (qs:List Pr) (p:Pr):Nat:=(qs.filter fun q=>ltP q p).length
section
variable {qs:List Pr} {p:Pr} {i j h:Nat}
theorem bs_pos (hij:j≤i) (hi:i≤qs.length) (h1:∀ k,k<i→ltP (ge qs k) p=true) (h2:∀ k,j≤k→k<qs.length→ltP (ge qs k) p=false):i=bsN qs p:=by
 have e1:(qs.take i).filter (fun q=>ltP q p)=qs.take i:=List.filter_eq_self.2 fun x hx=>by
  obtain⟨k,hk,_,rfl⟩:=Ze0 hx
  exact h1 k hk
 have e2:(qs.drop i).filter (fun q=>ltP q p)=[]:=List.filter_eq_nil_iff.2 fun x hx=>by
  obtain⟨k,hk,rfl⟩:=List.mem_drop_iff_getElem.1 hx
  have:=h2 (i+k) oz oz
  rw[Xj oz]at this
  simpa [Nat.add_comm]using this
 unfold bsN
 have e3:qs.filter (fun q=>ltP q p)=(qs.take i).filter (fun q=>ltP q p)++(qs.drop i).filter (fun q=>ltP q p):=by rw[←List.filter_append,List.take_append_drop]
 rw[e3,e1,e2,List.append_nil,List.length_take]
 omega
theorem bs_dec (hs:SrtP qs) (hij:j≤i) (h1:∀ k,k<i→ltP (ge qs k) p=true) (h2:∀ k,j≤k→k<qs.length→ltP (ge qs k) p=false):(decide ((i:Int)< (qs.length:Int))&&decide (Zgk (ge qs i) p=0))=decide (p∈qs):=by
 rw[←Bool.decide_and]
 congr 1
 rw[Zsl]
 exact propext ((Ztw hs hij h1 h2).trans ⟨fun⟨a,b⟩=>⟨oz,b⟩,fun⟨a,b⟩=>⟨oz,b⟩⟩).symm
theorem bs_up (hs:SrtP qs) (hh:h<qs.length) (hc:Zgk (ge qs h) p<0):∀ k,k<h+1→ltP (ge qs k) p=true:=fun k hk=>by
 rw[cmpT_lt]at hc
 rcases Nat.lt_or_ge k h with h3 | h3
 · exact ZaZ (hs.at h3 hh) hc
 · rw[show k=h by omega];exact hc
theorem Zw2 (hs:SrtP qs) (hc:¬ Zgk (ge qs h) p<0):∀ k,h≤k→k<qs.length→ltP (ge qs k) p=false:=fun k hk hkl=>by
 rw[cmpT_lt]at hc
 have hc:ltP (ge qs h) p=false:=by simpa using hc
 rcases Nat.lt_or_ge h k with h3 | h3
 · cases h4:ltP (ge qs k) p with
   | false=>rfl
   | true=>have:=ZaZ (hs.at h3 hkl) h4;rw[hc]at this;cases this
 · rw[show k=h by omega];exact hc
end

section
variable {α β:Type} [Inhabited α] {f:α→List β} {g:α→β} {xs:List α} {k:Nat} {q:List β}
theorem Zfd (hk:k<xs.length):(xs.take (k+1)).flatMap f=(xs.take k).flatMap f++f (ge xs k):=by
 rw[ZZ hk,List.flatMap_append]
 simp
theorem Zue (hk:k<xs.length) (h:q<+:f (ge xs k)):(xs.take k).flatMap f++q<+:xs.flatMap f:=by
 obtain⟨r,hr⟩:=h
 refine⟨r++(xs.drop (k+1)).flatMap f,?_⟩
 have e:xs.flatMap f=((xs.take (k+1))++xs.drop (k+1)).flatMap f:=by rw[List.take_append_drop]
 rw[e,List.flatMap_append,Zfd hk,←hr]
 simp
theorem ZvG (hk:k<xs.length):(xs.take k).map g++[g (ge xs k)]<+:xs.map g:=by
 refine⟨(xs.drop (k+1)).map g,?_⟩
 have e:xs.map g=((xs.take (k+1))++xs.drop (k+1)).map g:=by rw[List.take_append_drop]
 rw[e,List.map_append,Q7 hk]
end
def Zac (l:List Bd) (us:List BA) (s:BA):List BA:=QB (Yu (Z1 l) s) (QC us)
def rqB (l:List Bd) (us:List BA) (p:Pr) (x:BA):List Pr:=(Zac l us p.b).map fun y=>QN ⟨x,y⟩
def rqA (l:List Bd) (us:List BA) (p:Pr):List Pr:=(Zac l us p.a).flatMap (rqB l us p)
theorem ZnO (l:List Bd) (ap:List Pr) (us:List BA):Zcm l ap us=ap.flatMap (rqA l us):=rfl
theorem rq_pre {l:List Bd} {us:List BA} {ap:List Pr} {k j i:Nat} (hk:k<ap.length) (hj:j< (Zac l us (ge ap k).a).length) (hi:i< (Zac l us (ge ap k).b).length):
 (ap.take k).flatMap (rqA l us)++((Zac l us (ge ap k).a).take j).flatMap (rqB l us (ge ap k))++((Zac l us (ge ap k).b).take i).map (fun y=>QN ⟨ge (Zac l us (ge ap k).a) j,y⟩)++[QN ⟨ge (Zac l us (ge ap k).a) j,ge (Zac l us (ge ap k).b) i⟩]<+:Zcm l ap us:=by
 rw[ZnO,List.append_assoc,List.append_assoc]
 refine Zue hk (Zue hj ?_)
 exact ZvG (g:=fun y=>QN ⟨ge (Zac l us (ge ap k).a) j,y⟩) hi
theorem map_of {l rs:List Pr} (h1:rs.length=l.length) (h2:∀ i,i<l.length→ge rs i=QN (ge l i)):rs=l.map QN:=by
 apply List.ext_getElem (by simpa using h1)
 intro i hi hi2
 have h3:i<l.length:=by omega
 have:=h2 i h3
 rw[Xj hi,Xj h3]at this
 simpa using this
section
variable {l:List Bd} {ap wd qs pre:List Pr} {us:List BA} {p:Pr}
theorem Zup (h:Zw9 wd qs):(!decide (p∈qs)||decide (p.a=p.b))=Zfy wd p:=by
 unfold Zfy
 rw[show decide (p∈qs)=decide (p∈wd.map QN)from decide_eq_decide.2 (h.2.1 p)]
theorem Zw4 (hp:(pre++[p])<+:Zcm l ap us) (h1:∀ x∈pre,Zfy wd x=false) (h2:Zfy wd p=true):Zj4 l ap us wd=some p:=by
 obtain⟨r,hr⟩:=hp
 unfold Zj4
 rw[←hr,List.append_assoc,List.find?_append,List.find?_eq_none.2 (fun x hx=>by simp[h1 x hx])]
 simp[h2]
theorem Ztx (h1:∀ x∈Zcm l ap us,Zfy wd x=false):Zj4 l ap us wd=none:=List.find?_eq_none.2 fun x hx=>by simp[h1 x hx]
theorem Zrp (h1:∀ x∈pre,Zfy wd x=false) (h2:Zfy wd p=false):∀ x∈pre++[p],Zfy wd x=false:=fun x hx=>by
 rcases List.mem_append.1 hx with hx | hx
 · exact h1 x hx
 · rw[List.mem_singleton.1 hx];exact h2
theorem ZtU {m:Nat} (hu:∀ s∈us,s.size≤m) (h:p∈Zcm l ap us):p.a.size≤m∧p.b.size≤m:=by
 have hocc:∀ t x,x∈QB t (QC us)→x∈us:=fun t x hx=>mem_lstL.1 (mem_occL.1 hx).2
 unfold Zcm at h
 obtain⟨q,_,h⟩:=List.mem_flatMap.1 h
 obtain⟨x,hx,h⟩:=List.mem_flatMap.1 h
 obtain⟨y,hy,rfl⟩:=List.mem_map.1 h
 have h1:=hu x (hocc _ x hx)
 have h2:=hu y (hocc _ y hy)
 unfold QN
 split
 · exact⟨h2,h1⟩
 · exact⟨h1,h2⟩
end
end Go.Proofs.YtneapgbkkkjagaaGreatDoor
set_option maxHeartbeats 8000000
set_option maxRecDepth 100000
namespace Go.Proofs.YtneapgbkkkjagaaGreatDoor
open Go.RowKit
theorem Zmh {J:WP} (hJ:Stab J) (v:Value) (ps:List Pr) (hn:ps.length≤9223372036854775807):FnM (ι:=Value) Tryz.prog J 189 [] [.lit v] [OB.row v 104 2 (ps.map prC)] (fun i'=>.lit (i')) (fun i'=>[OB.row i' 104 2 ((Zdw ps ps.length).map prC)]):=by
 refine fEM Tryz.func189 fun S w0 R hS hJ0 hH=>?_
 refine Yq (B:=So J S w0 61 (OB.row v 104 2 (ps.map prC)::R) [(0,.lit v)]) ?_ fun a w h=>h
 refine qso tb hJ [0] [_] [_] ?_
 refine Ze (ZG tb hJ [0,1002] [_,.int (ps.length:Nat),_] [1] U2 rfl ⟨fun _ _ _ hx hl _=>Zb2 (by rw[List.length_map]) ZL rfl (Zh hx (mo 0 rfl)) (hl.D 0 6 rfl rfl) hx,trivial⟩ ?_)
 refine cj 1 (fun hb1=>?_) fun hb1=>?_
 ·
  try simp at hb1
  refine qso tb hJ [1001] U2 [_] ?_
  exact tw (ob0 (congrArg (fun z'=>OB.row v 104 2 ((z').map prC)) (show ps=(Zdw ps ps.length)from by first | exact Zfm oz | exact(f2_5.trans (by congr 1;omega)) | exact ZjM oz f1_2 f1_3))) (ZA (fun a w h=>Yg  (m:=0) v rfl h rfl rfl))
 ·
  try simp at hb1
  refine Zb (nx (Ze (qso tb hJ [0,1000] [_] U2 ?_)))
  refine Zc (lpo (ι:=Nat) (fun k=>(1≤k)∧(k≤ps.length)∧(Zdw ps k=ps.take k)) (fun _=>(OB.row v 104 2 (ps.map prC)::R)) (fun k=>[(3,.int (k:Nat))]) (fun k=>ps.length-k) [0,1] [_] 1 ⟨oz,oz,Zv9 oz⟩ ?_)
  rintro k ⟨f1_1,f1_2,f1_3⟩
  refine Ze (ZG tb hJ [0,1,1003] [_,_,.int (ps.length:Nat),_] [2] U3 rfl ⟨fun _ _ _ hx hl _=>Zb2 (by rw[List.length_map]) ZL rfl (Zh hx (mo 0 rfl)) (hl.D 1 11 rfl rfl) hx,trivial⟩ ?_)
  refine cj 2 (fun hb2=>?_) fun hb2=>?_
  ·
   try simp at hb2
   refine Zb (nx (Ze (Zc (ZG tb hJ [0,1,1009] [_,_,.lit (Y8 v (k*2)),.agg (prC (ge ps k)),_,_,.int (k-1:Nat),.lit (Y8 v ((k-1)*2)),.agg (prC (ge ps (k-1))),.bool (decide ((ge ps k).a=(ge ps (k-1)).a)&&decide ((ge ps k).b=(ge ps (k-1)).b))] [2,3,6,7,8,9] U3 rfl ⟨fun _ _ _ hx hl _=>YP (i:=(k:Int)) Zt rfl (Zh hx (mo 0 rfl)) (hl.D 0 16 rfl rfl) (hl.D 1 17 rfl rfl) nnn (by rw[List.length_map];exact Int.ofNat_lt.2 sfz) hx,fun _ _ _ hx hl _=>QH (i:=k) YR rfl (Zh hx (mo 0 rfl)) (hl.D 2 18 rfl rfl) (Qq (xs:=ps) (k:=k) sfz) rfl hx,fun _ _ _ hx hl _=>ZnX (i:=k) (j:=1) rfl (hl.D 5 21 rfl rfl) (Rel.of_lit (.int .i64 1)) sfz sfz hx,fun _ _ _ hx hl _=>YP (i:=((k-1:Nat):Int)) Zt rfl (Zh hx (mo 0 rfl)) (hl.D 4 20 rfl rfl) (hl.D 6 22 rfl rfl) nnn (by rw[List.length_map];exact Int.ofNat_lt.2 sfz) hx,fun _ _ _ hx hl _=>QH (i:=k-1) YR rfl (Zh hx (mo 0 rfl)) (hl.D 7 23 rfl rfl) (Qq (xs:=ps) (k:=k-1) sfz) rfl hx,fun _ _ _ hx hl _=>Zn0 Zgj rfl (hl.D 3 19 rfl rfl) (hl.D 8 24 rfl rfl) hx,trivial⟩ ?_))))
   refine cj 2 (fun hb3=>?_) fun hb3=>?_
   ·
    try simp at hb3
    have e3:ge ps k=ge ps (k-1):=ZtY hb3.1 hb3.2
    refine ZG tb hJ [0,1,1003] [_,_,.lit (ZfY v k 2),_] [2] U3 rfl ⟨fun _ _ _ hx hl _=>ZhP (lo:=k) Zt rfl (Zh hx (mo 0 rfl)) (hl.D 0 26 rfl rfl) (hl.D 1 27 rfl rfl) (by rw[List.length_map];exact sfz) hx,trivial⟩ ?_
    refine Ze (qso tb hJ [0,1,2,1000] [_] U4 ?_)
    refine Zc (lpo (ι:=Nat×Nat×(List Pr)) (fun(m,j,rs)=>(1≤m)∧(k+m≤ps.length)∧(rs.length=ps.length)∧(∀ i,k+m-1≤i→i<ps.length→ge rs i=ge ps i)∧(rs.take j=Zdw ps (k+m))∧(j≤k+m-1)∧(k≤j)) (fun(_,_,rs)=>(OB.row v 104 2 (rs.map prC)::R)) (fun(m,j,_)=>[(5,.int (m:Nat)),(3,.int (j:Nat))]) (fun(m,_,_)=>ps.length-(k+m)) [0,2,3,1] U2 (1,k,ps) ⟨Nat.le_refl _,oz,rfl,fun _ _ _=>rfl,by rw[Zfn oz e3,f1_3],Nat.le_refl _,Nat.le_refl _⟩ ?_)
    rintro⟨m,j,rs⟩ ⟨f2_1,f2_2,f2_3,f2_4,f2_5,f2_6,f2_7⟩
    refine Ze (ZG tb hJ [0,1,2,3,1003] [_,_,.int (rs.length-k:Nat),_] [2] U5 rfl ⟨fun _ _ _ hx hl _=>Zra (by rw[List.length_map]) ZL rfl (Zh hx (mo 0 rfl)) (hl.D 1 30 rfl rfl) hx,trivial⟩ ?_)
    refine cj 4 (fun hb4=>?_) fun hb4=>?_
    ·
     try simp at hb4
     refine Zb (nx (Ze (Zc (ZG tb hJ [0,1,2,3,1009] [_,_,.lit (Y8 v ((k+m)*2)),.agg (prC (ge rs (k+m))),_,_,.int (m-1:Nat),.lit (Y8 v ((k+(m-1))*2)),.agg (prC (ge rs (k+(m-1)))),.bool (!(decide ((ge rs (k+m)).a=(ge rs (k+(m-1))).a)&&decide ((ge rs (k+m)).b=(ge rs (k+(m-1))).b)))] [2,3,6,7,8,9] U5 rfl ⟨fun _ _ _ hx hl _=>ZaW (lo:=k) (i:=(m:Int)) Zt rfl (Zh hx (mo 0 rfl)) (hl.D 0 35 rfl rfl) (hl.D 1 36 rfl rfl) nnn (by rw[List.length_map];exact sfz) hx,fun _ _ _ hx hl _=>QH (i:=(k+m)) YR rfl (Zh hx (mo 0 rfl)) (hl.D 2 37 rfl rfl) (Qq (xs:=rs) (k:=(k+m)) sfz) rfl hx,fun _ _ _ hx hl _=>ZnX (i:=m) (j:=1) rfl (hl.D 5 40 rfl rfl) (Rel.of_lit (.int .i64 1)) sfz sfz hx,fun _ _ _ hx hl _=>ZaW (lo:=k) (i:=((m-1:Nat):Int)) Zt rfl (Zh hx (mo 0 rfl)) (hl.D 4 39 rfl rfl) (hl.D 6 41 rfl rfl) nnn (by rw[List.length_map];exact sfz) hx,fun _ _ _ hx hl _=>QH (i:=(k+(m-1))) YR rfl (Zh hx (mo 0 rfl)) (hl.D 7 42 rfl rfl) (Qq (xs:=rs) (k:=(k+(m-1))) sfz) rfl hx,fun _ _ _ hx hl _=>ZnZ Zgj rfl (hl.D 3 38 rfl rfl) (hl.D 8 43 rfl rfl) hx,trivial⟩ ?_))))
     refine cj 4 (fun hb5=>?_) fun hb5=>?_
     ·
      try simp at hb5
      have e4:¬ ge ps (k+m)=ge ps (k+m-1):=fun e=>by rw[←f2_4 _ oz oz,←f2_4 _ nlr oz]at e;rw[show k+(m-1)=k+m-1 by omega,e]at hb5;simp at hb5
      refine tsq (snK 4 tb rfl (sy (.lit (Y8 v ((k+m)*2))) (fun h=>ZaW (lo:=k) (i:=(m:Int)) Zt rfl (Zh h.x (mo 0 rfl)) (h.get 1 rfl) (h.get 0 rfl) nnn (by rw[List.length_map];exact sfz) h.x) ?_))
      refine sy (.agg (prC (ge rs (k+m)))) (fun h=>QH (i:=(k+m)) YR rfl (Zh h.x (mo 0 rfl)) (h.get 0 rfl) (Qq (xs:=rs) (k:=(k+m)) sfz) rfl h.x) ?_
      refine sy (.lit (Y8 v (j*2))) (fun h=>YP (i:=(j:Int)) Zt rfl (Zh h.x (mo 0 rfl)) (h.get 5 rfl) (h.get 4 rfl) nnn (by rw[List.length_map];exact Int.ofNat_lt.2 sfz) h.x) ?_
      refine ZaB (i:=j) hJ hJ0 YK rfl rfl rfl (by rw[List.length_map];exact sfz) rfl (fun a w h=>⟨(h.get 0 rfl),(h.get 1 rfl)⟩) ?_
      rw[show(rs.map prC).set j (prC (ge rs (k+m)))=(rs.set j (ge rs (k+m))).map prC from List.map_set.symm]
      refine seK [7,8,9,10] U4 rfl (nx (Yo tb hJ [0,1,2,1002] [_,.int (j+1:Nat),_] [1] U4 rfl ⟨Z7,trivial⟩ ?_))
      refine nx (Yo tb hJ [0,1,3,1002] [_,.int (m+1:Nat),_] [1] U4 rfl ⟨Z7,trivial⟩ ?_)
      exact YE (m+1,j+1,rs.set j (ge rs (k+m))) [0,1,3,2] ⟨oz,oz,by rw[List.length_set];exact f2_3,fun i h1 h2=>by rw[Zpd oz];exact f2_4 i oz h2,by rw[take_set oz,f2_5,f2_4 _ oz oz];exact(Zhe (.inr e4)).symm,oz,oz⟩
     ·
      try simp at hb5
      have e4:ge ps (k+m)=ge ps (k+m-1):=by rw[←f2_4 _ oz oz,←f2_4 (k+m-1) nlr oz];rw[show k+(m-1)=k+m-1 by omega]at hb5;exact ZtY hb5.1 hb5.2
      refine Zb (nx (Yo tb hJ [0,1,3,1002] [_,.int (m+1:Nat),_] [1] U4 rfl ⟨Z7,trivial⟩ ?_))
      exact YE (m+1,j,rs) [0,1,3,2] ⟨oz,oz,f2_3,fun i h1 h2=>f2_4 i oz h2,by rw[f2_5];exact(Zfn oz e4).symm,oz,f2_7⟩
    ·
     try simp at hb4
     refine Zs (nx (tsq (snK 2 tb rfl (sy (.lit (ZfY v j 2)) (fun h=>ZhP (lo:=j) Zt rfl (Zh h.x (mo 0 rfl)) (h.get 1 rfl) (h.get 0 rfl) (by rw[List.length_map];exact sfz) h.x) ?_))))
     refine ZgL (lo:=j) Zex ZL dz hJ hJ0 rfl rfl rfl (by rw[List.length_map];exact sfz) (fun a w h=>(h.get 0 rfl)) ?_
     rw[←List.map_take]
     refine seK [3,6] U2 rfl (nx (ZG tb hJ [1003] [_,_,.lit (Zcw v j),_] [2] [_] rfl ⟨fun _ _ _ hx hl _=>ZhS (m:=j) Zt rfl (Zh hx (mo 0 rfl)) (by first | rfl | (rw[List.length_map];exact sfz)) (hl.D 0 57 rfl rfl) (hl.D 1 58 rfl rfl) hx,trivial⟩ ?_))
     exact tw (ob0 (congrArg (fun z'=>OB.row (Zcw v j) 104 2 ((z').map prC)) (show(rs.take j)=(Zdw ps ps.length)from by first | exact Zfm oz | exact(f2_5.trans (by congr 1;omega)) | exact ZjM oz f1_2 f1_3))) (ZA (fun a w h=>Yg  (m:=0) (Zcw v j) rfl h rfl rfl))
   ·
    try simp at hb3
    have e3:¬ ge ps k=ge ps (k-1):=fun e=>by simp[e]at hb3
    refine Zb (nx (Yo tb hJ [0,1002] [_,.int (k+1:Nat),_] [1] U2 rfl ⟨Z7,trivial⟩ ?_))
    exact YE (k+1) [0,1] ⟨oz,oz,Zsh oz f1_3 e3⟩
  ·
   try simp at hb2
   refine Zs (nx (qso tb hJ [1001] U2 [_] ?_))
   exact tw (ob0 (congrArg (fun z'=>OB.row v 104 2 ((z').map prC)) (show ps=(Zdw ps ps.length)from by first | exact Zfm oz | exact(f2_5.trans (by congr 1;omega)) | exact ZjM oz f1_2 f1_3))) (ZA (fun a w h=>Yg  (m:=0) v rfl h rfl rfl))
theorem p_bsP {J:WP} (hJ:Stab J) (xs:List Pr) (p:Pr) (f:FuncId) (caps:List AV) (hf:∀ x' y',FnR Tryz.prog J f [] ([.agg (prC (x')),.agg (prC (y'))]++caps) (.int (Zgk x' y'))) (hk0:Zk Tryz.prog f) (hs:SrtP xs) (hn:xs.length≤4000000000000000000):Fn Tryz.prog J 173 [.rd (YV xs),.agg (prC p),.fn f caps] (.tup [.int (bsN xs p:Nat),.bool (decide (p∈xs))]):=by
 refine fE Tryz.func173 fun S w0 hS hJ0=>?_
 clear hJ0
 refine ln 0 fun hl1=>?_
 refine hqs tb hJ [0,2,1000] [.ptr (prC p),_,_] [0] U3 rfl ⟨iBs hS hJ,trivial⟩ ?_
 refine hqs tb hJ [0,1,2,1002] [_,.int (xs.length:Nat),_] [1] U4 rfl ⟨Z3 ZL,trivial⟩ ?_
 refine qs tb hJ [0,1,2,3,1001,1002] U3 U6 ?_
 refine Ze (Zc (lp (ι:=Nat×Nat) (fun(i,j)=>(i≤j)∧(j≤xs.length)∧(∀ k,k<i→ltP (ge xs k) p=true)∧(∀ k,j≤k→k<xs.length→ltP (ge xs k) p=false)) (fun(i,j)=>[(9,.int (i:Nat)),(10,.int (j:Nat))]) (fun(i,j)=>j-i) (r6 []) U4 (0,xs.length) ⟨nzl,Nat.le_refl _,fun k hk=>by omega,fun k hk hl=>by omega⟩ ?_))
 rintro⟨i,j⟩ ⟨f1_1,f1_2,f1_3,f1_4⟩
 refine Ze (qs tb hJ (r6 [1002]) U3 U7 ?_)
 refine cj 6 (fun hb1=>?_) fun hb1=>?_
 ·
  try simp at hb1
  refine Zb (nx (Zc (hqs tb hJ (r6 [1006]) [_,_,.int (i+j:Nat),.rd (.lit (.int .u64 (((i+j):Nat):Int))),.rd (.lit (.int .u64 ((((i+j)/2):Nat):Int))),.int (((i+j)/2):Nat),_] [2,3,4,5] U7 rfl ⟨Z7,fun _ _ _ hx hl _=>r_toU (k:=(i+j)) XT ZdS rfl (hl.D 2 20 rfl rfl) sfz hx,fun _ _ _ hx hl _=>r_half (k:=(i+j)) rfl (hl.D 3 21 rfl rfl) (Rel.of_lit (.int .u64 1)) hx,fun _ _ _ hx hl _=>r_ofU (k:=((i+j)/2)) ZdS XT rfl (hl.D 4 22 rfl rfl) sfz hx,trivial⟩ ?_)))
  refine hqs tb hJ (r7 [1007]) (V3 [.ptr (prC (ge xs ((i+j)/2))),_,_,.int (Zgk (ge xs ((i+j)/2)) p),_]) [3,6] U8 rfl ⟨iIx Zt,fun _ _ hk hx hl _=>ZaX (hf (ge xs ((i+j)/2)) p) hk0 rfl (hl.D 0 24 rfl rfl) (nm hS hk) (hx) Zv (Za (hl.D 4 28 rfl rfl) (Za (hl.D 5 29 rfl rfl) Zg)) (js hJ hx),trivial⟩ ?_
  refine cj 7 (fun hb2=>?_) fun hb2=>?_
  ·
   try simp at hb2
   refine hqp tb hJ [0,1,2,3,5,1002] [_,.int (((i+j)/2)+1:Nat),_] [1] U6 rfl ⟨Z7,trivial⟩ ?_
   exact lpE (((i+j)/2)+1,j) [0,1,2,3,5,4] ⟨oz,oz,bs_up hs oz hb2,f1_4⟩
  ·
   try simp at hb2
   refine qp tb hJ (r5 [1001]) U2 U6 ?_
   exact lpE (i,((i+j)/2)) (r6 []) ⟨oz,oz,f1_3,Zw2 hs oz⟩
 ·
  try simp at hb1
  refine Zs (nx (hqs tb hJ [1014,1015] (V8 [.ptr (prC (ge xs i)),_,_,.int (Zgk (ge xs i) p),_,_,_,_]) [8,11] U2 rfl ⟨gIx Zt (hk:=fun(hc':((decide ((i:Int)< (xs.length:Int)))==true)=true)=>by(try simp at hc');first | omega | (simp;omega) | grind[Zu]),fun _ _ hk hx hl hc=>ZaX (hf (ge xs i) p) hk0 rfl (hl.D 5 40 rfl hc) (nm hS hk) (hx) Zv (Za (hl.D 9 44 rfl hc) (Za (hl.D 10 45 rfl hc) Zg)) (js hJ hx),trivial⟩ ?_))
  exact ZA (fun a w h=>Y0 (m:=0) (k:=1) rfl h rfl rfl (eI (by rw[bs_pos (p:=p) oz oz f1_3 f1_4])) (eB (bs_dec hs oz f1_3 f1_4)))
def OB.obj (l:Nat) (o:Obj):OB where
 blk:=fun k=>k=l
 inv:=fun lo _ w=>lo≤l∧l<w.heap.size∧w.heap[l]?=some o
 mv:=fun⟨h1,h2,h3⟩ hk hb _=>⟨h1,by have:=hk.size;omega,(hk.block _ h2 (hb _ rfl)).trans h3⟩
 lt:=fun⟨h1,h2,_⟩ k hk=>by subst hk;exact⟨h1,h2⟩
section
variable {P:Program} {J:WP} {S:Nat→Prop} {O:List OB} {w0 w:World}
theorem QG {l:Nat} {o:Obj} (o':Obj) (hJ:Stab J) (hJ0:J w0) (hk:Keeps All w0 w) (hx:XO J S w0.heap.size (OB.obj l o::O) w):Zbp J S w0 (OB.obj l o::O) w (OB.obj l o'::O) (w.putObj l o'):=by
 obtain⟨h1,h2,h3⟩:=hx.2.1 (OB.obj l o) yz
 have hk':Keeps All w0 (w.putObj l o'):=hk.putObj (fun hlt=>by omega) o'
 have hkk:Keeps (fun b=>¬ (OB.obj l o).blk b) w (w.putObj l o'):=(Keeps.refl _ _).putObj (fun _ hn=>hn rfl) o'
 obtain⟨g1,g2⟩:=Zkd (o':=OB.obj l o') hx (hJ _ _ hk' hJ0) hkk (fun k hk=>.inl hk) ⟨h1,by simpa using h2,World.putObj_heap_same h2⟩
 exact⟨hk',g1,fun av u hr=>Rel.move hkk g2 hr⟩
theorem Zm0 {o:OB} (h:XO J S w0.heap.size (o::O) w):XO J S w0.heap.size O w:=
 ⟨h.1,fun p hp=>OB.sub (h.2.1 p (List.mem_cons_of_mem _ hp)) fun _ _ hk=>hk.drop,(List.pairwise_cons.1 h.2.2).2⟩
theorem perm_mid {A B:List OB} {x:OB}:(A++x::B).Perm (x::(A++B)):=List.perm_middle
def rndQ {κ μ σ:Type} (J:WP) (S:Nat→Prop) (w0:World) (I':κ→List OB) (pv:μ→Value) (O3:μ→List OB) (O4:σ→List OB) (R:List OB):Exit→Act→WP
 | .normal,_,w=>∃ k,Keeps All w0 w∧XO J S w0.heap.size (I' k++R) w
 | .ret,_,w=>∃ s,Keeps All w0 w∧XO J S w0.heap.size (O4 s++R) w
 | .panic ch,a,w=>∃ q,ch=pch (pv q)∧a.defers=[]∧Keeps All w0 w∧XO J S w0.heap.size (O3 q++R) w
 | _,_,_=>False
def rndE {κ μ σ:Type} (J:WP) (S:Nat→Prop) (w0:World) (I':κ→List OB) (pv:μ→Value) (O3:μ→List OB) (O4:σ→List OB) (R:List OB) (e:Ending) (w:World):Prop:=
 (e= .returned (.bool true)∧∃ k,Keeps All w0 w∧XO J S w0.heap.size (I' k++R) w)∨(e= .returned (.bool false)∧∃ s,Keeps All w0 w∧XO J S w0.heap.size (O4 s++R) w)∨(∃ q,e= .panicked (pch (pv q))∧Keeps All w0 w∧XO J S w0.heap.size (O3 q++R) w)
def ZtS {κ μ σ:Type} (J:WP) (S:Nat→Prop) (w0:World) (I':κ→List OB) (pv:μ→Value) (O3:μ→List OB) (O4:σ→List OB) (R:List OB) (fl:Option Value) (e:Ending) (w:World):Prop:=
 (fl=none∧∃ v k,e= .returned v∧Keeps All w0 w∧XO J S w0.heap.size (I' k++R) w)∨
 (∃ v k,fl=some v∧e= .panicked (pch v)∧Keeps All w0 w∧XO J S w0.heap.size (I' k++R) w)∨
 (∃ v s,e= .returned v∧Keeps All w0 w∧XO J S w0.heap.size (O4 s++R) w)∨
 (∃ q,e= .panicked (pch (pv q))∧Keeps All w0 w∧XO J S w0.heap.size (O3 q++R) w)
def SeqE {α:Type} (P:Program) (J:WP) (g:FuncId) (Hs:List OB) (avc:List AV) (enc:α→Value) (xs:List α) (fl:Option Value):Prop:=
 ∀(S:Nat→Prop) (w0:World) (R:List OB) (w:World) (l n:Nat) (us:List Value) (κ μ σ:Type) (I:List α→κ→List OB) (pv:μ→Value) (O3:μ→List OB) (O4:σ→List OB) (k0:κ),
  (∀ b,w0.heap.size≤b→S b)→J w0→Has Hs S w0→Keeps All w0 w→XO J S w0.heap.size (I [] k0++R) w→RelL (SO S (I [] k0++R)) w avc us→
  (∀(m:Nat) (R':List OB) (pre:List α) (x:α) (k:κ) (w1:World),(pre++[x])<+:xs→Keeps All w0 w1→XO J S w0.heap.size (I pre k++R') w1→YieldAt Fence.wide m P l #[enc x] w1 (rndE J S w0 (I (pre++[x])) pv O3 O4 R'))→
  CallsIn Fence.wide n P g (#[.func (.yield l) #[] #[]]++us.toArray) w (ZtS J S w0 (I xs) pv O3 O4 R fl)
end
section
variable {n:Rn} {N:Nat} {P:Program} {J:WP} {S:Nat→Prop} {O:List OB} {w0:World} {env:List (Nat×AV)} {Q:Exit→Act→WP}
theorem Zef {κ μ σ:Type} {ops:Array Oper} {o:Oper} {rest:List Oper} {R:List OB} {d l:Nat} {x callee:Operand} {ts:Array TypeId} {v:Value} {I':κ→List OB} {pv:μ→Value} {O3:μ→List OB} {O4:σ→List OB} (hr:n.r=none) (hg:o.guard=none) (hop:o.op= .call { callee:=.value callee,args:= #[x],argTypes:=ts }) (hd:o.dst=some d) (hN:d<N)
 (hc:∀ a w,So J S w0 N (O++R) env a w→a.eval callee= .func (.yield l) #[] #[]) (hv:∀ a w,So J S w0 N (O++R) env a w→a.eval x=v)
 (hY:∀(m:Nat) (R':List OB) (w1:World),Keeps All w0 w1→XO J S w0.heap.size (O++R') w1→YieldAt Fence.wide m P l #[v] w1 (rndE J S w0 I' pv O3 O4 R'))
 (pan:∀ q a w,So J S w0 N (O3 q++R) env a w→Q (.panic (pch (pv q))) a w)
 (stop:∀ s a w,So J S w0 N (O4 s++R) ((d,.bool false)::YM d env) a w→wpListIn n.F n.d P ops Q rest a w)
 (next:∀ k a w,So J S w0 N (I' k++R) ((d,.bool true)::YM d env) a w→wpListIn n.F n.d P ops Q rest a w):
 ∀ a w,So J S w0 N (O++R) env a w→wpListIn n.F n.d P ops Q (o::rest) a w:=fun a w h=>by
 obtain⟨nd,nr⟩:=n
 subst hr
 refine wpListIn_plain hg fun K' hK=>?_
 let B:AV→Value→Prop:=fun av v=>Rel (SO S (O++R)) w av v
 have hx2:=Zkc (B:=B) h.x fun _ _ h=>h
 obtain⟨fn,tmps,assign,body,hy,hR⟩:=hY (nd-1) (OB.was B::R) w h.keep hx2
 have hrun:(execOp a.eval o).run P w= .ok (.round l fn tmps assign body) w:=by
  simp only[execOp,hop,resolve,hc a w h,Deferred.ofValue,Sem.run_bind,Sem.run_pure,Result.andThen_ok,invoke]
  simp[hv a w h]
  exact hy
 refine⟨fun _ _=>trivial,?_⟩
 show o.uponIn _ nd P a K' Q ((o.semAt none a.eval).run P w)
 rw[Oper.semAt_none,hrun]
 refine⟨fun h=>by simp[Rn.F,Fence.wide]at h,RoundIn.mono hR fun e w' he=>?_⟩
 rcases he with⟨rfl,k,hk',hx'⟩ | ⟨rfl,s,hk',hx'⟩ | ⟨q,rfl,hk',hx'⟩
 · obtain⟨g1,g2⟩:=ZbV hx'
   rw[hd]
   exact hK _ _ (next k _ _ (h.step ⟨hk',g1,g2⟩ hN (Rel.of_lit _)))
 · obtain⟨g1,g2⟩:=ZbV hx'
   rw[hd]
   exact hK _ _ (stop s _ _ (h.step ⟨hk',g1,g2⟩ hN (Rel.of_lit _)))
 · obtain⟨g1,g2⟩:=ZbV hx'
   exact pan q _ _ (h.step0 ⟨hk',g1,g2⟩ undef)

def Code.wpAt (fid:FuncId) (P:Program) (c:Code) (Q:Exit→Act→WP) (a:Act) (w:World):Prop:=
 ∀(b:Frame) (k:List Item) (cs:List Frame),b.roundOf=none→b.fn=fid→
  ∃ e a' w',Q e a' w'∧ArrivesIn (Machine.fenced P Fence.wide) P (lone (b.atR a (.code c::k)) cs w) b k cs e a' w'
variable {fid:FuncId} {a:Act} {w:World}
theorem X3 (k:Nat):Fence.wide.room k:=fun _ hd=>by simp[Fence.wide]at hd
theorem at_of {m:Nat} {c:Code} (h:c.wpIn Fence.wide m P Q a w):Code.wpAt fid P c Q a w:=fun b k cs hr _=>h b k cs hr trivial (X3 _)
theorem Zuq {x y:Code} (h:Code.wpAt fid P x (Exit.then (Code.wpAt fid P y Q) Q) a w):Code.wpAt fid P (.seq x y) Q a w:=by
 intro b k cs hro hb
 have h0:(lone (b.atR a (.code (.seq x y)::k)) cs w).fenced P Fence.wide:=fenced_calm (n:=0) trivial (X3 _) rfl
 obtain⟨e,a₁,w₁,hq,harr⟩:=h b (.code y::k) cs hro hb
 cases e with
 | normal=>
  obtain⟨e₂,a₂,w₂,hq₂,harr₂⟩:=hq b k cs hro hb
  exact⟨e₂,a₂,w₂,hq₂,.of_steps (.head h0 stepR_seq harr) harr₂⟩
 | exit id=>exact⟨_,a₁,w₁,hq,.of_steps (.one h0 stepR_seq) (.pass (x:=.code y) rfl (fun _ _=>.inl yz) harr)⟩
 | goto l=>exact⟨_,a₁,w₁,hq,.of_steps (.one h0 stepR_seq) (.pass (x:=.code y) rfl (fun _ _=>.inl yz) harr)⟩
 | ret=>exact⟨_,a₁,w₁,hq,.of_steps (.one h0 stepR_seq) (.pass (x:=.code y) rfl (fun _ _=>.inl yz) harr)⟩
 | panic ch=>exact⟨_,a₁,w₁,hq,.of_steps (.one h0 stepR_seq) (.pass (x:=.code y) rfl (fun _ _=>.inl yz) harr)⟩
 | outgrown=>exact⟨_,a₁,w₁,hq,.of_steps (.one h0 stepR_seq) (.pass (x:=.code y) rfl (fun _ _=>.inl yz) harr)⟩
theorem ZbS {f:FuncId} {fn:Func} {c:Code} {args:Array Value} {R:Ending→WP} (hf:P.funcs[f]?=some fn) (hb:fn.body=some c)
 (h:Code.wpAt f P c (bodyPostM Fence.wide 5 P fn R) { tmps:=args++Array.replicate (fn.ntmps-args.size) undef,defers:=[] } w):Calls P f args w R:=by
 refine(callsIn_wide (n:=5)).1 ⟨trivial,fun cs hr=>?_⟩
 let b:Frame:= { (default:Frame)with fn:=f,kind:=.normal,roundOf:=none }
 have henter:Frame.enter P f args .normal=
  b.atR { tmps:=args++Array.replicate (fn.ntmps-args.size) undef,defers:=[] } [.code c]:=by
  simp[Frame.enter,Frame.atR,hf,hb,b]
 obtain⟨e,a',w',hq,harr⟩:=h b [] cs rfl rfl
 rw[←henter]at harr
 have hF:Fence.wide.fn f:=trivial
 cases e with
 | normal=>
  obtain⟨e',w'',fr',hR,hs,hfn,hl⟩:=leaves_stepsInM a'.defers .returning w' { b.atR a' []with mode:=.returning } cs rfl rfl rfl hf rfl hF hr hq
  exact⟨e',w'',fr',hR,ComesIn.of_steps (StepsIn.trans harr (.one (fenced_calm (fr:=b.atR a' []) hF hr rfl) (stepR_end rfl))) hs,hfn,hl⟩
 | ret=>
  obtain⟨todo,hs₀⟩:=harr.1 rfl
  obtain⟨e',w'',fr',hR,hs,hfn,hl⟩:=leaves_stepsInM a'.defers .returning w' { b.atR a' todo with mode:=.returning } cs rfl rfl rfl hf rfl hF hr hq
  exact⟨e',w'',fr',hR,ComesIn.of_steps hs₀ hs,hfn,hl⟩
 | panic chain=>
  obtain⟨todo,hs₀⟩:=harr
  obtain⟨e',w'',fr',hR,hs,hfn,hl⟩:=leaves_stepsInM a'.defers (.panicking chain) w' { b.atR a' todo with mode:=.panicking chain } cs rfl rfl rfl hf rfl hF hr hq
  exact⟨e',w'',fr',hR,ComesIn.of_steps hs₀ hs,hfn,hl⟩
 | exit id=>exact hq.elim
 | goto l=>exact hq.elim
 | outgrown=>exact⟨.outgrown,w',b,hq,harr.resolve_left (by simp[b]),rfl,trivial⟩
theorem Zvu {fn:Func} {R:Ending→WP} {v:Value} (hd:a.defers=[]) (hr:(results fn a.tmps).run P w= .ok v w) (h:R (.returned v) w):bodyPostM Fence.wide 5 P fn R .ret a w:=by
 show LeavesInM Fence.wide 5 P fn a.tmps R a.defers .returning w
 rw[hd];exact⟨v,hr,h⟩
theorem Zvv {fn:Func} {R:Ending→WP} {ch:List PanicEntry} (hd:a.defers=[]) (h:R (.panicked ch) w):bodyPostM Fence.wide 5 P fn R (.panic ch) a w:=by
 show LeavesInM Fence.wide 5 P fn a.tmps R a.defers (.panicking ch) w
 rw[hd];exact h
theorem ZrJ {fn:Func} {R:Ending→WP} {v:Value} {D:Nat} (hd:a.defers=[{ target:=.collected D,args:= #[] }]) (hD:w.heap[D]?=some (.deferred (some []))) (hr:(results fn a.tmps).run P (w.putObj D (.deferred none))= .ok v (w.putObj D (.deferred none))) (h:R (.returned v) (w.putObj D (.deferred none))):bodyPostM Fence.wide 5 P fn R .normal a w:=by
 show LeavesInM Fence.wide 5 P fn a.tmps R a.defers .returning w
 rw[hd];exact⟨by simp,.inl ⟨D,_,rfl,run_takeDeferred hD,⟨v,hr,h⟩⟩⟩
theorem ZrK {fn:Func} {R:Ending→WP} {ch:List PanicEntry} {D:Nat} (hd:a.defers=[{ target:=.collected D,args:= #[] }]) (hD:w.heap[D]?=some (.deferred (some []))) (h:R (.panicked ch) (w.putObj D (.deferred none))):bodyPostM Fence.wide 5 P fn R (.panic ch) a w:=by
 show LeavesInM Fence.wide 5 P fn a.tmps R a.defers (.panicking ch) w
 rw[hd];exact⟨by simp,.inl ⟨D,_,rfl,run_takeDeferred hD,h⟩⟩
theorem ZiW {m:Nat} {g:Operand} {ps:Array Tmp} {assign body:Code}
 (h:∃(l:Nat) (mark:List Deferred) (w₁:World) (d:Deferred) (w₁':World) (f:FuncId) (args:Array Value) (w₂:World),
  (Instr.enterLoop fid a.tmps ps assign body none).run P w= .ok (l,mark) w₁∧
  (resolve a.eval (rangeCall g l) 0).run P w₁= .ok d w₁'∧
  (invoke d.target d.args).run P w₁'= .ok (.enter f args) w₂∧
  CallsIn Fence.wide m P f args w₂ (rangePost Fence.wide m P l Q { a with defers:=mark++a.defers })):
 Code.wpAt fid P (.rangeFunc g ps assign body) Q a w:=by
 intro b k cs hro hb
 obtain⟨l,mark,w₁,d,w₁',f,args,w₂,he,hres,hinv,hF,hcall⟩:=h
 subst hb
 rw[←hro]at he
 have h0:(lone (b.atR a (.code (.rangeFunc g ps assign body)::k)) cs w).fenced P Fence.wide:=
  fenced_lone (.inl trivial) (fun f' _=>trivial) (X3 _)
 have henter:=stepR_rangeFunc (P:=P) (b:=b) (a:=a) (k:=k) (cs:=cs) (w:=w) he hres hinv
 obtain⟨e,w₃,fr,hR,hsteps,hfn,hleave⟩:=hcall (b.atR { a with defers:=mark++a.defers } (.inRangeFunc l::k)::cs) (X3 _)
 cases e with
 | outgrown=>
  obtain⟨a₀,w₀,hq⟩:=hR
  exact⟨.outgrown,a₀,w₀,hq,.inr (Outgrown.of_steps (.one henter) hsteps)⟩
 | returned v=>
  have hl:(lone fr (b.atR { a with defers:=mark++a.defers } (.inRangeFunc l::k)::cs) w₃).fenced P Fence.wide:=fenced_leaving (n:=m) trivial (X3 _) hleave
  obtain⟨jump,w₄,hend,hj⟩:=hR
  have sback:StepsIn (Machine.fenced P Fence.wide) P (lone (b.atR a (.code (.rangeFunc g ps assign body)::k)) cs w) (lone (b.atR { a with defers:=mark++a.defers } ((jump.map Item.code).toList++k)) cs w₄):=by
   refine .head h0 henter (StepsIn.trans hsteps (.head hl ?_ (.one (fenced_calm (n:=m) (fr:=b.atR { a with defers:=mark++a.defers } (.endRangeFunc l::k)) trivial (X3 _) rfl) (stepR_endRangeFunc hend))))
   rw[←finish_atR_inRangeFunc l v];exact step_leave_returned hleave
  cases jump with
  | none=>exact⟨.normal,_,w₄,hj,sback⟩
  | some c=>
   obtain⟨e',a'',w₅,hq,harr⟩:=hj b k cs hro trivial (X3 _)
   exact⟨e',a'',w₅,hq,.of_steps sback harr⟩
 | panicked chain=>
  have hl:(lone fr (b.atR { a with defers:=mark++a.defers } (.inRangeFunc l::k)::cs) w₃).fenced P Fence.wide:=fenced_leaving (n:=m) trivial (X3 _) hleave
  refine⟨.panic chain,_,w₃,hR,.inRangeFunc l::k,.head h0 henter (StepsIn.trans hsteps (.one hl ?_))⟩
  rw[←Frame.raise_atR];exact step_leave_panicked hleave
theorem pm_out {A R:List OB} {b c:OB}:((A++[b,c])++R).Perm (c::(A++b::R)):=by
 have:=List.perm_middle (l₁:=A++[b]) (l₂:=R) (a:=c)
 simpa using this
theorem pm_in {A R:List OB} {c:OB}:(c::(A++R)).Perm (A++c::R):=List.perm_middle.symm
theorem ZeZ {lo l:Nat} {o:Obj} (h:XO J S lo O w) (ho:OB.obj l o∈O):l<w.heap.size∧w.heap[l]?=some o:=by
 obtain⟨_,h2,h3⟩:=h.2.1 _ ho
 exact⟨h2,h3⟩
theorem ZtI {lo:Nat} {B:AV→Value→Prop} (h:XO J S lo O w) (ho:OB.was B∈O):∀ av v,B av v→Rel (SO S O) w av v:=h.2.1 _ ho
def phi (ds:List Deferred) (a:Act):Act:= { a with defers:=a.defers++ds }
abbrev mkD (D:Nat):List Deferred:=[{ target:=.collected D,args:= #[] }]
abbrev OB.dfr (D:Nat):OB:=OB.obj D (.deferred (some []))
def OB.fct (p:Prop):OB where
 blk:=fun _=>False
 inv:=fun _ _ _=>p
 mv:=fun h _ _ _=>h
 lt:=fun _ _ h=>h.elim
theorem ZnW {α κ μ σ:Type} {m:Nat} {g:Operand} {p:Tmp} {assign body:Code} {gf:FuncId} {avc:List AV} {enc:α→Value} {xs:List α} {fl:Option Value} {Hs R:List OB} (hseq:SeqE P J gf Hs avc enc xs fl) (eg:Zk P gf)
 (hJ:Stab J) (hS:∀ b,w0.heap.size≤b→S b) (hJ0:J w0) (hH:Has Hs S w0) (I:List α→κ→List OB) (pv:μ→Value) (O3:μ→List OB) (O4:σ→List OB) (k0:κ) (av:α→AV) (env':α→List (Nat×AV)) (hp:p<N) {fnn:Func} (hfid:P.funcs[fid]?=some fnn)
 (hav:∀(T:Nat→Prop) (w:World) (x:α),x∈xs→Rel T w (av x) (enc x))
 (hg:∀ a w,So J S w0 N (I [] k0++R) env a w→∃ cap:List Value,a.eval g= .func (.func gf) #[] cap.toArray∧RelL (SO S (I [] k0++R)) w avc cap)
 (hassign:∀(m l:Nat) (R':List OB) (pre:List α) (x:α) (k:κ) (K:Act→WP),(∀ a w,So J S w0 N (I pre k++R') (env' x) a w→K a w)→
  Tr ⟨m,some l⟩ P (So J S w0 N (I pre k++R') ((p,av x)::YM p env)) assign (Exit.then K (fun _ _ _=>False)))
 (hbody:∀(m l:Nat) (R':List OB) (pre:List α) (x:α) (k:κ),(pre++[x])<+:xs→Tr ⟨m,some l⟩ P (So J S w0 N (I pre k++R') (env' x)) body (rndQ J S w0 (I (pre++[x])) pv O3 O4 R'))
 (hdone:fl=none→∀ k D a w,So J S w0 N (OB.dfr D::(I xs k++R)) env a w→Q .normal (phi (mkD D) a) w)
 (hstop:∀ s D a w,So J S w0 N (OB.dfr D::(O4 s++R)) env a w→Q .ret (phi (mkD D) a) w)
 (hpan:∀ v,fl=some v→∀ k D a w,So J S w0 N (OB.dfr D::(I xs k++R)) env a w→Q (.panic (pch v)) (phi (mkD D) a) w)
 (hpq:∀ q D a w,So J S w0 N (OB.dfr D::(O3 q++R)) env a w→Q (.panic (pch (pv q))) (phi (mkD D) a) w):
 ∀(a:Act) (w:World),So J S w0 N (I [] k0++R) env a w→Code.wpAt fid P (.rangeFunc g #[p] assign body) Q a w:=fun a w h=>by
 obtain⟨cap,hgv,hcap⟩:=hg a w h
 obtain⟨rec,hrec⟩:∃ rec:LoopState→Option Code→Obj,rec=fun st pe=>.loop { state:=st,pending:=pe,fn:=fid,tmps:=a.tmps,params:= #[p],assign,body,defers:=w.heap.size }:=⟨_,rfl⟩
 obtain⟨B,hB⟩:∃ B:AV→Value→Prop,∀ av v,B av v↔Rel (SO S (I [] k0++R)) w av v:=⟨_,fun _ _=>.rfl⟩
 have hx1:=Zkc (B:=B) h.x fun _ _ h=>(hB _ _).1 h
 have hka:Keeps All w (w.alloc (.deferred (some []))):=(Keeps.refl _ _).alloc _
 have hD:(w.alloc (.deferred (some []))).heap[w.heap.size]?=some (.deferred (some [])):=World.alloc_heap_new w _
 obtain⟨hx2,_⟩:=ZeA (o:=OB.obj w.heap.size (.deferred (some []))) hJ hx1 hka (fun k hk=>Nat.le_of_eq hk.symm) ⟨h.keep.size,by simp,hD⟩
 have hkb:Keeps All (w.alloc (.deferred (some []))) ((w.alloc (.deferred (some []))).alloc (rec .ready none)):=(Keeps.refl _ _).alloc _
 have hL:=World.alloc_heap_new (w.alloc (.deferred (some []))) (rec .ready none)
 rw[World.size_alloc]at hL
 obtain⟨hx3,_⟩:=ZeA (o:=OB.obj (w.heap.size+1) (rec .ready none)) hJ hx2 hkb (fun k hk=>by rw[World.size_alloc];exact Nat.le_of_eq hk.symm) ⟨by have:=h.keep.size;omega,by simp,hL⟩
 obtain⟨W1,hW1⟩:∃ W1,(w.alloc (.deferred (some []))).alloc (rec .ready none)=W1:=⟨_,rfl⟩
 rw[hW1]at hx3 hkb
 have hkw:Keeps All w W1:=hka.trans hkb
 let I':List α→κ→List OB:=fun pre k=>I pre k++[OB.was B,OB.obj (w.heap.size+1) (rec .ready none)]
 let O4':σ→List OB:=fun s=>O4 s++[OB.was B,OB.obj (w.heap.size+1) (rec .done (some .ret))]
 let O3':μ→List OB:=fun q=>O3 q++[OB.was B,OB.obj (w.heap.size+1) (rec .busy none)]
 have hx4:XO J S w0.heap.size (I' [] k0++OB.obj w.heap.size (.deferred (some []))::R) W1:=by
  refine YH ?_ hx3
  refine List.Perm.trans (List.Perm.cons _ ?_) pm_out.symm
  have:=List.perm_middle (l₁:=I [] k0++[OB.was B]) (l₂:=R) (a:=OB.obj w.heap.size (.deferred (some [])))
  simpa using this.symm
 have hsub:∀ k,k<w.heap.size→SO S (I [] k0++R) k→All k∧SO S (I' [] k0++OB.obj w.heap.size (.deferred (some []))::R) k:=fun k hlt hs=>⟨trivial,hs.1,fun p hp=>by
  simp only[I',List.mem_append,List.mem_cons,List.not_mem_nil,or_false]at hp
  rcases hp with(hp | rfl | rfl) | rfl | hp
  · exact hs.2 p (by simp[hp])
  · exact fun e=>e
  · exact fun e=>by change k=_ at e;omega
  · exact fun e=>by change k=_ at e;omega
  · exact hs.2 p (by simp[hp])⟩
 refine ZiW (m:=m) ⟨w.heap.size+1,[{ target:=.collected w.heap.size,args:= #[] }],W1, { target:=.fn (.func gf) cap.toArray,args:= #[.func (.yield (w.heap.size+1)) #[] #[]] },W1,gf,
  #[.func (.yield (w.heap.size+1)) #[] #[]]++cap.toArray,W1,?_,?_,?_,?_⟩
 · rw[←hW1,hrec];exact run_enterLoop_outer _ _ _ _ _
 · simp only[resolve,hgv]
   simp[go_sem]
 · have:=eg (#[.func (.yield (w.heap.size+1)) #[] #[]]++cap.toArray) W1
   simpa [invoke,go_sem]using this
 have hmarks:∀(b:Act),b.defers=[]→({ b with defers:=[{ target:=.collected w.heap.size,args:= #[] }]++b.defers }:Act)= { b with defers:=[{ target:=.collected w.heap.size,args:= #[] }] }:=fun b hb=>by rw[hb];rfl
 have hend:∀(A:List OB) (st:LoopState) (pe:Option Code) (w2:World),Keeps All w0 w2→XO J S w0.heap.size (OB.obj (w.heap.size+1) (rec st pe)::(A++OB.was B::OB.obj w.heap.size (.deferred (some []))::R)) w2→
  So J S w0 N (OB.obj w.heap.size (.deferred (some []))::(A++R)) env a w2:=fun A st pe w2 hk hx=>by
  have hx':=YH (O':=OB.was B::(OB.obj w.heap.size (.deferred (some []))::(A++R))) (List.Perm.trans List.perm_middle (List.Perm.cons _ List.perm_middle)) (Zm0 hx)
  refine⟨h.defs,h.size,hk,Zm0 hx',fun p hp=>⟨(h.env p hp).1,?_⟩⟩
  exact(ZtI hx' yz p.2 _ ((hB _ _).2 (h.env p hp).2)).sub fun k _ hs=>hs.drop
 refine(hseq S w0 _ W1 (w.heap.size+1) m cap κ μ σ I' pv O3' O4' k0 hS hJ0 hH (h.keep.trans hkw) hx4 (RelL.move hkw hsub hcap) ?_).mono ?_
 · intro m' R' pre x k w1 hpre hk1 hxr
   have hob:=YH pm_out hxr
   obtain⟨hlt,hl⟩:=ZeZ (l:=w.heap.size+1) (o:=rec .ready none) hob yz
   rw[hrec]at hl
   have hy:=run_yield (P:=P) (args:= #[enc x]) hl yz
   have hx1':=YH pm_in hob
   have hrow:(So J S w0 N (I pre k++OB.obj (w.heap.size+1) (rec .ready none)::OB.was B::R') ((p,av x)::YM p env)) { tmps:=a.tmps.setIfInBounds p (enc x),defers:=[] } w1:=by
    refine⟨rfl,by simpa using h.size,hk1,hx1',fun q hq=>?_⟩
    rcases List.mem_cons.1 hq with rfl | hq
    · refine⟨hp,?_⟩
      have e:(a.tmps.setIfInBounds p (enc x)).getD p undef=enc x:=by rw[Array.getD_eq_getD_getElem?,Array.getElem?_setIfInBounds];simp[h.size,hp]
      rw[e];exact hav _ _ x (by obtain⟨r,hr⟩:=hpre;rw[←hr];simp)
    · obtain⟨hq1,hq2⟩:=List.mem_filter.1 hq
      have hne:¬ p=q.1:=fun e=>by simp[e]at hq2
      have e:(a.tmps.setIfInBounds p (enc x)).getD q.1 undef=a.tmps.getD q.1 undef:=by rw[Array.getD_eq_getD_getElem?,Array.getD_eq_getD_getElem?,Array.getElem?_setIfInBounds,if_neg hne]
      refine⟨(h.env q hq1).1,?_⟩
      rw[e]
      exact ZtI hx1' yz q.2 _ ((hB _ _).2 (h.env q hq1).2)
   have hrest:∀ a1 wa,So J S w0 N (I pre k++OB.obj (w.heap.size+1) (rec .ready none)::OB.was B::R') (env' x) a1 wa→
    ∃ w₂,(Instr.beginRound (w.heap.size+1)).run P wa= .ok () w₂∧body.wpIn (Fence.wide.inRound (w.heap.size+1)) m' P (Zf3 P (w.heap.size+1) (rndE J S w0 (I' (pre++[x])) pv O3' O4' R')) a1 w₂:=by
    intro a1 wa ha1
    have hoba:=YH pm_in.symm ha1.x
    obtain⟨hlta,hla⟩:=ZeZ (l:=w.heap.size+1) (o:=rec .ready none) hoba yz
    have hbegin:(Instr.beginRound (w.heap.size+1)).run P wa= .ok () (wa.putObj (w.heap.size+1) (rec .busy none)):=by rw[hrec]at hla ⊢;exact run_beginRound hla rfl
    refine⟨_,hbegin,?_⟩
    obtain⟨hk2,hx2,hm2⟩:=QG (rec .busy none) hJ hJ0 ha1.keep hoba
    have hx2':=YH pm_in hx2
    have hsp:∀(o:OB) (k':Nat),SO S (I pre k++o::OB.was B::R') k'→SO S (o::(I pre k++OB.was B::R')) k':=fun o k' hs=>hs.perm pm_in.symm
    refine wpIn_mono (hbody m' (w.heap.size+1) _ pre x k hpre _ _ ⟨ha1.defs,ha1.size,hk2,hx2',fun q hq=>⟨(ha1.env q hq).1,(hm2 _ _ ((ha1.env q hq).2.sub fun k' _ hs=>hsp _ k' hs)).sub fun k' _ hs=>hs.perm pm_in⟩⟩) ?_
    intro e a3 w3 he
    cases e with
    | normal=>
     obtain⟨k',hk3,hx3⟩:=he
     have hx3':=YH pm_in.symm hx3
     obtain⟨hlt3,hl3⟩:=ZeZ (l:=w.heap.size+1) (o:=rec .busy none) hx3' yz
     obtain⟨hk4,hx4,_⟩:=QG (rec .ready none) hJ hJ0 hk3 hx3'
     have hend':(Instr.endRound (w.heap.size+1) none).run P w3= .ok (.bool true) (w3.putObj (w.heap.size+1) (rec .ready none)):=by rw[hrec]at hl3 ⊢;exact run_endRound none hl3
     exact⟨_,_,hend',.inl ⟨rfl,k',hk4,YH pm_out.symm hx4⟩⟩
    | panic ch=>
     obtain⟨q,rfl,hd,hk3,hx3⟩:=he
     refine⟨hd,.inr (.inr ⟨q,rfl,hk3,?_⟩)⟩
     exact YH (pm_in.symm.trans pm_out.symm) hx3
    | ret=>
     obtain⟨s,hk3,hx3⟩:=he
     have hx3':=YH pm_in.symm hx3
     obtain⟨hlt3,hl3⟩:=ZeZ (l:=w.heap.size+1) (o:=rec .busy none) hx3' yz
     obtain⟨hk4,hx4,_⟩:=QG (rec .done (some .ret)) hJ hJ0 hk3 hx3'
     have hend':(Instr.endRound (w.heap.size+1) (some .ret)).run P w3= .ok (.bool false) (w3.putObj (w.heap.size+1) (rec .done (some .ret))):=by rw[hrec]at hl3 ⊢;exact run_endRound (some .ret) hl3
     exact⟨_,_,hend',.inr (.inl ⟨rfl,s,hk4,YH pm_out.symm hx4⟩)⟩
    | exit id=>exact he.elim
    | goto t=>exact he.elim
    | outgrown=>exact he.elim
   refine⟨fid,_,assign,body,hy,Zd8 trivial ⟨fnn,hfid⟩ (by
    have hT:∀(T:Array Value),Array.foldl (fun(t:Array Value) (q:Tmp×Value)=>match q with | (t',v)=>t.setIfInBounds t' v) T (#[p].zip #[enc x])=T.setIfInBounds p (enc x):=fun T=>by simp
    refine Eq.mpr (congrArg (fun T=>Code.wpIn _ _ P assign _ ({ tmps:=T,defers:=[] }:Act) w1) (hT a.tmps)) (hassign m' (w.heap.size+1) _ pre x k _ ?_ _ _ hrow)
    exact hrest)⟩
 · intro e w2 he
   rcases he with⟨hf,v,k,rfl,hk2,hx2⟩ | ⟨v,k,hf,rfl,hk2,hx2⟩ | ⟨v,s,rfl,hk2,hx2⟩ | ⟨q,rfl,hk2,hx2⟩
   · have hob:=YH pm_out hx2
     obtain⟨hlt,hl⟩:=ZeZ (l:=w.heap.size+1) (o:=rec .ready none) hob yz
     obtain⟨hk3,hx3,_⟩:=QG (rec .exhausted none) hJ hJ0 hk2 hob
     have hendL:(Instr.endLoop (w.heap.size+1)).run P w2= .ok none (w2.putObj (w.heap.size+1) (rec .exhausted none)):=by rw[hrec]at hl ⊢;exact run_endLoop hl yz
     refine⟨none,_,hendL,?_⟩
     have:=hdone hf k w.heap.size _ _ (hend _ _ _ _ hk3 hx3)
     unfold phi at this
     rw[h.defs]at this
     show Q .normal { a with defers:=_++a.defers } _
     rw[h.defs];exact this
   · have:=hpan v hf k w.heap.size _ _ (hend _ _ _ _ hk2 (YH pm_out hx2))
     unfold phi at this
     rw[h.defs]at this
     show Q (.panic (pch v)) { a with defers:=_++a.defers } _
     rw[h.defs];exact this
   · have hob:=YH pm_out hx2
     obtain⟨hlt,hl⟩:=ZeZ (l:=w.heap.size+1) (o:=rec .done (some .ret)) hob yz
     obtain⟨hk3,hx3,_⟩:=QG (rec .exhausted (some .ret)) hJ hJ0 hk2 hob
     have hendL:(Instr.endLoop (w.heap.size+1)).run P w2= .ok (some .ret) (w2.putObj (w.heap.size+1) (rec .exhausted (some .ret))):=by rw[hrec]at hl ⊢;exact run_endLoop hl yz
     refine⟨some .ret,_,hendL,?_⟩
     have:=hstop s w.heap.size _ _ (hend _ _ _ _ hk3 hx3)
     refine wpIn_ret ?_
     unfold phi at this
     rw[h.defs]at this
     show Q .ret { a with defers:=_++a.defers } _
     rw[h.defs];exact this
   · have:=hpq q w.heap.size _ _ (hend _ _ _ _ hk2 (YH pm_out hx2))
     unfold phi at this
     rw[h.defs]at this
     show Q (.panic (pch (pv q))) { a with defers:=_++a.defers } _
     rw[h.defs];exact this
end
section
variable {P:Program} {n:Rn} {S:Nat→Prop} {X:WP} {o:Oper} {a:Act} {w:World} {t u:TypeId} {x y:Operand}
theorem Zrf {i j:Int} (hop:o.op= .binOp .mul t x y u) (h1:Rel S w (.int i) (a.eval x)) (h2:Rel S w (.int j) (a.eval y)) (hlo: -9223372036854775808≤i*j) (hhi:i*j≤9223372036854775807) (hx:X w):Yj n P o a w (YB S X (.int (i*j)) w):=
 Q4 True.intro (Xy ..) (by simp only[binOp,ne_eq,not_true,if_false,Op.intArith,IntWalk.i64_in _ ⟨hlo,hhi⟩];rfl) hop h1 h2 hx
theorem Zuu {i:Int} (h0:0≤i) (h1:i<256):IntKind.u8.wrap i=i:=by
 have h256:i%256=i:=by omega
 simp[IntKind.wrap,IntKind.bits,IntKind.signed,h256]
theorem ZkA {i j:Int} (hop:o.op= .binOp .sub t x y u) (h1:Rel S w (.rd (.lit (.int .u8 i))) (a.eval x)) (h2:Rel S w (.rd (.lit (.int .u8 j))) (a.eval y)) (hlo:0≤i-j) (hhi:i-j<256) (hx:X w):Yj n P o a w (YB S X (.rd (.lit (.int .u8 (i-j)))) w):=
 Q4 True.intro (Xy ..) (by simp only[binOp,ne_eq,not_true,if_false,Op.intArith,Zuu hlo hhi];rfl) hop h1 h2 hx
theorem Zej {s d:TypeId} {i:Int} (hs:P.underlying s=some (.int .u8)) (hd:P.underlying d=some (.int .i64)) (hop:o.op= .convert s d x) (h:Rel S w (.rd (.lit (.int .u8 i))) (a.eval x)) (h0:0≤i) (h1:i<256) (hx:X w):Yj n P o a w (YB S X (.int i) w):=by
 obtain⟨k,rfl⟩:∃ k:Nat,i=(k:Int):=⟨i.toNat,oz⟩
 have hu:(UInt8.ofNat k).toNat=k:=by rw[UInt8.toNat_ofNat'];exact Nat.mod_eq_of_lt oz
 have:=Zn1 (n:=n) (X:=X) (b:=UInt8.ofNat k) hs hd hop (by rw[hu];exact h) hx (S:=S)
 rw[hu]at this
 exact this
end
section
variable {P:Program} {J:WP} {N:Nat}
def YldE {α κ μ σ:Type} (P:Program) (J:WP) (S:Nat→Prop) (w0:World) (l:Nat) (enc:α→Value) (xs:List α) (I:List α→κ→List OB) (pv:μ→Value) (O3:μ→List OB) (O4:σ→List OB):Prop:=
 ∀(m:Nat) (R':List OB) (pre:List α) (x:α) (k:κ) (w1:World),(pre++[x])<+:xs→Keeps All w0 w1→XO J S w0.heap.size (I pre k++R') w1→YieldAt Fence.wide m P l #[enc x] w1 (rndE J S w0 (I (pre++[x])) pv O3 O4 R')
theorem ZiA {α:Type} {g:FuncId} {fn:Func} {c:Code} {avc:List AV} {enc:α→Value} {xs:List α} {fl:Option Value} {Hs:List OB} (hf:P.funcs[g]?=some fn) (hb:fn.body=some c) (hN:fn.ntmps=N) (hl:avc.length+1≤N)
 (h:∀(S:Nat→Prop) (w0:World) (R:List OB) (l:Nat) (κ μ σ:Type) (I:List α→κ→List OB) (pv:μ→Value) (O3:μ→List OB) (O4:σ→List OB) (k0:κ),(∀ b,w0.heap.size≤b→S b)→J w0→Has Hs S w0→YldE P J S w0 l enc xs I pv O3 O4→
  Tr 5 P (St All (SO S (I [] k0++R)) w0 N (Y4 0 (.lit (.func (.yield l) #[] #[])::avc)) (XO J S w0.heap.size (I [] k0++R))) c (bodyPost P fn (ZtS J S w0 (I xs) pv O3 O4 R fl))):SeqE P J g Hs avc enc xs fl:=by
 intro S w0 R w l n us κ μ σ I pv O3 O4 k0 hS hJ hH hk hx hus hY
 have ha:RelL (SO S (I [] k0++R)) w (.lit (.func (.yield l) #[] #[])::avc) (.func (.yield l) #[] #[]::us):=Za (Rel.of_lit _) hus
 obtain⟨g1,g2⟩:=Zak (N:=N) (by simpa using hl) hN ha
 have he:(#[Value.func (.yield l) #[] #[]]++us.toArray)=(Value.func (.yield l) #[] #[]::us).toArray:=by simp
 rw[he]
 have hc:Calls P g (Value.func (.yield l) #[] #[]::us).toArray w (ZtS J S w0 (I xs) pv O3 O4 R fl):=(callsIn_wide (n:=5)).1 (callsIn_of_wp hf hb trivial (h S w0 R l κ μ σ I pv O3 O4 k0 hS hJ hH hY _ _ ⟨rfl,g1,hk,hx,g2⟩) rfl)
 exact callsIn_wide.2 hc
variable {α κ μ σ:Type} {S:Nat→Prop} {w0 w:World} {a:Act} {env:List (Nat×AV)} {R:List OB} {I:List α→κ→List OB} {pv:μ→Value} {O3:μ→List OB} {O4:σ→List OB} {xs pre:List α} {fl:Option Value} {fn:Func}
theorem Zud (hf:fl=none) (he:pre=xs) (k:κ) (hr:fn.results= #[]) (h:So J S w0 N (I pre k++R) env a w):bodyPost P fn (ZtS J S w0 (I xs) pv O3 O4 R fl) .ret a w:=by
 subst he
 exact⟨h.defs,.tuple #[],by simp[results,hr,Sem.run_pure],.inl ⟨hf,_,k,rfl,h.keep,h.x⟩⟩
theorem ZkY (s:σ) (hr:fn.results= #[]) (h:So J S w0 N (O4 s++R) env a w):bodyPost P fn (ZtS J S w0 (I xs) pv O3 O4 R fl) .ret a w:=
 ⟨h.defs,.tuple #[],by simp[results,hr,Sem.run_pure],.inr (.inr (.inl ⟨_,s,rfl,h.keep,h.x⟩))⟩
theorem itPan (q:μ):∀ a w,So J S w0 N (O3 q++R) env a w→a.defers=[]∧ZtS J S w0 (I xs) pv O3 O4 R fl (.panicked (pch (pv q))) w:=fun _ _ h=>
 ⟨h.defs,.inr (.inr (.inr ⟨q,rfl,h.keep,h.x⟩))⟩
theorem ZkZ {v:Value} (hf:fl=some v) (he:pre=xs) (k:κ):∀ a w,So J S w0 N (I pre k++R) env a w→a.defers=[]∧ZtS J S w0 (I xs) pv O3 O4 R fl (.panicked (pch v)) w:=fun _ _ h=>by
 subst he
 exact⟨h.defs,.inr (.inl ⟨v,k,hf,rfl,h.keep,h.x⟩)⟩
theorem pfx {x:α} {r:List α}:(pre++[x])<+:(pre++x::r):=⟨r,by simp⟩
theorem ZnQ {T:Nat→Prop} {v:Value} {x:Lt} (h:Rel T w (.agg (ltC x)) v):v=Zxf x:=by
 simp only[Rel]at h
 obtain⟨us,rfl,hr⟩:=h
 match us,hr with
 | [u1,u2],⟨h1,h2,_⟩=>
  rw[h1.of_lit,h2.of_lit]
  rfl
end
section
variable {N:Nat} {J:WP} {S:Nat→Prop} {w0 w:World} {a:Act} {env:List (Nat×AV)} {B R:List OB}
theorem Zof (A B R:List OB):(A++(B++R)).Perm (B++(A++R)):=by
 rw[←List.append_assoc,←List.append_assoc]
 exact List.Perm.append_right R List.perm_append_comm
theorem Zko {O O':List OB} (hp:O.Perm O') (h:So J S w0 N O env a w):St All (SO S O') w0 N env (XO J S w0.heap.size O') a w:=
 ⟨h.defs,h.size,h.keep,YH hp h.x,fun p hm=>⟨(h.env p hm).1,(h.env p hm).2.sub fun _ _ hs=>hs.perm hp⟩⟩
theorem Znu (A:List OB) (h:So J S w0 N (A++(B++R)) env a w):So J S w0 N (B++(A++R)) env a w:=Zko (Zof A B R) h
theorem ZeH (A:List OB) (h:So J S w0 N (B++(A++R)) env a w):So J S w0 N (A++(B++R)) env a w:=Zko (Zof B A R) h
theorem Zkp:∀(A:List OB) {O:List OB},So J S w0 N (A++O) env a w→So J S w0 N O env a w
 | [],_,h=>h
 | _::A,_,h=>Zkp A (ZM h)
theorem Zo4 {α κ μ σ:Type} {I:List α→κ→List OB} {pv:μ→Value} {O3:μ→List OB} {O4:σ→List OB} {xs:List α} {fl:Option Value} (A:List OB) (q:μ):∀ a w,So J S w0 N (O3 q++(A++R)) env a w→a.defers=[]∧ZtS J S w0 (I xs) pv O3 O4 R fl (.panicked (pch (pv q))) w:=
 fun a w h=>itPan q a w (Zkp A (ZeH A h))
end
section
variable {P:Program} {fid:FuncId} {Q:Exit→Act→WP} {a:Act} {w:World} {A:Act→WP}
theorem ZtB {id:Nat} {c:Code} (h:Code.wpAt fid P c (Exit.inBlock id Q) a w):Code.wpAt fid P (.block id c) Q a w:=by
 intro b k cs hro hb
 have h0:(lone (b.atR a (.code (.block id c)::k)) cs w).fenced P Fence.wide:=fenced_calm (n:=0) trivial (X3 _) rfl
 obtain⟨e,a₁,w₁,hq,harr⟩:=h b (.inBlock id::k) cs hro hb
 cases e with
 | normal=>exact⟨.normal,a₁,w₁,hq,.head h0 stepR_block (StepsIn.trans harr (.one (fenced_calm (n:=0) trivial (X3 _) rfl) stepR_inBlock))⟩
 | exit id'=>
  by_cases hid:id'=id
  · simp only[Exit.inBlock,hid,if_true]at hq
    exact⟨.normal,a₁,w₁,hq,.head h0 stepR_block (harr.1 k (by simp[exitTo,hid]))⟩
  · simp only[Exit.inBlock,hid,if_false]at hq
    have this:(id==id')=false:=by simp;exact fun h=>hid h.symm
    have hx:exitTo id' (.inBlock id::k)=exitTo id' k:=by simp[exitTo,this]
    exact⟨.exit id',a₁,w₁,hq,fun k' hk=>.head h0 stepR_block (harr.1 k' (by rw[hx];exact hk)),
     fun hr' hk=>let⟨k₁,h1,h2⟩:=harr.2 hr' (by rw[hx];exact hk);⟨k₁,h1,.head h0 stepR_block h2⟩⟩
 | goto l=>
  have hx:gotoIn l (.inBlock id::k)=gotoIn l k:=by simp[gotoIn]
  exact⟨_,a₁,w₁,hq,fun k' hk=>.head h0 stepR_block (harr.1 k' (by rw[hx];exact hk)),
   fun hr' hk=>let⟨k₁,h1,h2⟩:=harr.2 hr' (by rw[hx];exact hk);⟨k₁,h1,.head h0 stepR_block h2⟩⟩
 | ret=>exact⟨_,a₁,w₁,hq,.of_steps (.one h0 stepR_block) harr⟩
 | panic ch=>exact⟨_,a₁,w₁,hq,.of_steps (.one h0 stepR_block) harr⟩
 | outgrown=>exact⟨_,a₁,w₁,hq,.of_steps (.one h0 stepR_block) harr⟩
def TrA (fid:FuncId) (P:Program) (A:Act→WP) (c:Code) (Q:Exit→Act→WP):Prop:=∀ a w,A a w→Code.wpAt fid P c Q a w
theorem Zcv {m:Nat} {x y:Code} (h:Tr (⟨m,none⟩:Rn) P A x (Exit.then (fun a w=>Code.wpAt fid P y Q a w) Q)):TrA fid P A (.seq x y) Q:=fun a w ha=>Zuq (at_of (h a w ha))
theorem nxA {y:Code} {Q':Exit→Act→WP} (h:TrA fid P A y Q):∀ a w,A a w→Exit.then (fun a w=>Code.wpAt fid P y Q a w) Q' .normal a w:=h
theorem ZcB (ds:List Deferred) (a:Act) (d:Option Nat) (v:Value):(phi ds a).put d v=phi ds (a.put d v):=by cases d<;>rfl
theorem ZlI {F:Fence} {n:Nat} {o:Oper} {ds:List Deferred} {next next':Act→WP} {r:Result Next} (hn:∀ b w,next' b w→next (phi ds b) w) (h:o.uponIn F n P a next' (fun e b w=>Q e (phi ds b) w) r):o.uponIn F n P (phi ds a) next Q r:=by
 have hl:LetsOut (fun e b w=>Q e (phi ds b) w)→LetsOut Q:=fun⟨b,w,hb⟩=>⟨phi ds b,w,hb⟩
 cases r with
 | halt s w'=>
  cases s<;>exact h
 | ok x w'=>
  cases x with
  | value v=>rw[Oper.uponIn_value]at h ⊢;rw[ZcB];exact hn _ _ h
  | skip=>rw[Oper.uponIn_skip]at h ⊢;rw[ZcB];exact hn _ _ h
  | defer d=>rw[Oper.uponIn_defer]at h ⊢;exact(ZcB ds { a with defers:=d::a.defers } o.dst undef)▸hn _ _ h
  | enter f args=>
   rw[Oper.uponIn_enter]at h ⊢
   refine⟨h.1,h.2.mono fun e w'' he=>?_⟩
   cases e with
   | returned v=>simp only at he ⊢;rw[ZcB];exact hn _ _ he
   | panicked ch=>exact he
   | outgrown=>exact hl he
  | row row args=>
   rw[Oper.uponIn_row]at h ⊢
   refine⟨h.1,h.2.mono fun v w'' he=>?_⟩
   rw[ZcB];exact hn _ _ he
  | round l f tmps assign body=>
   rw[Oper.uponIn_round]at h ⊢
   refine⟨h.1,h.2.mono fun e w'' he=>?_⟩
   cases e with
   | returned v=>simp only at he ⊢;rw[ZcB];exact hn _ _ he
   | panicked ch=>exact he
   | outgrown=>exact hl he
  | _=>exact h
theorem Zbx {F:Fence} {n:Nat} {ops:Array Oper} {ds:List Deferred}:∀ {l:List Oper} {a:Act} {w:World},wpListIn F n P ops (fun e b w=>Q e (phi ds b) w) l a w→wpListIn F n P ops Q l (phi ds a) w
 | [],_,_,h=>h
 | o::rest,a,w,h=>by
  have hy:yielded ops (phi ds a).tmps=yielded ops a.tmps:=rfl
  unfold wpListIn at h ⊢
  rw[hy]
  split
  · rename_i hw
    rw[if_pos hw]at h
    exact⟨h.1,ZlI (fun b w hb=>Zbx hb) h.2⟩
  · rename_i hw
    rw[if_neg hw]at h
    exact⟨h.1,by rw[ZcB];exact Zbx h.2⟩
theorem Zl1 {F:Fence} {n:Nat} {id:Nat} {l:List Oper} {ds:List Deferred} (h:wpListIn F n P l.toArray (fun e b w=>Q e (phi ds b) w) l a w):(Code.region id l.toArray false).wpIn F n P Q (phi ds a) w:=wpIn_region_lit (Zbx h)
def TrD (n:Rn) (ds:List Deferred) (P:Program) (A:Act→WP) (c:Code) (Q:Exit→Act→WP):Prop:=∀ a w,A a w→c.wpIn n.F n.d P Q (phi ds a) w
variable {n:Rn} {ds:List Deferred}
theorem Zug {x y:Code} (h:TrD n ds P A x (Exit.then (fun a w=>y.wpIn n.F n.d P Q a w) Q)):TrD n ds P A (.seq x y) Q:=fun a w ha=>wpIn_seq (h a w ha)
theorem nxD {y:Code} (h:TrD n ds P A y Q):∀ a w,A a w→y.wpIn n.F n.d P Q (phi ds a) w:=h
theorem Zpw {id:Nat} {l:List Oper} (h:∀ a w,A a w→wpListIn n.F n.d P l.toArray (fun e b w=>Q e (phi ds b) w) l a w):TrD n ds P A (.region id l.toArray false) Q:=fun a w ha=>Zl1 (h a w ha)
theorem d_skip (h:∀ a w,A a w→Q .normal (phi ds a) w):TrD n ds P A .skip Q:=fun a w ha=>wpIn_skip (h a w ha)
theorem d_ret (h:∀ a w,A a w→Q .ret (phi ds a) w):TrD n ds P A .ret Q:=fun a w ha=>wpIn_ret (h a w ha)
theorem dtw {B:Act→WP} {c:Code} (hAB:∀ {a:Act} {w:World},A a w→B a w) (h:TrD n ds P B c Q):TrD n ds P A c Q:=fun a w ha=>h a w (hAB ha)
theorem d_cj {K S:Nat→Prop} {w0:World} {N:Nat} {env:List (Nat×AV)} {X:WP} {y z:Code} {d:Operand} {s:Nat} (m:Nat) {g:Bool} (ht:g=true→TrD n ds P (St K S w0 N env X) y Q) (hf:g=false→TrD n ds P (St K S w0 N env X) z Q) (he:env[m]?=some (s,.bool g):=by exact rfl) (hc:d= .tmp s:=by exact rfl):TrD n ds P (St K S w0 N env X) (.cond d y z) Q:=fun a w ha=>
 wpIn_cond_split (t:=g) (by rw[hc];exact(ha.get m he).lit) (fun h=>ht h a w ha) fun h=>hf h a w ha
theorem Zqu {id:Nat} {c:Code} (h:TrA fid P A c (Exit.inBlock id Q)):TrA fid P A (.block id c) Q:=fun a w ha=>ZtB (h a w ha)
theorem a_seq {x y:Code} (h:TrA fid P A x (Exit.then (fun a w=>Code.wpAt fid P y Q a w) Q)):TrA fid P A (.seq x y) Q:=fun a w ha=>Zuq (h a w ha)
theorem atw {B:Act→WP} {c:Code} (hAB:∀ {a:Act} {w:World},A a w→B a w) (h:TrA fid P B c Q):TrA fid P A c Q:=fun a w ha=>h a w (hAB ha)
theorem lnA {α:Type} {f:α→List CD} {xs:List α} {K S:Nat→Prop} {w0:World} {N:Nat} {env:List (Nat×AV)} {X:WP} {c:Code} {s:Nat} (m:Nat) (h:xs.length≤9223372036854775807→TrA fid P (St K S w0 N env X) c Q) (he:env[m]?=some (s,.rd (.sl (xs.map f))):=by exact rfl):TrA fid P (St K S w0 N env X) c Q:=fun a w ha=>h (Zub ha m he) a w ha
theorem nxAD {m:Nat} {y:Code} (h:TrD (⟨m,none⟩:Rn) ds P A y Q):∀ a w,A a w→Code.wpAt fid P y Q (phi ds a) w:=fun a w ha=>at_of (h a w ha)
end
section
variable {N:Nat} {P:Program} {J:WP} {S:Nat→Prop} {O:List OB} {w0:World} {env:List (Nat×AV)} {fn:Func} {R:Ending→WP} {a:Act} {w:World} {D:Nat} {ch:List PanicEntry}
theorem outA (h:bodyPost P fn R .ret a w):bodyPostM Fence.wide 5 P fn R .ret a w:=by
 obtain⟨hd,v,hr,h⟩:=h
 exact Zvu hd hr h
theorem outAp (h:a.defers=[]∧R (.panicked ch) w):bodyPostM Fence.wide 5 P fn R (.panic ch) a w:=Zvv h.1 h.2
theorem outAk {A:Act→WP} (h:∀ a w,A a w→bodyPost P fn R .ret a w):∀ a w,A a w→bodyPostM Fence.wide 5 P fn R .ret a w:=fun a w ha=>outA (h a w ha)
theorem Zov {A:Act→WP} (h:∀ a w,A a w→a.defers=[]∧R (.panicked ch) w):∀ a w,A a w→bodyPostM Fence.wide 5 P fn R (.panic ch) a w:=fun a w ha=>outAp (h a w ha)
theorem Znt (hJ:Stab J) (hJ0:J w0) (h:So J S w0 N (OB.dfr D::O) env a w):w.heap[D]?=some (.deferred (some []))∧So J S w0 N O env a (w.putObj D (.deferred none)):=by
 refine⟨(ZeZ (l:=D) h.x yz).2,ZM (h.step0 (QG (.deferred none) hJ hJ0 h.keep h.x) undef)⟩
theorem outD (hJ:Stab J) (hJ0:J w0) (h:∀ a w,So J S w0 N O env a w→bodyPost P fn R .ret a w):∀ a w,So J S w0 N (OB.dfr D::O) env a w→bodyPostM Fence.wide 5 P fn R .ret (phi (mkD D) a) w:=fun a w ha=>by
 obtain⟨h1,h2⟩:=Znt hJ hJ0 ha
 obtain⟨hd,v,hr,hR⟩:=h a _ h2
 exact ZrJ (a:=phi (mkD D) a) (by simp[phi,hd]) h1 hr hR
theorem outDn (hJ:Stab J) (hJ0:J w0) (h:∀ a w,So J S w0 N O env a w→bodyPost P fn R .ret a w):∀ a w,So J S w0 N (OB.dfr D::O) env a w→bodyPostM Fence.wide 5 P fn R .normal (phi (mkD D) a) w:=outD hJ hJ0 h
theorem Zvw (hJ:Stab J) (hJ0:J w0) (h:∀ a w,So J S w0 N O env a w→a.defers=[]∧R (.panicked ch) w):∀ a w,So J S w0 N (OB.dfr D::O) env a w→bodyPostM Fence.wide 5 P fn R (.panic ch) (phi (mkD D) a) w:=fun a w ha=>by
 obtain⟨h1,h2⟩:=Znt hJ hJ0 ha
 obtain⟨hd,hR⟩:=h a _ h2
 exact ZrK (a:=phi (mkD D) a) (by simp[phi,hd]) h1 hR
theorem ZcX {p:Prop} (hp:p) (h:So J S w0 N O env a w):So J S w0 N (OB.fct p::O) env a w:=by
 have hs:∀ k,SO S O k→SO S (OB.fct p::O) k:=fun k hk=>⟨hk.1,fun q hq=>by
  rcases List.mem_cons.1 hq with rfl | hq
  · exact fun e=>e
  · exact hk.2 q hq⟩
 refine⟨h.defs,h.size,h.keep,⟨h.x.1,fun q hq=>?_,.cons (fun _ _ _ e=>e.elim) h.x.2.2⟩,fun q hq=>⟨(h.env q hq).1,(h.env q hq).2.sub fun k _=>hs k⟩⟩
 rcases List.mem_cons.1 hq with rfl | hq
 · exact hp
 · exact OB.sub (h.x.2.1 q hq) fun k _=>hs k
theorem ZtL {p:Prop} {n:Rn} {c:Code} {Q:Exit→Act→WP} (h:p→Tr n P (So J S w0 N O env) c Q):Tr n P (So J S w0 N (OB.fct p::O) env) c Q:=fun a w ha=>h (ha.x.2.1 (OB.fct p) yz) a w (ZM ha)
theorem Znv {p:Prop} {R:Act→WP} (h:p→∀ a w,So J S w0 N O env a w→R a w):∀ a w,So J S w0 N (OB.fct p::O) env a w→R a w:=fun a w ha=>h (ha.x.2.1 (OB.fct p) yz) a w (ZM ha)
theorem ZnR {T:Nat→Prop} {f:FuncId} {l:List AV} {v:Value} (h:Rel T w (.fn f l) v):∃ cap:List Value,v= .func (.func f) #[] cap.toArray∧RelL T w l cap:=by simpa only[Rel]using h
theorem Zmw {ι κ:Type} {f:FuncId} {c:Code} {args:List AV} {res:ι→AV} {O':ι→List OB} {pv:κ→Value} {O'':κ→List OB} (hf:P.funcs[f]?=some fn) (hb:fn.body=some c) (hN:fn.ntmps=N) (hl:args.length≤N)
 {Hs:List OB} (h:∀(S:Nat→Prop) (w0:World) (R:List OB),(∀ b,w0.heap.size≤b→S b)→J w0→Has Hs S w0→TrA f P (So J S w0 N (O++R) (Y4 0 args)) c (bodyPostM Fence.wide 5 P fn (ZmR J S w0 R res O' pv O''))):FnP P J f Hs args O res O' pv O'':=by
 intro S w0 R w vs hS hJ hH hk hx ha
 obtain⟨g1,g2⟩:=Zak hl hN ha
 exact ZbS hf hb (h S w0 R hS hJ hH _ _ ⟨rfl,g1,hk,hx,g2⟩)
theorem Zpn {f:FuncId} {c:Code} {args:List AV} {res:AV} (hf:P.funcs[f]?=some fn) (hb:fn.body=some c) (hN:fn.ntmps=N) (hl:args.length≤N)
 (h:∀(S:Nat→Prop) (w0:World),(∀ b,w0.heap.size≤b→S b)→J w0→TrA f P (St All S w0 N (Y4 0 args) J) c (bodyPostM Fence.wide 5 P fn fun e w'=>∃ v,e= .returned v∧Rel S w' res v∧Keeps All w0 w'∧J w')):Fn P J f args res:=by
 intro S w0 vs hS hJ ha
 obtain⟨g1,g2⟩:=Zak hl hN ha
 exact ZbS hf hb (h S w0 hS hJ _ _ ⟨rfl,g1,Keeps.refl _ _,hJ,g2⟩)
end
def encR (p:Pr):Value:=.agg #[.string p.a,.string p.b]
theorem rel_pr {T:Nat→Prop} {w:World} {v:Value} {x:Pr} (h:Rel T w (.agg (prC x)) v):v=encR x:=by
 simp only[Rel]at h
 obtain⟨us,rfl,hr⟩:=h
 match us,hr with
 | [u1,u2],⟨h1,h2,_⟩=>
  rw[h1.of_lit,h2.of_lit]
  rfl
theorem Zjm {J:WP} (hJ:Stab J) (bl:List Bd) (us:List BA) (ap:List Pr) (hbl:∀ b∈bl,b.text.length≤2000):SeqE Tryz.prog J 190 [] [.ptr [Zea bl],.ptr [Zf us],.ptr [YV ap]] encR (Zcm bl ap us) (none):=by
 refine ZiA (N:=55) Tryz.func190 rfl rfl (lb rfl) fun S w0 R l κ μ σ I pv O3 O4 k0 hS hJ0 hH hY=>?_
 refine Yq (B:=So J S w0 55 (I ([]) k0++R) [(0,.rd (.lit (.func (.yield l) #[] #[]))),(1,.ptr [Zea bl]),(2,.ptr [Zf us]),(3,.ptr [YV ap])]) ?_ fun a w h=>h
 refine tsq (snK 1 tb rfl (Xv (O:=[]) (R:=(I ([]) k0++R)) (Zor hJ bl) Zhn rfl rfl rfl (lb rfl) hS hJ0 Zv (fun a w h=>(Za (h.get 0 rfl) Zg)) fun z1=>?_))
 refine snK 1 tb rfl (seK [0,2,3,5,6] U5 rfl ?_)
 refine nx (ln 1 fun hl1=>?_)
 refine tsq (snK 1 tb rfl (Xv (O:=[]) (R:=(OB.map keyS (fun z':List BA=>AV.rd (Zf z')) z1 (Z1 bl)::(I ([]) k0++R))) (Zru hJ us) Zso rfl rfl rfl (lb rfl) hS hJ0 Zv (fun a w h=>(Za (h.get 0 rfl) Zg)) fun z2=>?_))
 refine snK 1 tb rfl (seK [0,2,3,5,7] U5 rfl ?_)
 refine nx (ln 1 fun hl2=>?_)
 refine ZG tb hJ [0,2,3,1000,1001,1002] [_,.int (ap.length:Nat),_] [1] U6 rfl ⟨Z3 ZL,trivial⟩ ?_
 refine ln 3 fun hl3=>?_
 refine Zc (lpo (ι:=Nat×(List Pr)×κ) (fun(k,pre,_)=>(k≤ap.length)∧(pre=(ap.take k).flatMap (rqA bl us))) (fun(_,pre,kk)=>(OB.set keyS z2 (QC us)::OB.map keyS (fun z':List BA=>AV.rd (Zf z')) z1 (Z1 bl)::(I pre kk++R))) (fun(k,_,_)=>[(19,.int (k:Nat))]) (fun(k,_,_)=>ap.length-k) (r6 []) U5 (0,[],k0) ⟨nzl,rfl⟩ ?_)
 rintro⟨k,pre,kk⟩ ⟨f1_1,f1_2⟩
 refine qso tb hJ (r6 [1000]) [_] U7 ?_
 refine cjS 6 (fun hb1=>?_) fun hb1=>?_
 try simp at hb1
 refine Zb (nx (Ze (Zc (tsq (sy (.ptr (prC (ge ap k))) (fun h=>ZQ (i:=(k:Int)) Zt rfl (h.get 3 rfl) (h.get 5 rfl) nnn (Z0 (xs:=ap) (k:=k) sfz) rfl h.x) ?_)))))
 refine snK 1 tb rfl (XZ (cs:=prC (ge ap k)) ZcO rfl rfl rfl (lb rfl) rfl rfl rfl dz (m:=0) rfl rfl (fun a w h=>Zq hS _ h.keep h.x _ nlr) (fun a w h w' hk'=>YA hJ _ _ hk' h.x) ?_)
 refine seK [0,3,4,5,6,7,8] U7 rfl (nx (ZG tb hJ (r7 [1003,1005,1006,1007]) (V3 [.rd (Zf (Yu (Z1 bl) ((ge ap k).a))),_,.rd (Zf (QB (Yu (Z1 bl) ((ge ap k).a)) (QC us))),.int ((QB (Yu (Z1 bl) ((ge ap k).a)) (QC us)).length:Nat),_]) [3,5,6] [_,_,_,_,_,_,_,_,_,_,_] rfl ⟨fun a _ hk hx hl _=>Y5 (ZeT hJ z1 (Z1 bl) ((ge ap k).a)) Zdg rfl (Zq hS _ hk hx) (hx.1) (ZP (Zh hx (mo 1 rfl)) Zv) (Za (hl.D 0 23 rfl rfl) (Za (hl.D 2 25 rfl rfl) Zg)) (jo hJ hx),fun a _ hk hx hl _=>Y5 (ZdW hJ z2 (QC us) (Yu (Z1 bl) ((ge ap k).a)) (by exact ZcD (m:=2000) oz hbl _)) Zlp rfl (Zq hS _ hk hx) (hx.1) (ZP (Zh hx (mo 0 rfl)) Zv) (Za (hl.D 3 26 rfl rfl) (Za (hl.D 4 27 rfl rfl) Zg)) (jo hJ hx),Z3 Zm,trivial⟩ ?_))
 refine ln 7 fun hl4=>?_
 refine ln 8 fun hl5=>?_
 refine Zc (lpo (ι:=Nat×(List Pr)×κ) (fun(j,pre,_)=>(j≤(QB (Yu (Z1 bl) (ge ap k).a) (QC us)).length)∧(pre=(ap.take k).flatMap (rqA bl us)++((QB (Yu (Z1 bl) (ge ap k).a) (QC us)).take j).flatMap (rqB bl us (ge ap k)))) (fun(_,pre,kk)=>(OB.set keyS z2 (QC us)::OB.map keyS (fun z':List BA=>AV.rd (Zf z')) z1 (Z1 bl)::(I pre kk++R))) (fun(j,_,_)=>[(30,.int (j:Nat))]) (fun(j,_,_)=>(QB (Yu (Z1 bl) (ge ap k).a) (QC us)).length-j) (r7 [8,9,10]) U9 (0,pre,kk) ⟨nzl,by rw[f1_2];simp⟩ ?_)
 rintro⟨j,pre,kk⟩ ⟨f2_1,f2_2⟩
 refine qso tb hJ [0,1,2,3,4,5,6,7,8,9,1000] [_] [_,_,_,_,_,_,_,_,_,_,_] ?_
 refine cjS 10 (fun hb2=>?_) fun hb2=>?_
 try simp at hb2
 refine Zb (nx (Ze (Zc (ZG tb hJ [0,1,2,3,4,5,6,7,8,9,1002] [.ptr [lS (ge (QB (Yu (Z1 bl) ((ge ap k).a)) (QC us)) j)],_,_] [0] [_,_,_,_,_,_,_,_,_,_,_] rfl ⟨iIx Zd,trivial⟩ ?_))))
 refine ZG tb hJ [0,1,2,3,4,5,6,7,8,9,10,1003,1005,1006,1007] (V3 [.rd (Zf (Yu (Z1 bl) ((ge ap k).b))),_,.rd (Zf (QB (Yu (Z1 bl) ((ge ap k).b)) (QC us))),.int ((QB (Yu (Z1 bl) ((ge ap k).b)) (QC us)).length:Nat),_]) [3,5,6] U15 rfl ⟨fun _ _ hk hx hl _=>Y5 (ZeT hJ z1 (Z1 bl) ((ge ap k).b)) Zdg rfl (Zq hS _ hk hx) (hx.1) (ZP (Zh hx (mo 1 rfl)) Zv) (Za (hl.D 0 34 rfl rfl) (Za (hl.D 2 36 rfl rfl) Zg)) (jo hJ hx),fun _ _ hk hx hl _=>Y5 (ZdW hJ z2 (QC us) (Yu (Z1 bl) ((ge ap k).b)) (by exact ZcD (m:=2000) oz hbl _)) Zlp rfl (Zq hS _ hk hx) (hx.1) (ZP (Zh hx (mo 0 rfl)) Zv) (Za (hl.D 3 37 rfl rfl) (Za (hl.D 4 38 rfl rfl) Zg)) (jo hJ hx),Z3 Zm,trivial⟩ ?_
 refine ln 11 fun hl6=>?_
 refine ln 12 fun hl7=>?_
 refine Zc (lpo (ι:=Nat×(List Pr)×κ) (fun(i,pre,_)=>(i≤(QB (Yu (Z1 bl) (ge ap k).b) (QC us)).length)∧(pre=(ap.take k).flatMap (rqA bl us)++((QB (Yu (Z1 bl) (ge ap k).a) (QC us)).take j).flatMap (rqB bl us (ge ap k))++((QB (Yu (Z1 bl) (ge ap k).b) (QC us)).take i).map (fun y=>QN ⟨ge (QB (Yu (Z1 bl) (ge ap k).a) (QC us)) j,y⟩))) (fun(_,pre,kk)=>(OB.set keyS z2 (QC us)::OB.map keyS (fun z':List BA=>AV.rd (Zf z')) z1 (Z1 bl)::(I pre kk++R))) (fun(i,_,_)=>[(41,.int (i:Nat))]) (fun(i,_,_)=>(QB (Yu (Z1 bl) (ge ap k).b) (QC us)).length-i) [0,1,2,3,4,5,6,7,8,9,10,12,13,14] [_,_,_,_,_,_,_,_,_,_,_,_,_] (0,pre,kk) ⟨nzl,by rw[f2_2];simp⟩ ?_)
 rintro⟨i,pre,kk⟩ ⟨f3_1,f3_2⟩
 refine qso tb hJ [0,1,2,3,4,5,6,7,8,9,10,11,12,13,1000] [_] U15 ?_
 refine cjS 14 (fun hb3=>?_) fun hb3=>?_
 try simp at hb3
 refine Zb (nx (Ze (Zc (ZG tb hJ [0,1,2,3,4,5,6,7,8,9,10,11,12,13,1002] [.ptr [lS (ge (QB (Yu (Z1 bl) ((ge ap k).b)) (QC us)) i)],_,_] [0] U15 rfl ⟨iIx Zd,trivial⟩ ?_))))
 refine tsq (snK 3 tb rfl (sq (.agg (prC (⟨(ge (QB (Yu (Z1 bl) ((ge ap k).a)) (QC us)) j),(ge (QB (Yu (Z1 bl) ((ge ap k).b)) (QC us)) i)⟩:Pr))) rfl rfl (lb rfl) (fun a _ h=>Xe (us:=[a.eval (.tmp 46),a.eval (.tmp 47)]) ZcI rfl yz (Zi (h.get 1 rfl) (Zi (h.get 0 rfl) ZJ)) rfl h.x) ?_))
 refine sy (.agg (prC (QN (⟨(ge (QB (Yu (Z1 bl) ((ge ap k).a)) (QC us)) j),(ge (QB (Yu (Z1 bl) ((ge ap k).b)) (QC us)) i)⟩:Pr)))) (fun h=>ZaY (ZhX hJ (⟨(ge (QB (Yu (Z1 bl) ((ge ap k).a)) (QC us)) j),(ge (QB (Yu (Z1 bl) ((ge ap k).b)) (QC us)) i)⟩:Pr)) Zlq rfl (Zq hS _ h.keep h.x) (h.x.1) (Za (h.get 0 rfl) Zg) (jo hJ h.x)) ?_
 refine kw (Znu [OB.set keyS z2 (QC us),OB.map keyS (fun z':List BA=>AV.rd (Zf z')) z1 (Z1 bl)]) (Zef (O:=I pre kk) (R:=([OB.set keyS z2 (QC us),OB.map keyS (fun z':List BA=>AV.rd (Zf z')) z1 (Z1 bl)]++R)) (v:=encR (QN (⟨(ge (QB (Yu (Z1 bl) ((ge ap k).a)) (QC us)) j),(ge (QB (Yu (Z1 bl) ((ge ap k).b)) (QC us)) i)⟩:Pr))) rfl rfl rfl rfl (lb rfl) (fun a w h=>(h.get 4 rfl).lit) (fun a w h=>rel_pr (x:=(QN (⟨(ge (QB (Yu (Z1 bl) ((ge ap k).a)) (QC us)) j),(ge (QB (Yu (Z1 bl) ((ge ap k).b)) (QC us)) i)⟩:Pr))) (h.get 0 rfl)) (fun m' R' w1 hk hx=>hY m' R' pre (QN (⟨(ge (QB (Yu (Z1 bl) ((ge ap k).a)) (QC us)) j),(ge (QB (Yu (Z1 bl) ((ge ap k).b)) (QC us)) i)⟩:Pr)) kk w1 (by rw[f3_2];exact rq_pre hb1 hb2 hb3) hk hx) (fun q=>Zo4 [OB.set keyS z2 (QC us),OB.map keyS (fun z':List BA=>AV.rd (Zf z')) z1 (Z1 bl)] q) (fun s3=>?_) (fun z4=>?_))
 refine kw (ZeH [OB.set keyS z2 (QC us),OB.map keyS (fun z':List BA=>AV.rd (Zf z')) z1 (Z1 bl)]) (snK 1 tb rfl ?_)
 refine seK [0,7,8,9,10,11,12,13,14,15,16,17,18,19,20] U15 rfl (nx (cj 0 (fun hb4=>?_) fun hb4=>?_))
 try simp at hb4
 refine tw ZM (tw ZM ?_)
 exact ZA (fun a w h=>ZkY s3 rfl h)
 exact False.elim (by simp at hb4)
 refine kw (ZeH [OB.set keyS z2 (QC us),OB.map keyS (fun z':List BA=>AV.rd (Zf z')) z1 (Z1 bl)]) (snK 1 tb rfl ?_)
 refine seK [0,7,8,9,10,11,12,13,14,15,16,17,18,19,20] U15 rfl (nx (cj 0 (fun hb4=>?_) fun hb4=>?_))
 exact False.elim (by simp at hb4)
 try simp at hb4
 refine Zb (nx (Yo tb hJ [1,2,3,4,5,6,7,8,9,10,11,12,13,1001] [.int (i+1:Nat),_] [0] [_,_,_,_,_,_,_,_,_,_,_,_,_,_] rfl ⟨Z7,trivial⟩ ?_))
 exact YE (i+1,(pre++[(QN (⟨(ge (QB (Yu (Z1 bl) ((ge ap k).a)) (QC us)) j),(ge (QB (Yu (Z1 bl) ((ge ap k).b)) (QC us)) i)⟩:Pr))]),z4) [0,1,2,3,4,5,6,7,8,9,10,11,12,13] ⟨oz,by rw[f3_2,Q7 hb3,←List.append_assoc]⟩
 try simp at hb3
 refine Zs (nx (Yo tb hJ [0,1,2,3,4,5,6,7,8,1001] [.int (j+1:Nat),_] [0] U10 rfl ⟨Z7,trivial⟩ ?_))
 exact YE (j+1,pre,kk) [0,1,2,3,4,5,6,7,8,9] ⟨oz,by rw[f3_2,ZD (xs:=(QB (Yu (Z1 bl) (ge ap k).b) (QC us))) (k:=i) oz,Zfd hb2,←List.append_assoc];rfl⟩
 try simp at hb2
 refine Zs (nx (Yo tb hJ [1,2,3,4,5,1001] [.int (k+1:Nat),_] [0] U6 rfl ⟨Z7,trivial⟩ ?_))
 exact YE (k+1,pre,kk) (r6 []) ⟨oz,by rw[f2_2,ZD (xs:=(QB (Yu (Z1 bl) (ge ap k).a) (QC us))) (k:=j) oz,Zfd hb1];rfl⟩
 try simp at hb1
 refine Zs (kw ZM (kw ZM ?_))
 exact fun a w h=>Zud (rfl) (by rw[f1_2,ZnO,ZD oz]) kk rfl h
end Go.Proofs.YtneapgbkkkjagaaGreatDoor
