/-
  THE ENGINE: worlds that are grown of one world: draws, and blocks behind it (what a sort asks of its comparison).
  CONTRACT of the program: the order of pairs, and what it lays.
  CONTRACTS of the program: pairs, each once; a search by halves.
  THE ENGINE: a range over a function: the iterator's contract, and the statement, where rounds and the iterator may end by a panic.
  THE ENGINE: entering an iterator.
  THE ENGINE: an iterator that owns something while it yields.
  THE ENGINE: the way to a range over a function, where the frame's function is known; behind it, where a mark is deferred.
  CONTRACTS of the program: what a substitution requires.
-/
import Derived.Test.YtdfadihhfppjaaaGreatDoorQV
import Derived.Sort.Grow
namespace Go.Proofs.YtdfadihhfppjaaaGreatDoor
open Go.RowKit Go.Sort
def Ex (W w:World):Prop:=∃ q os,w=grow (W.drewN q) os
theorem Zqm (W:World):Ex W W:=⟨0, #[],by rw[grow_empty];rfl⟩
theorem Zl4 {W w:World} (h:Ex W w) (o:Obj):Ex W (w.alloc o):=by
 obtain⟨q,os,rfl⟩:=h
 exact⟨q,os++ #[o],by rw[alloc_eq_grow,grow_grow]⟩
theorem Zxc {W w:World} (h:Ex W w):Ex W w.drew:=by
 obtain⟨q,os,rfl⟩:=h
 exact⟨q+1,os,rfl⟩
section
variable {P:Program} {n:Rn} {S:Nat→Prop} {W:World} {o:Oper} {a:Act} {w:World} {x:Operand} {t e:TypeId}
theorem Zro {cs:List CD} (hop:o.op= .box t x) (h:Rel S w (.agg cs) (a.eval x)) (hS:S w.heap.size) (hx:Ex W w):Does n P o a w (YC S (Ex W) (.ptr cs) w):=by
 simp only[Rel]at h
 obtain⟨us,hv,hr⟩:=h
 have hk:Keeps All w (w.alloc (.cells us.toArray t)):=(Keeps.refl _ _).alloc _
 refine ZS (v:=.pointer (some ⟨w.heap.size,0,none⟩)) (w':=w.alloc (.cells us.toArray t)) ?_ ⟨?_,hk,Zl4 hx _⟩
 · simp[execOp,hop,hv,Instr.box,newVar,newRow,newObj,Sem.run,Value.cells]
 · simp only[Rel]
   exact⟨w.heap.size,0,us,rfl,by simp,hS,hr.keep hk fun _ _ _=>trivial,fun j u hj=>QS j u hj⟩
theorem Zrn {k:Nat} {cs:List CD} {parts:Array (Nat×Operand)} {us:List Value} (ht:Yp P t e 1) (hz:ZfF P e 1) (hop:o.op= .buildSlice t k parts) (hp:(parts.map fun(i,x)=>(i,a.eval x)).toList=us.zipIdx.map fun p=>(p.2,p.1)) (h:RdL S w cs us) (hk:us.length=k) (hk0:0<k) (hk1:k≤1000) (hS:S w.heap.size) (hx:Ex W w):
 Does n P o a w (YC S (Ex W) (.rd (.sl (cs.map fun c=>[c]))) w):=by
 obtain⟨z,hz,hzs,_⟩:=hz
 have hk':Keeps All w (w.alloc (.cells us.toArray e)):=(Keeps.refl _ _).alloc _
 have hf:=ZcQ (k:=k) (place:=fun i=>some (i*1,1)) (fun j _=>by simp) us 0 ((Array.range (k*1)).map (z.cells[· %z.cells.size]!)) yz oz h.one
 refine ZS (v:=.slice (some ⟨w.heap.size,0,none⟩) k k) (w':=w.alloc (.cells us.toArray e)) ?_ ⟨?_,hk',Zl4 hx _⟩
 · have hpl:(parts.map fun(i,x)=>(i,a.eval x)).toList=us.zipIdx.map fun p=>(p.2,p.1):=hp
   have hd:((Array.range (k*1)).map (z.cells[· %z.cells.size]!)).toList.drop (0+us.length)=[]:=by
    apply List.drop_of_length_le;simp;omega
   rw[hd]at hf
   simp only[List.take_zero,List.nil_append,List.append_nil]at hf
   rw[execOp,hop]
   have hn:¬ (k*1>2^24):=by omega
   have hn0:¬ (k*1=0):=by omega
   simp only[Sem.run_bind,Instr.buildSlice,run_underlying ht.1,Result.andThen_ok,ht.2 w,if_neg hn,if_neg hn0,hz w,hpl]
   simp only[Nat.mul_one]at hf ⊢
   simp[newRow,newObj,Sem.run,hf]
 · simp only[Rel]
   have hlen:(cs.map fun c=>[c]).length=k:=by rw[List.length_map,←hk,h.length]
   rw[←hlen]
   refine Rd.of_cells (n:=1) (us:=us) nlr (by rw[hlen];simp only[maxLen];omega) yz hS (fun r hr=>by obtain⟨c,_,rfl⟩:=List.mem_map.1 hr;rfl) ?_ fun j u hj=>QS j u hj
   have:(cs.map fun c=>[c]).flatten=cs:=by
    clear hlen hf h hp
    induction cs with
    | nil=>rfl
    | cons c cs ih=>simp only[List.map_cons,List.flatten_cons,ih];rfl
   rw[this]
   exact h.keep hk' fun _ _ _=>trivial
theorem ZkR {f:FuncId} {args:List Operand} {ts:Array TypeId} {vs:List Value} {r:Value} (h1:Zi P f) (hop:o.op= .call { callee:=.value (.func f),args:=args.toArray,argTypes:=ts }) (hv:args.map a.eval=vs) (hc:Calls P f vs.toArray w fun e w'=>e= .returned r∧w'=w) (hr:okLit r) (hx:Ex W w):Does n P o a w (YC S (Ex W) (.lit r) w):=by
 refine Zlq h1 hop ?_
 rw[List.map_toArray,hv]
 refine hc.mono fun e w' ⟨he,hw⟩=>⟨r,he,Rel.of_lit _ hr,hw▸Keeps.refl _ _,hw▸hx⟩
end
section
variable {P:Program} {n:Rn} {S S':Nat→Prop} {X:WP} {o:Oper} {a:Act} {w:World} {x y:Operand} {t u s d:TypeId}
theorem r_toU {k:Nat} (hs:P.underlying s=some (.int .i64)) (hd:P.underlying d=some (.int .u64)) (hop:o.op= .convert s d x) (h:Rel S' w (.int (k:Int)) (a.eval x)) (hk:k<18446744073709551616) (hx:X w):Does n P o a w (YC S X (.lit (.int .u64 (k:Int))) w):=by
 refine Zr (v:=.int .u64 (k:Int)) ?_ (Rel.of_lit _) hx
 have hw:IntKind.u64.wrap (k:Int)=k:=by simp[IntKind.wrap,IntKind.bits,IntKind.signed];omega
 simp[execOp,hop,h.lit,convert,Conv.intToInt,Sem.run_bind,run_underlying hs,run_underlying hd,hw]
theorem r_ofU {k:Nat} (hs:P.underlying s=some (.int .u64)) (hd:P.underlying d=some (.int .i64)) (hop:o.op= .convert s d x) (h:Rel S' w (.lit (.int .u64 (k:Int))) (a.eval x)) (hk:k≤9223372036854775807) (hx:X w):Does n P o a w (YC S X (.int (k:Int)) w):=by
 refine Zr (v:=.int .i64 (k:Int)) ?_ (Rel.of_lit _) hx
 have hw:IntKind.i64.wrap (k:Int)=k:=IntWalk.i64_in (k:Int) ⟨oz,oz⟩
 simp[execOp,hop,h.lit,convert,Conv.intToInt,Sem.run_bind,run_underlying hs,run_underlying hd,hw]
theorem r_half {k:Nat} (hop:o.op= .binOp .shr t x y u) (h:Rel S w (.lit (.int .u64 (k:Int))) (a.eval x)) (hy:Rel S w (.lit (.int .u64 1)) (a.eval y)) (hx:X w):Does n P o a w (YC S X (.lit (.int .u64 ((k/2:Nat):Int))) w):=by
 have hrun:(binOp .shr t (.int .u64 (k:Int)) (.int .u64 1)).run P w= .ok (.int .u64 ((k/2:Nat):Int)) w:=by
  have h2:(k:Int).fdiv (2^ (min (Int.toNat 1) 64))=((k/2:Nat):Int):=by
   rw[show(2:Int)^ (min (Int.toNat 1) 64)=2 from by decide,Int.fdiv_eq_ediv_of_nonneg _ oz]
   omega
  show(Op.shift .shr .u64 (k:Int) .u64 1).run P w=_
  unfold Op.shift
  rw[if_neg oz]
  show Result.ok (Value.int .u64 ((k:Int).fdiv (2^ (min (Int.toNat 1) 64)))) w=_
  rw[h2]
 exact Zb0 True.intro (Qf ..) hrun hop h hy hx
end
section
variable {P:Program} {n:Rn} {S S':Nat→Prop} {X:WP} {o:Oper} {a:Act} {w:World} {x:Operand} {t e:TypeId} {k:Nat} {v:Value} {rows:List (List CD)}
theorem ZrJ {lo m:Nat} (hm:rows.length-lo=m) (h1:P.underlying t=some (.slice e)) (hop:o.op= .call { callee:=.builtin .len,args:= #[x],argTypes:= #[t] }) (hi:∃ l,(OB.row v e k rows).inv l S w) (h:Rel S' w (.lit (ZhX v lo k)) (a.eval x)) (hx:X w):
 Does n P o a w (YC S X (.int m) w):=by
 subst hm
 obtain⟨l,us,g1,_⟩:=hi
 refine Zr (v:=.int .i64 ((rows.length-lo:Nat):Int)) ?_ (Rel.of_lit _) hx
 rcases g1.2 with⟨hv,h4⟩ | ⟨g,cap,cur,hv,_⟩
 · simp[execOp,hop,h.lit,hv,ZhX,resolve,invoke,builtin,Builtin.len_,Sem.run_bind,run_underlying h1,goInt,h4]
 · simp[execOp,hop,h.lit,hv,ZhX,resolve,invoke,builtin,Builtin.len_,Sem.run_bind,run_underlying h1,goInt]
end
end Go.Proofs.YtdfadihhfppjaaaGreatDoor
set_option maxHeartbeats 8000000
set_option maxRecDepth 100000
namespace Go.Proofs.YtdfadihhfppjaaaGreatDoor
open Go.RowKit
theorem ZwK (s:BA) (w:World):Calls Tryz.prog 152 #[.string s] w fun e w'=>e= .returned (.bool false)∧w'=w:=by
 go_enter Tryz.func152,Tryz.ntmps152
 go_wp2
 go_ret
 exact⟨by simp,Y⟩
theorem ZqC (x y:BA) (w:World):Calls Tryz.prog 126 #[.string x,.string y] w fun e w'=>e= .returned (.int .i64 (ZaC x y))∧w'=w:=by
 go_enter Tryz.func126,Tryz.ntmps126
 go_wp2_with (go_at_call 152;refine(ZwK _ _).mono ?_;rintro e w' ⟨rfl,rfl⟩)
 all_goals go_ret
 · rename_i h
   exact⟨by rw[ZaC,if_pos h];rfl,Y⟩
 · rename_i h2 _ _ h
   have h3:¬ x=y:=fun e=>by simp[e]at h
   exact⟨by rw[ZaC,if_neg (by simp[h2]),if_neg h3];rfl,Y⟩
 · rename_i h2 h
   have h3:x=y:=by
    have:=QW x y
    simp_all
   exact⟨by rw[ZaC,if_neg (by simp[h2]),if_pos h3];rfl,Y⟩
theorem orI_x (b off cap:Nat) (x y:Int) (w:World) (h0:w.cell? ⟨b,off,none⟩=some (.int .i64 x)) (h1:w.cell? ⟨b,off+1,none⟩=some (.int .i64 y)):Calls Tryz.prog 44 #[.slice (some ⟨b,off,none⟩) 2 cap] w fun e w'=>e= .returned (.int .i64 (orI [x,y]))∧w'=w:=by
 go_enter Tryz.func44,Tryz.ntmps44
 go_wp2_with fail
 refine wp_loop_rounds 3 ?_
 rw[rounds_succ]
 go_wp2
 · rename_i h
   go_ret
   exact⟨by simp at h;simp[orI,h],Y⟩
 rw[rounds_succ]
 go_wp2
 · rename_i h2 _ _ h
   go_ret
   exact⟨by simp at h h2;simp[orI,h,h2],Y⟩
 rw[rounds_succ]
 go_wp2
 have h3:x=0:=by simpa using ‹(x !=0)=false›
 have h4:y=0:=by simpa using ‹(y !=0)=false›
 go_ret
 exact⟨by simp[orI,h3,h4],Y⟩
def Zqq (p:Pr):List Value:=[.string p.a,.string p.b]
theorem Zlc {T:Nat→Prop} {w:World} {p:Pr} (h1:p.a.size≤maxLen) (h2:p.b.size≤maxLen):Rel T w (.agg (prC p)) (.agg (Zqq p).toArray):=by
 simp only[Rel]
 exact⟨_,Y,.lit _ h1,.lit _ h2,U⟩
theorem Zqv (p q:Pr) (hp:p.a.size≤maxLen∧p.b.size≤maxLen) (hq:q.a.size≤maxLen∧q.b.size≤maxLen) (W:World):Calls Tryz.prog 123 #[.agg (Zqq p).toArray,.agg (Zqq q).toArray] W fun e w'=>e= .returned (.int .i64 (Zgp p q))∧Ex W w':=by
 have ha:RelL (fun _=>True) W [.agg (prC p),.agg (prC q)] [.agg (Zqq p).toArray,.agg (Zqq q).toArray]:=Za (Zlc hp.1 hp.2) (Za (Zlc hq.1 hq.2) Zc)
 obtain⟨g1,g2⟩:=Qo (N:=17) (M:=17) yz Y ha
 refine(callsIn_wide (n:=5)).1 (callsIn_of_wp Tryz.func123 Y trivial ?_ Y)
 suffices h:Tr 5 Tryz.prog (St All (fun _=>True) W 17 (Y2 0 [.agg (prC p),.agg (prC q)]) (Ex W)) _ _ from h _ _ ⟨Y,g1,Keeps.refl _ _,Zqm W,g2⟩
 refine tsq (sy (.ptr (prC p)) (fun h=>Zro Y (h.get 0 Y) trivial h.x) ?_)
 refine sy (.ptr (prC q)) (fun h=>Zro Y (h.get 2 Y) trivial h.x) ?_
 refine sy (.int 0) (fun h=>YA Y (Rel.of_lit _) h.x) ?_
 refine seK [1,2] U2 Y (nx (Zf ?_))
 refine fun a w h=>Zlh (fun ix'=>([.ptr (prC p),.str p.a,.ptr (prC q),.str q.a,.int (ZaC p.a q.a),.ptr [lS p.b],.str p.b,.ptr [lS q.b],.str q.b,.int (ZaC p.b q.b),.rd (.sl [[lI (ZaC p.a q.a)],[lI (ZaC p.b q.b)]]),.int (Zgp p q),.int (Zgp p q)]:List AV).getD ix' .any) (fun _=>true) [(4,.int (Zgp p q))] h (fun _ h=>h) Yo Y Y Y (fun _=>Zxc) ⟨?o0,?o1,?o2,?o3,?o4,?o5,?o6,?o7,?o8,?o9,?o10,?o11,?o12,U⟩ ⟨.new 12 4 _ Y Y Y (.inl ⟨_,Y⟩),U⟩ ?n
 case o0=>exact⟨Y,fun a w _ hx hl _=>ZG Q8 Y (hl.env 1 2 _ Y Y) hx⟩
 case o1=>exact⟨Y,fun a w _ hx hl _=>ZB Qx Y (hl.dep 0 5 _ Y Y Y Y) hx⟩
 case o2=>exact⟨Y,fun a w _ hx hl _=>ZG Q8 Y (hl.env 0 3 _ Y Y) hx⟩
 case o3=>exact⟨Y,fun a w _ hx hl _=>ZB Qx Y (hl.dep 2 7 _ Y Y Y Y) hx⟩
 case o4=>exact⟨Y,fun a w _ hx hl _=>ZkR (args:=[.tmp 6,.tmp 8]) (vs:=[.string p.a,.string q.a]) ZcX Y (by rw[List.map_cons,List.map_cons,List.map_nil,(hl.dep 1 6 _ Y Y Y Y).lit,(hl.dep 3 8 _ Y Y Y Y).lit]) (ZqC _ _ _) True.intro hx⟩
 case o5=>exact⟨Y,fun a w _ hx hl _=>ZG Q7 Y (hl.env 1 2 _ Y Y) hx⟩
 case o6=>exact⟨Y,fun a w _ hx hl _=>ZB Qx Y (hl.dep 5 10 _ Y Y Y Y) hx⟩
 case o7=>exact⟨Y,fun a w _ hx hl _=>ZG Q7 Y (hl.env 0 3 _ Y Y) hx⟩
 case o8=>exact⟨Y,fun a w _ hx hl _=>ZB Qx Y (hl.dep 7 12 _ Y Y Y Y) hx⟩
 case o9=>exact⟨Y,fun a w _ hx hl _=>ZkR (args:=[.tmp 11,.tmp 13]) (vs:=[.string p.b,.string q.b]) ZcX Y (by rw[List.map_cons,List.map_cons,List.map_nil,(hl.dep 6 11 _ Y Y Y Y).lit,(hl.dep 8 13 _ Y Y Y Y).lit]) (ZqC _ _ _) True.intro hx⟩
 case o10=>exact⟨Y,fun a w _ hx hl _=>Zrn (k:=2) (us:=[a.eval (.tmp 9),a.eval (.tmp 14)]) Zw Zec Y yz (Zt (hl.dep 4 9 _ Y Y Y Y) (Zt (hl.dep 9 14 _ Y Y Y Y) Z0)) Y dz dz trivial hx⟩
 case o11=>
  refine⟨Y,fun a w _ hx hl _=>?_⟩
  have hr:=hl.dep 10 15 _ Y Y Y Y
  simp only[List.getD_cons_succ,List.getD_cons_zero,Rel]at hr
  generalize hrows:([[lI (ZaC p.a q.a)],[lI (ZaC p.b q.b)]]:List (List CD))=rows at hr
  generalize hv:a.eval (.tmp 15)=v at hr
  cases hr with
  | nil=>cases hrows
  | sl b off cap n rows vs hl2 hm hb hS hn hc hrd=>
   subst hrows
   have h1:n=1:=(hn _ (List.mem_cons_self)).symm
   subst h1
   have h0:=hc 0 0 yz oz
   have h1:=hc 1 0 yz oz
   rw[(hrd 0 0 _ _ Y Y).of_lit]at h0
   rw[(hrd 1 0 _ _ Y Y).of_lit]at h1
   refine(?_:Does _ _ _ _ _ (YC _ (Ex W) (.int (Zgp p q)) w))
   rw[←ZqB]
   exact ZkR (args:=[.tmp 15]) (vs:=[.slice (some ⟨b,off,none⟩) 2 cap]) ZkC Y (by rw[List.map_cons,List.map_nil,hv];rfl) (orI_x b off cap _ _ w h0 h1) True.intro hx
 case o12=>exact⟨Y,fun a w _ hx hl _=>YA Y (hl.dep 11 16 _ Y Y Y Y) hx⟩
 refine nx (Zs fun a w h=>⟨h.defs,a.tmps.getD 4 undef,by simp[results,Tryz.results123,Sem.run_pure],?_,h.x⟩)
 rw[show a.tmps.getD 4 undef= .int .i64 (Zgp p q)from(h.get 0 Y).lit]
theorem Znj {J:WP} (hJ:Stab J) (v:Value) (ps:List Pr) (hn:ps.length≤9223372036854775807):FnM (ι:=Value) Tryz.prog J 146 [] [.lit v] [OB.row v 162 2 (ps.map prC)] (fun i'=>.lit (i')) (fun i'=>[OB.row i' 162 2 ((Zc4 ps ps.length).map prC)]):=by
 refine fEM Tryz.func146 fun S w0 R hS hJ0 hH=>?_
 refine YS (B:=So J S w0 61 (OB.row v 162 2 (ps.map prC)::R) [(0,.lit v)]) ?_ fun a w h=>h
 refine qso tb hJ [0] [_] [_] ?_
 refine Zf (ZF tb hJ [0,1002] [_,.int (ps.length:Nat),_] [1] U2 Y ⟨fun _ _ _ hx hl _=>ZcC (by rw[List.length_map]) Yl Y (Ze hx (mo 0 Y)) (hl.D 0 6 Y Y) hx,U⟩ ?_)
 refine cj 1 (fun hb1=>?_) fun hb1=>?_
 ·
  try simp at hb1
  refine qso tb hJ [1001] U2 [_] ?_
  exact tw (ob0 (congrArg (fun z'=>OB.row v 162 2 ((z').map prC)) (show ps=(Zc4 ps ps.length)from by first | exact Zfd oz | exact(f2_5.trans (by congr 1;omega)) | exact Zkt oz f1_2 f1_3))) (Zs (fun a w h=>ZK  (m:=0) v Y h Y Y))
 ·
  try simp at hb1
  refine Zb (nx (Zf (qso tb hJ [0,1000] [_] U2 ?_)))
  refine Zd (lpo (ι:=Nat) (fun k=>(1≤k)∧(k≤ps.length)∧(Zc4 ps k=ps.take k)) (fun _=>(OB.row v 162 2 (ps.map prC)::R)) (fun k=>[(3,.int (k:Nat))]) (fun k=>ps.length-k) [0,1] [_] 1 ⟨oz,oz,Zxh oz⟩ ?_)
  rintro k ⟨f1_1,f1_2,f1_3⟩
  refine Zf (ZF tb hJ [0,1,1003] [_,_,.int (ps.length:Nat),_] [2] U3 Y ⟨fun _ _ _ hx hl _=>ZcC (by rw[List.length_map]) Yl Y (Ze hx (mo 0 Y)) (hl.D 1 11 Y Y) hx,U⟩ ?_)
  refine cj 2 (fun hb2=>?_) fun hb2=>?_
  ·
   try simp at hb2
   refine Zb (nx (Zf (Zd (ZF tb hJ [0,1,1009] [_,_,.lit (YG v (k*2)),.agg (prC (ge ps k)),_,_,.int (k-1:Nat),.lit (YG v ((k-1)*2)),.agg (prC (ge ps (k-1))),.bool (decide ((ge ps k).a=(ge ps (k-1)).a)&&decide ((ge ps k).b=(ge ps (k-1)).b))] [2,3,6,7,8,9] U3 Y ⟨fun _ _ _ hx hl _=>ZU (i:=(k:Int)) ZE Y (Ze hx (mo 0 Y)) (hl.D 0 16 Y Y) (hl.D 1 17 Y Y) nnn (by rw[List.length_map];exact Int.ofNat_lt.2 sfz) hx,fun _ _ _ hx hl _=>XL (i:=k) Xt Y (Ze hx (mo 0 Y)) (hl.D 2 18 Y Y) (Qc (xs:=ps) (k:=k) sfz) Y hx,fun _ _ _ hx hl _=>ZfY (i:=k) (j:=1) Y (hl.D 5 21 Y Y) (Rel.of_lit (.int .i64 1)) sfz sfz hx,fun _ _ _ hx hl _=>ZU (i:=((k-1:Nat):Int)) ZE Y (Ze hx (mo 0 Y)) (hl.D 4 20 Y Y) (hl.D 6 22 Y Y) nnn (by rw[List.length_map];exact Int.ofNat_lt.2 sfz) hx,fun _ _ _ hx hl _=>XL (i:=k-1) Xt Y (Ze hx (mo 0 Y)) (hl.D 7 23 Y Y) (Qc (xs:=ps) (k:=k-1) sfz) Y hx,fun _ _ _ hx hl _=>r_eqlP Zqo Y (hl.D 3 19 Y Y) (hl.D 8 24 Y Y) hx,U⟩ ?_))))
   refine cj 2 (fun hb3=>?_) fun hb3=>?_
   ·
    try simp at hb3
    have e3:ge ps k=ge ps (k-1):=ZuJ hb3.1 hb3.2
    refine ZF tb hJ [0,1,1003] [_,_,.lit (ZhX v k 2),_] [2] U3 Y ⟨fun _ _ _ hx hl _=>Zln (lo:=k) ZE Y (Ze hx (mo 0 Y)) (hl.D 0 26 Y Y) (hl.D 1 27 Y Y) (by rw[List.length_map];exact sfz) hx,U⟩ ?_
    refine Zf (qso tb hJ [0,1,2,1000] [_] U4 ?_)
    refine Zd (lpo (ι:=Nat×Nat×(List Pr)) (fun(m,j,rs)=>(1≤m)∧(k+m≤ps.length)∧(rs.length=ps.length)∧(∀ i,k+m-1≤i→i<ps.length→ge rs i=ge ps i)∧(rs.take j=Zc4 ps (k+m))∧(j≤k+m-1)∧(k≤j)) (fun(_,_,rs)=>(OB.row v 162 2 (rs.map prC)::R)) (fun(m,j,_)=>[(5,.int (m:Nat)),(3,.int (j:Nat))]) (fun(m,_,_)=>ps.length-(k+m)) [0,2,3,1] U2 (1,k,ps) ⟨Nat.le_refl _,oz,Y,fun _ _ _=>Y,by rw[Zfe oz e3,f1_3],Nat.le_refl _,Nat.le_refl _⟩ ?_)
    rintro⟨m,j,rs⟩ ⟨f2_1,f2_2,f2_3,f2_4,f2_5,f2_6,f2_7⟩
    refine Zf (ZF tb hJ [0,1,2,3,1003] [_,_,.int (rs.length-k:Nat),_] [2] U5 Y ⟨fun _ _ _ hx hl _=>ZrJ (by rw[List.length_map]) Yl Y (Ze hx (mo 0 Y)) (hl.D 1 30 Y Y) hx,U⟩ ?_)
    refine cj 4 (fun hb4=>?_) fun hb4=>?_
    ·
     try simp at hb4
     refine Zb (nx (Zf (Zd (ZF tb hJ [0,1,2,3,1009] [_,_,.lit (YG v ((k+m)*2)),.agg (prC (ge rs (k+m))),_,_,.int (m-1:Nat),.lit (YG v ((k+(m-1))*2)),.agg (prC (ge rs (k+(m-1)))),.bool (!(decide ((ge rs (k+m)).a=(ge rs (k+(m-1))).a)&&decide ((ge rs (k+m)).b=(ge rs (k+(m-1))).b)))] [2,3,6,7,8,9] U5 Y ⟨fun _ _ _ hx hl _=>Zex (lo:=k) (i:=(m:Int)) ZE Y (Ze hx (mo 0 Y)) (hl.D 0 35 Y Y) (hl.D 1 36 Y Y) nnn (by rw[List.length_map];exact sfz) hx,fun _ _ _ hx hl _=>XL (i:=(k+m)) Xt Y (Ze hx (mo 0 Y)) (hl.D 2 37 Y Y) (Qc (xs:=rs) (k:=(k+m)) sfz) Y hx,fun _ _ _ hx hl _=>ZfY (i:=m) (j:=1) Y (hl.D 5 40 Y Y) (Rel.of_lit (.int .i64 1)) sfz sfz hx,fun _ _ _ hx hl _=>Zex (lo:=k) (i:=((m-1:Nat):Int)) ZE Y (Ze hx (mo 0 Y)) (hl.D 4 39 Y Y) (hl.D 6 41 Y Y) nnn (by rw[List.length_map];exact sfz) hx,fun _ _ _ hx hl _=>XL (i:=(k+(m-1))) Xt Y (Ze hx (mo 0 Y)) (hl.D 7 42 Y Y) (Qc (xs:=rs) (k:=(k+(m-1))) sfz) Y hx,fun _ _ _ hx hl _=>ZuI Zqo Y (hl.D 3 38 Y Y) (hl.D 8 43 Y Y) hx,U⟩ ?_))))
     refine cj 4 (fun hb5=>?_) fun hb5=>?_
     ·
      try simp at hb5
      have e4:¬ ge ps (k+m)=ge ps (k+m-1):=fun e=>by rw[←f2_4 _ oz oz,←f2_4 _ nlr oz]at e;rw[show k+(m-1)=k+m-1 by omega,e]at hb5;simp at hb5
      refine tsq (snK 4 tb Y (sy (.lit (YG v ((k+m)*2))) (fun h=>Zex (lo:=k) (i:=(m:Int)) ZE Y (Ze h.x (mo 0 Y)) (h.get 1 Y) (h.get 0 Y) nnn (by rw[List.length_map];exact sfz) h.x) ?_))
      refine sy (.agg (prC (ge rs (k+m)))) (fun h=>XL (i:=(k+m)) Xt Y (Ze h.x (mo 0 Y)) (h.get 0 Y) (Qc (xs:=rs) (k:=(k+m)) sfz) Y h.x) ?_
      refine sy (.lit (YG v (j*2))) (fun h=>ZU (i:=(j:Int)) ZE Y (Ze h.x (mo 0 Y)) (h.get 5 Y) (h.get 4 Y) nnn (by rw[List.length_map];exact Int.ofNat_lt.2 sfz) h.x) ?_
      refine Zak (i:=j) hJ hJ0 Xj Y Y Y (by rw[List.length_map];exact sfz) Y (fun a w h=>⟨(h.get 0 Y),(h.get 1 Y)⟩) ?_
      rw[show(rs.map prC).set j (prC (ge rs (k+m)))=(rs.set j (ge rs (k+m))).map prC from List.map_set.symm]
      refine seK [7,8,9,10] U4 Y (nx (YU tb hJ [0,1,2,1002] [_,.int (j+1:Nat),_] [1] U4 Y ⟨YT,U⟩ ?_))
      refine nx (YU tb hJ [0,1,3,1002] [_,.int (m+1:Nat),_] [1] U4 Y ⟨YT,U⟩ ?_)
      exact Xk (m+1,j+1,rs.set j (ge rs (k+m))) [0,1,3,2] ⟨oz,oz,by rw[List.length_set];exact f2_3,fun i h1 h2=>by rw[Zp6 oz];exact f2_4 i oz h2,by rw[take_set oz,f2_5,f2_4 _ oz oz];exact(Zhg (.inr e4)).symm,oz,oz⟩
     ·
      try simp at hb5
      have e4:ge ps (k+m)=ge ps (k+m-1):=by rw[←f2_4 _ oz oz,←f2_4 (k+m-1) nlr oz];rw[show k+(m-1)=k+m-1 by omega]at hb5;exact ZuJ hb5.1 hb5.2
      refine Zb (nx (YU tb hJ [0,1,3,1002] [_,.int (m+1:Nat),_] [1] U4 Y ⟨YT,U⟩ ?_))
      exact Xk (m+1,j,rs) [0,1,3,2] ⟨oz,oz,f2_3,fun i h1 h2=>f2_4 i oz h2,by rw[f2_5];exact(Zfe oz e4).symm,oz,f2_7⟩
    ·
     try simp at hb4
     refine Zu (nx (tsq (snK 2 tb Y (sy (.lit (ZhX v j 2)) (fun h=>Zln (lo:=j) ZE Y (Ze h.x (mo 0 Y)) (h.get 1 Y) (h.get 0 Y) (by rw[List.length_map];exact sfz) h.x) ?_))))
     refine ZgB (lo:=j) Zed Yl dz hJ hJ0 Y Y Y (by rw[List.length_map];exact sfz) (fun a w h=>(h.get 0 Y)) ?_
     rw[←List.map_take]
     refine seK [3,6] U2 Y (nx (ZF tb hJ [1003] [_,_,.lit (Zaf v j),_] [2] [_] Y ⟨fun _ _ _ hx hl _=>Zez (m:=j) ZE Y (Ze hx (mo 0 Y)) (by first | rfl | (rw[List.length_map];exact sfz)) (hl.D 0 57 Y Y) (hl.D 1 58 Y Y) hx,U⟩ ?_))
     exact tw (ob0 (congrArg (fun z'=>OB.row (Zaf v j) 162 2 ((z').map prC)) (show(rs.take j)=(Zc4 ps ps.length)from by first | exact Zfd oz | exact(f2_5.trans (by congr 1;omega)) | exact Zkt oz f1_2 f1_3))) (Zs (fun a w h=>ZK  (m:=0) (Zaf v j) Y h Y Y))
   ·
    try simp at hb3
    have e3:¬ ge ps k=ge ps (k-1):=fun e=>by simp[e]at hb3
    refine Zb (nx (YU tb hJ [0,1002] [_,.int (k+1:Nat),_] [1] U2 Y ⟨YT,U⟩ ?_))
    exact Xk (k+1) [0,1] ⟨oz,oz,Ztc oz f1_3 e3⟩
  ·
   try simp at hb2
   refine Zu (nx (qso tb hJ [1001] U2 [_] ?_))
   exact tw (ob0 (congrArg (fun z'=>OB.row v 162 2 ((z').map prC)) (show ps=(Zc4 ps ps.length)from by first | exact Zfd oz | exact(f2_5.trans (by congr 1;omega)) | exact Zkt oz f1_2 f1_3))) (Zs (fun a w h=>ZK  (m:=0) v Y h Y Y))
theorem p_bsP {J:WP} (hJ:Stab J) (xs:List Pr) (p:Pr) (f:FuncId) (caps:List AV) (hf:∀ x' y',FnR Tryz.prog J f [] ([.agg (prC (x')),.agg (prC (y'))]++caps) (.int (Zgp x' y'))) (hk0:Zi Tryz.prog f) (hs:SrtP xs) (hn:xs.length≤4000000000000000000):Fn Tryz.prog J 122 [.rd (X8 xs),.agg (prC p),.fn f caps] (.tup [.int (bsN xs p:Nat),.bool (decide (p∈xs))]):=by
 refine fE Tryz.func122 fun S w0 hS hJ0=>?_
 clear hJ0
 refine ln 0 fun hl1=>?_
 refine hqs tb hJ [0,2,1000] [.ptr (prC p),_,_] [0] U3 Y ⟨iBs hS hJ,U⟩ ?_
 refine hqs tb hJ [0,1,2,1002] [_,.int (xs.length:Nat),_] [1] U4 Y ⟨Ym Yl,U⟩ ?_
 refine qs tb hJ [0,1,2,3,1001,1002] U3 U6 ?_
 refine Zf (Zd (lp (ι:=Nat×Nat) (fun(i,j)=>(i≤j)∧(j≤xs.length)∧(∀ k,k<i→ltP (ge xs k) p=true)∧(∀ k,j≤k→k<xs.length→ltP (ge xs k) p=false)) (fun(i,j)=>[(9,.int (i:Nat)),(10,.int (j:Nat))]) (fun(i,j)=>j-i) (r6 []) U4 (0,xs.length) ⟨nzl,Nat.le_refl _,fun k hk=>by omega,fun k hk hl=>by omega⟩ ?_))
 rintro⟨i,j⟩ ⟨f1_1,f1_2,f1_3,f1_4⟩
 refine Zf (qs tb hJ (r6 [1002]) U3 U7 ?_)
 refine cj 6 (fun hb1=>?_) fun hb1=>?_
 ·
  try simp at hb1
  refine Zb (nx (Zd (hqs tb hJ (r6 [1006]) [_,_,.int (i+j:Nat),.rd (.lit (.int .u64 (((i+j):Nat):Int))),.rd (.lit (.int .u64 ((((i+j)/2):Nat):Int))),.int (((i+j)/2):Nat),_] [2,3,4,5] U7 Y ⟨YT,fun _ _ _ hx hl _=>r_toU (k:=(i+j)) QU Zds Y (hl.D 2 20 Y Y) sfz hx,fun _ _ _ hx hl _=>r_half (k:=(i+j)) Y (hl.D 3 21 Y Y) (Rel.of_lit (.int .u64 1)) hx,fun _ _ _ hx hl _=>r_ofU (k:=((i+j)/2)) Zds QU Y (hl.D 4 22 Y Y) sfz hx,U⟩ ?_)))
  refine hqs tb hJ (r7 [1007]) (V3 [.ptr (prC (ge xs ((i+j)/2))),_,_,.int (Zgp (ge xs ((i+j)/2)) p),_]) [3,6] U8 Y ⟨iIx ZE,fun _ _ hk hx hl _=>Zax (hf (ge xs ((i+j)/2)) p) hk0 Y (hl.D 0 24 Y Y) (nm hS hk) (hx) Zq (Za (hl.D 4 28 Y Y) (Za (hl.D 5 29 Y Y) Zc)) (js hJ hx),U⟩ ?_
  refine cj 7 (fun hb2=>?_) fun hb2=>?_
  ·
   try simp at hb2
   refine hqp tb hJ [0,1,2,3,5,1002] [_,.int (((i+j)/2)+1:Nat),_] [1] U6 Y ⟨YT,U⟩ ?_
   exact lpE (((i+j)/2)+1,j) [0,1,2,3,5,4] ⟨oz,oz,bs_up hs oz hb2,f1_4⟩
  ·
   try simp at hb2
   refine qp tb hJ (r5 [1001]) U2 U6 ?_
   exact lpE (i,((i+j)/2)) (r6 []) ⟨oz,oz,f1_3,ZxP hs oz⟩
 ·
  try simp at hb1
  refine Zu (nx (hqs tb hJ [1014,1015] (V8 [.ptr (prC (ge xs i)),_,_,.int (Zgp (ge xs i) p),_,_,_,_]) [8,11] U2 Y ⟨gIx ZE (hk:=fun(hc':((decide ((i:Int)< (xs.length:Int)))==true)=true)=>by(try simp at hc');first | omega | (simp;omega) | grind[Zp]),fun _ _ hk hx hl hc=>Zax (hf (ge xs i) p) hk0 Y (hl.D 5 40 Y hc) (nm hS hk) (hx) Zq (Za (hl.D 9 44 Y hc) (Za (hl.D 10 45 Y hc) Zc)) (js hJ hx),U⟩ ?_))
  exact Zs (fun a w h=>Yz (m:=0) (k:=1) Y h Y Y (eI (by rw[bs_pos (p:=p) oz oz f1_3 f1_4])) (eB (bs_dec hs oz f1_3 f1_4)))
def OB.obj (l:Nat) (o:Obj):OB where
 blk:=fun k=>k=l
 inv:=fun lo _ w=>lo≤l∧l<w.heap.size∧w.heap[l]?=some o
 mv:=fun⟨h1,h2,h3⟩ hk hb _=>⟨h1,by have:=hk.size;omega,(hk.block _ h2 (hb _ rfl)).trans h3⟩
 lt:=fun⟨h1,h2,_⟩ k hk=>by subst hk;exact⟨h1,h2⟩
section
variable {P:Program} {J:WP} {S:Nat→Prop} {O:List OB} {w0 w:World}
theorem Qn {l:Nat} {o:Obj} (o':Obj) (hJ:Stab J) (hJ0:J w0) (hk:Keeps All w0 w) (hx:XO J S w0.heap.size (OB.obj l o::O) w):Zag J S w0 (OB.obj l o::O) w (OB.obj l o'::O) (w.putObj l o'):=by
 obtain⟨h1,h2,h3⟩:=hx.2.1 (OB.obj l o) yz
 have hk':Keeps All w0 (w.putObj l o'):=hk.putObj (fun hlt=>by omega) o'
 have hkk:Keeps (fun b=>¬ (OB.obj l o).blk b) w (w.putObj l o'):=(Keeps.refl _ _).putObj (fun _ hn=>hn rfl) o'
 obtain⟨g1,g2⟩:=ZhL (o':=OB.obj l o') hx (hJ _ _ hk' hJ0) hkk (fun k hk=>.inl hk) ⟨h1,by simpa using h2,World.putObj_heap_same h2⟩
 exact⟨hk',g1,fun av u hr=>Rel.move hkk g2 hr⟩
theorem ZnU {o:OB} (h:XO J S w0.heap.size (o::O) w):XO J S w0.heap.size O w:=
 ⟨h.1,fun p hp=>OB.sub (h.2.1 p (List.mem_cons_of_mem _ hp)) fun _ _ hk=>hk.drop,(List.pairwise_cons.1 h.2.2).2⟩
def rndQ {κ μ σ:Type} (J:WP) (S:Nat→Prop) (w0:World) (I':κ→List OB) (pv:μ→Value) (O3:μ→List OB) (O4:σ→List OB) (R:List OB):Exit→Act→WP
 | .normal,_,w=>∃ k,Keeps All w0 w∧XO J S w0.heap.size (I' k++R) w
 | .ret,_,w=>∃ s,Keeps All w0 w∧XO J S w0.heap.size (O4 s++R) w
 | .panic ch,a,w=>∃ q,ch=pch (pv q)∧a.defers=[]∧Keeps All w0 w∧XO J S w0.heap.size (O3 q++R) w
 | _,_,_=>False
def rndE {κ μ σ:Type} (J:WP) (S:Nat→Prop) (w0:World) (I':κ→List OB) (pv:μ→Value) (O3:μ→List OB) (O4:σ→List OB) (R:List OB) (e:Ending) (w:World):Prop:=
 (e= .returned (.bool true)∧∃ k,Keeps All w0 w∧XO J S w0.heap.size (I' k++R) w)∨(e= .returned (.bool false)∧∃ s,Keeps All w0 w∧XO J S w0.heap.size (O4 s++R) w)∨(∃ q,e= .panicked (pch (pv q))∧Keeps All w0 w∧XO J S w0.heap.size (O3 q++R) w)
def ZvS {κ μ σ:Type} (J:WP) (S:Nat→Prop) (w0:World) (I':κ→List OB) (pv:μ→Value) (O3:μ→List OB) (O4:σ→List OB) (R:List OB) (fl:Option Value) (e:Ending) (w:World):Prop:=
 (fl=none∧∃ v k,e= .returned v∧Keeps All w0 w∧XO J S w0.heap.size (I' k++R) w)∨
 (∃ v k,fl=some v∧e= .panicked (pch v)∧Keeps All w0 w∧XO J S w0.heap.size (I' k++R) w)∨
 (∃ v s,e= .returned v∧Keeps All w0 w∧XO J S w0.heap.size (O4 s++R) w)∨
 (∃ q,e= .panicked (pch (pv q))∧Keeps All w0 w∧XO J S w0.heap.size (O3 q++R) w)
def Zrd {α:Type} (P:Program) (J:WP) (g:FuncId) (Hs:List OB) (avc:List AV) (avs:α→List AV) (xs:List α) (fl:Option Value):Prop:=
 ∀(S:Nat→Prop) (w0:World) (R:List OB) (w:World) (l n:Nat) (us:List Value) (κ μ σ:Type) (I:List α→κ→List OB) (pv:μ→Value) (O3:μ→List OB) (O4:σ→List OB) (k0:κ),
  (∀ b,w0.heap.size≤b→S b)→J w0→Has Hs S w0→Keeps All w0 w→XO J S w0.heap.size (I [] k0++R) w→RelL (SO S (I [] k0++R)) w avc us→
  (∀(m:Nat) (R':List OB) (pre:List α) (x:α) (k:κ) (w1:World) (vs:List Value),(pre++[x])<+:xs→Keeps All w0 w1→XO J S w0.heap.size (I pre k++R') w1→RelL (SO S (I pre k++R')) w1 (avs x) vs→YieldAt Fence.wide m P l vs.toArray w1 (rndE J S w0 (I (pre++[x])) pv O3 O4 R'))→
  CallsIn Fence.wide n P g (#[.func (.yield l) #[] #[]]++us.toArray) w (ZvS J S w0 (I xs) pv O3 O4 R fl)
end
section
variable {n:Rn} {N:Nat} {P:Program} {J:WP} {S:Nat→Prop} {O:List OB} {w0:World} {env:List (Nat×AV)} {Q:Exit→Act→WP}
theorem ZdN {κ μ σ:Type} {ops:Array Oper} {o:Oper} {rest:List Oper} {R:List OB} {d l:Nat} {xs:List Operand} {callee:Operand} {ts:Array TypeId} {avl:List AV} {I':κ→List OB} {pv:μ→Value} {O3:μ→List OB} {O4:σ→List OB} (hr:n.r=none) (hg:o.guard=none) (hop:o.op= .call { callee:=.value callee,args:=xs.toArray,argTypes:=ts }) (hd:o.dst=some d) (hN:d<N)
 (hc:∀ a w,So J S w0 N (O++R) env a w→a.eval callee= .func (.yield l) #[] #[]) (hv:∀ a w,So J S w0 N (O++R) env a w→RelL (SO S (O++R)) w avl (xs.map a.eval))
 (hY:∀(m:Nat) (R':List OB) (w1:World) (vs:List Value),Keeps All w0 w1→XO J S w0.heap.size (O++R') w1→RelL (SO S (O++R')) w1 avl vs→YieldAt Fence.wide m P l vs.toArray w1 (rndE J S w0 I' pv O3 O4 R'))
 (pan:∀ q a w,So J S w0 N (O3 q++R) env a w→Q (.panic (pch (pv q))) a w)
 (stop:∀ s a w,So J S w0 N (O4 s++R) ((d,.bool false)::Yn d env) a w→wpListIn n.F n.d P ops Q rest a w)
 (next:∀ k a w,So J S w0 N (I' k++R) ((d,.bool true)::Yn d env) a w→wpListIn n.F n.d P ops Q rest a w):
 ∀ a w,So J S w0 N (O++R) env a w→wpListIn n.F n.d P ops Q (o::rest) a w:=fun a w h=>by
 obtain⟨nd,nr⟩:=n
 subst hr
 refine wpListIn_plain hg fun K' hK=>?_
 let B:AV→Value→Prop:=fun av v=>Rel (SO S (O++R)) w av v
 have hx2:=ZhK (B:=B) h.x fun _ _ h=>h
 obtain⟨fn,tmps,assign,body,hy,hR⟩:=hY (nd-1) (OB.was B::R) w (xs.map a.eval) h.keep hx2 ((hv a w h).sub fun k _ hs=>so_was.2 hs)
 have hrun:(execOp a.eval o).run P w= .ok (.round l fn tmps assign body) w:=by
  simp only[execOp,hop,resolve,hc a w h,Deferred.ofValue,Sem.run_bind,Sem.run_pure,Result.andThen_ok,invoke]
  simpa using hy
 refine⟨fun _ _=>trivial,?_⟩
 show o.uponIn _ nd P a K' Q ((o.semAt none a.eval).run P w)
 rw[Oper.semAt_none,hrun]
 refine⟨fun h=>by simp[Rn.F,Fence.wide]at h,RoundIn.mono hR fun e w' he=>?_⟩
 rcases he with⟨rfl,k,hk',hx'⟩ | ⟨rfl,s,hk',hx'⟩ | ⟨q,rfl,hk',hx'⟩
 · obtain⟨g1,g2⟩:=Za3 hx'
   rw[hd]
   exact hK _ _ (next k _ _ (h.step ⟨hk',g1,g2⟩ hN (Rel.of_lit _)))
 · obtain⟨g1,g2⟩:=Za3 hx'
   rw[hd]
   exact hK _ _ (stop s _ _ (h.step ⟨hk',g1,g2⟩ hN (Rel.of_lit _)))
 · obtain⟨g1,g2⟩:=Za3 hx'
   exact pan q _ _ (h.step0 ⟨hk',g1,g2⟩ undef)

def Code.wpAt (fid:FuncId) (P:Program) (c:Code) (Q:Exit→Act→WP) (a:Act) (w:World):Prop:=
 ∀(b:Frame) (k:List Item) (cs:List Frame),b.roundOf=none→b.fn=fid→
  ∃ e a' w',Q e a' w'∧ArrivesIn (Machine.fenced P Fence.wide) P (lone (b.atR a (.code c::k)) cs w) b k cs e a' w'
variable {fid:FuncId} {a:Act} {w:World}
theorem Xq (k:Nat):Fence.wide.room k:=fun _ hd=>by simp[Fence.wide]at hd
theorem ZxU {m:Nat} {c:Code} (h:c.wpIn Fence.wide m P Q a w):Code.wpAt fid P c Q a w:=fun b k cs hr _=>h b k cs hr trivial (Xq _)
theorem Zmz {x y:Code} (h:Code.wpAt fid P x (Exit.then (Code.wpAt fid P y Q) Q) a w):Code.wpAt fid P (.seq x y) Q a w:=by
 intro b k cs hro hb
 have h0:(lone (b.atR a (.code (.seq x y)::k)) cs w).fenced P Fence.wide:=fenced_calm (n:=0) trivial (Xq _) rfl
 obtain⟨e,a₁,w₁,hq,harr⟩:=h b (.code y::k) cs hro hb
 cases e with
 | normal=>
  obtain⟨e₂,a₂,w₂,hq₂,harr₂⟩:=hq b k cs hro hb
  exact⟨e₂,a₂,w₂,hq₂,.of_steps (.head h0 stepR_seq harr) harr₂⟩
 | exit id=>exact⟨_,a₁,w₁,hq,.of_steps (.one h0 stepR_seq) (.pass (x:=.code y) rfl (fun _ _=>.inl yz) harr)⟩
 | goto l=>exact⟨_,a₁,w₁,hq,.of_steps (.one h0 stepR_seq) (.pass (x:=.code y) rfl (fun _ _=>.inl yz) harr)⟩
 | ret=>exact⟨_,a₁,w₁,hq,.of_steps (.one h0 stepR_seq) (.pass (x:=.code y) rfl (fun _ _=>.inl yz) harr)⟩
 | panic ch=>exact⟨_,a₁,w₁,hq,.of_steps (.one h0 stepR_seq) (.pass (x:=.code y) rfl (fun _ _=>.inl yz) harr)⟩
 | outgrown=>exact⟨_,a₁,w₁,hq,.of_steps (.one h0 stepR_seq) (.pass (x:=.code y) rfl (fun _ _=>.inl yz) harr)⟩
theorem ZbH {f:FuncId} {fn:Func} {c:Code} {args:Array Value} {R:Ending→WP} (hf:P.funcs[f]?=some fn) (hb:fn.body=some c)
 (h:Code.wpAt f P c (bodyPostM Fence.wide 5 P fn R) { tmps:=args++Array.replicate (fn.ntmps-args.size) undef,defers:=[] } w):Calls P f args w R:=by
 refine(callsIn_wide (n:=5)).1 ⟨trivial,fun cs hr=>?_⟩
 let b:Frame:= { (default:Frame)with fn:=f,kind:=.normal,roundOf:=none }
 have henter:Frame.enter P f args .normal=
  b.atR { tmps:=args++Array.replicate (fn.ntmps-args.size) undef,defers:=[] } [.code c]:=by
  simp[Frame.enter,Frame.atR,hf,hb,b]
 obtain⟨e,a',w',hq,harr⟩:=h b [] cs rfl rfl
 rw[←henter]at harr
 have hF:Fence.wide.fn f:=trivial
 cases e with
 | normal=>
  obtain⟨e',w'',fr',hR,hs,hfn,hl⟩:=leaves_stepsInM a'.defers .returning w' { b.atR a' []with mode:=.returning } cs rfl rfl rfl hf rfl hF hr hq
  exact⟨e',w'',fr',hR,ComesIn.of_steps (StepsIn.trans harr (.one (fenced_calm (fr:=b.atR a' []) hF hr rfl) (stepR_end rfl))) hs,hfn,hl⟩
 | ret=>
  obtain⟨todo,hs₀⟩:=harr.1 rfl
  obtain⟨e',w'',fr',hR,hs,hfn,hl⟩:=leaves_stepsInM a'.defers .returning w' { b.atR a' todo with mode:=.returning } cs rfl rfl rfl hf rfl hF hr hq
  exact⟨e',w'',fr',hR,ComesIn.of_steps hs₀ hs,hfn,hl⟩
 | panic chain=>
  obtain⟨todo,hs₀⟩:=harr
  obtain⟨e',w'',fr',hR,hs,hfn,hl⟩:=leaves_stepsInM a'.defers (.panicking chain) w' { b.atR a' todo with mode:=.panicking chain } cs rfl rfl rfl hf rfl hF hr hq
  exact⟨e',w'',fr',hR,ComesIn.of_steps hs₀ hs,hfn,hl⟩
 | exit id=>exact hq.elim
 | goto l=>exact hq.elim
 | outgrown=>exact⟨.outgrown,w',b,hq,harr.resolve_left (by simp[b]),rfl,trivial⟩
theorem Zwn {fn:Func} {R:Ending→WP} {v:Value} (hd:a.defers=[]) (hr:(results fn a.tmps).run P w= .ok v w) (h:R (.returned v) w):bodyPostM Fence.wide 5 P fn R .ret a w:=by
 show LeavesInM Fence.wide 5 P fn a.tmps R a.defers .returning w
 rw[hd];exact⟨v,hr,h⟩
theorem Zso {fn:Func} {R:Ending→WP} {v:Value} {D:Nat} (hd:a.defers=[{ target:=.collected D,args:= #[] }]) (hD:w.heap[D]?=some (.deferred (some []))) (hr:(results fn a.tmps).run P (w.putObj D (.deferred none))= .ok v (w.putObj D (.deferred none))) (h:R (.returned v) (w.putObj D (.deferred none))):bodyPostM Fence.wide 5 P fn R .normal a w:=by
 show LeavesInM Fence.wide 5 P fn a.tmps R a.defers .returning w
 rw[hd];exact⟨by simp,.inl ⟨D,_,rfl,run_takeDeferred hD,⟨v,hr,h⟩⟩⟩
theorem Zjm {m:Nat} {g:Operand} {ps:Array Tmp} {assign body:Code}
 (h:∃(l:Nat) (mark:List Deferred) (w₁:World) (d:Deferred) (w₁':World) (f:FuncId) (args:Array Value) (w₂:World),
  (Instr.enterLoop fid a.tmps ps assign body none).run P w= .ok (l,mark) w₁∧
  (resolve a.eval (rangeCall g l) 0).run P w₁= .ok d w₁'∧
  (invoke d.target d.args).run P w₁'= .ok (.enter f args) w₂∧
  CallsIn Fence.wide m P f args w₂ (rangePost Fence.wide m P l Q { a with defers:=mark++a.defers })):
 Code.wpAt fid P (.rangeFunc g ps assign body) Q a w:=by
 intro b k cs hro hb
 obtain⟨l,mark,w₁,d,w₁',f,args,w₂,he,hres,hinv,hF,hcall⟩:=h
 subst hb
 rw[←hro]at he
 have h0:(lone (b.atR a (.code (.rangeFunc g ps assign body)::k)) cs w).fenced P Fence.wide:=
  fenced_lone (.inl trivial) (fun f' _=>trivial) (Xq _)
 have henter:=stepR_rangeFunc (P:=P) (b:=b) (a:=a) (k:=k) (cs:=cs) (w:=w) he hres hinv
 obtain⟨e,w₃,fr,hR,hsteps,hfn,hleave⟩:=hcall (b.atR { a with defers:=mark++a.defers } (.inRangeFunc l::k)::cs) (Xq _)
 cases e with
 | outgrown=>
  obtain⟨a₀,w₀,hq⟩:=hR
  exact⟨.outgrown,a₀,w₀,hq,.inr (Outgrown.of_steps (.one henter) hsteps)⟩
 | returned v=>
  have hl:(lone fr (b.atR { a with defers:=mark++a.defers } (.inRangeFunc l::k)::cs) w₃).fenced P Fence.wide:=fenced_leaving (n:=m) trivial (Xq _) hleave
  obtain⟨jump,w₄,hend,hj⟩:=hR
  have sback:StepsIn (Machine.fenced P Fence.wide) P (lone (b.atR a (.code (.rangeFunc g ps assign body)::k)) cs w) (lone (b.atR { a with defers:=mark++a.defers } ((jump.map Item.code).toList++k)) cs w₄):=by
   refine .head h0 henter (StepsIn.trans hsteps (.head hl ?_ (.one (fenced_calm (n:=m) (fr:=b.atR { a with defers:=mark++a.defers } (.endRangeFunc l::k)) trivial (Xq _) rfl) (stepR_endRangeFunc hend))))
   rw[←finish_atR_inRangeFunc l v];exact step_leave_returned hleave
  cases jump with
  | none=>exact⟨.normal,_,w₄,hj,sback⟩
  | some c=>
   obtain⟨e',a'',w₅,hq,harr⟩:=hj b k cs hro trivial (Xq _)
   exact⟨e',a'',w₅,hq,.of_steps sback harr⟩
 | panicked chain=>
  have hl:(lone fr (b.atR { a with defers:=mark++a.defers } (.inRangeFunc l::k)::cs) w₃).fenced P Fence.wide:=fenced_leaving (n:=m) trivial (Xq _) hleave
  refine⟨.panic chain,_,w₃,hR,.inRangeFunc l::k,.head h0 henter (StepsIn.trans hsteps (.one hl ?_))⟩
  rw[←Frame.raise_atR];exact step_leave_panicked hleave
theorem pm_out {A R:List OB} {b c:OB}:((A++[b,c])++R).Perm (c::(A++b::R)):=by
 have:=List.perm_middle (l₁:=A++[b]) (l₂:=R) (a:=c)
 simpa using this
theorem pm_in {A R:List OB} {c:OB}:(c::(A++R)).Perm (A++c::R):=List.perm_middle.symm
theorem ZeM {lo l:Nat} {o:Obj} (h:XO J S lo O w) (ho:OB.obj l o∈O):l<w.heap.size∧w.heap[l]?=some o:=by
 obtain⟨_,h2,h3⟩:=h.2.1 _ ho
 exact⟨h2,h3⟩
theorem Zus {lo:Nat} {B:AV→Value→Prop} (h:XO J S lo O w) (ho:OB.was B∈O):∀ av v,B av v→Rel (SO S O) w av v:=h.2.1 _ ho
def phi (ds:List Deferred) (a:Act):Act:= { a with defers:=a.defers++ds }
abbrev ZcI (Ds:List Nat):List Deferred:=Ds.map fun D=> { target:=.collected D,args:= #[] }
abbrev mkD (D:Nat):List Deferred:=[{ target:=.collected D,args:= #[] }]
abbrev OB.dfr (D:Nat):OB:=OB.obj D (.deferred (some []))
def OB.fct (p:Prop):OB where
 blk:=fun _=>False
 inv:=fun _ _ _=>p
 mv:=fun h _ _ _=>h
 lt:=fun _ _ h=>h.elim
def Zcx (A:Array Value) (ps:Array Tmp) (vs:Array Value):Array Value:=(ps.zip vs).foldl (fun(t:Array Value) (q:Tmp×Value)=>match q with | (t',v)=>t.setIfInBounds t' v) A
theorem ZjP (A:Array Value) (ps:Array Tmp) (vs:Array Value):(Zcx A ps vs).size=A.size:=by
 unfold Zcx
 refine Array.foldl_induction (motive:=fun _ (t:Array Value)=>t.size=A.size) rfl fun i t h=>?_
 simpa using h
theorem ZfU {A:Array Value} {p:Tmp} {v:Value}:Zcx A #[p] [v].toArray=A.setIfInBounds p v:=by simp[Zcx]
theorem ZmZ {A:Array Value} {p p2:Tmp} {v v2:Value}:Zcx A #[p,p2] [v,v2].toArray=(A.setIfInBounds p v).setIfInBounds p2 v2:=by simp[Zcx]
theorem Zle {T:Nat→Prop} {w:World}:∀ {l:List AV} {us:List Value},RelL T w l us→us.length=l.length
 | [],us,h=>by simp only[RelL]at h;subst h;rfl
 | a::l,us,h=>by simp only[RelL]at h;obtain⟨u,us',rfl,_,h⟩:=h;simp[Zle h]
theorem Zld {T:Nat→Prop} {w:World} {a:AV} {us:List Value} (h:RelL T w [a] us):∃ v,Rel T w a v∧us=[v]:=by
 simp only[RelL]at h;obtain⟨u,us',rfl,h1,rfl⟩:=h;exact⟨u,h1,rfl⟩
theorem ZrG {T:Nat→Prop} {w:World} {a b:AV} {us:List Value} (h:RelL T w [a,b] us):∃ v v2,Rel T w a v∧Rel T w b v2∧us=[v,v2]:=by
 simp only[RelL]at h;obtain⟨u,us',rfl,h1,u2,us2,rfl,h2,rfl⟩:=h;exact⟨u,u2,h1,h2,rfl⟩
theorem ZgE {T:Nat→Prop} {w:World} {A:Array Value} {p:Tmp} {v:Value} {av:AV} {env:List (Nat×AV)} (hA:A.size=N) (hp:p<N) (hv:Rel T w av v) (he:∀ q∈env,q.1<N∧Rel T w q.2 (A.getD q.1 undef)):
 ∀ q∈(p,av)::Yn p env,q.1<N∧Rel T w q.2 ((A.setIfInBounds p v).getD q.1 undef):=fun q hq=>by
 rcases List.mem_cons.1 hq with rfl | hq
 · refine⟨hp,?_⟩
   have e:(A.setIfInBounds p v).getD p undef=v:=by rw[Array.getD_eq_getD_getElem?,Array.getElem?_setIfInBounds];simp[hA,hp]
   show Rel T w av ((A.setIfInBounds p v).getD p undef)
   rw[e];exact hv
 · obtain⟨hq1,hq2⟩:=List.mem_filter.1 hq
   have hne:¬ p=q.1:=fun e=>by simp[e]at hq2
   have e:(A.setIfInBounds p v).getD q.1 undef=A.getD q.1 undef:=by rw[Array.getD_eq_getD_getElem?,Array.getD_eq_getD_getElem?,Array.getElem?_setIfInBounds,if_neg hne]
   rw[e];exact he q hq1
theorem Zll {α κ μ σ:Type} {m:Nat} {ds:List Deferred} {g:Operand} {ps:Array Tmp} {assign body:Code} {gf:FuncId} {avc:List AV} {avs:α→List AV} {xs:List α} {fl:Option Value} {Hs R:List OB} (hseq:Zrd P J gf Hs avc avs xs fl) (eg:Zi P gf)
 (hJ:Stab J) (hS:∀ b,w0.heap.size≤b→S b) (hJ0:J w0) (hH:Has Hs S w0) (I:List α→κ→List OB) (pv:μ→Value) (O3:μ→List OB) (O4:σ→List OB) (k0:κ) (env1 env':α→List (Nat×AV)) (hl:∀ x,(avs x).length=ps.size)
 (hset:∀(T:Nat→Prop) (w:World) (x:α) (vs:List Value) (A:Array Value),A.size=N→RelL T w (avs x) vs→(∀ q∈env,q.1<N∧Rel T w q.2 (A.getD q.1 undef))→∀ q∈env1 x,q.1<N∧Rel T w q.2 ((Zcx A ps vs.toArray).getD q.1 undef)) {fnn:Func} (hfid:P.funcs[fid]?=some fnn)
 (hg:∀ a w,So J S w0 N (I [] k0++R) env a w→∃ cap:List Value,a.eval g= .func (.func gf) #[] cap.toArray∧RelL (SO S (I [] k0++R)) w avc cap)
 (hassign:∀(m l:Nat) (R':List OB) (pre:List α) (x:α) (k:κ) (K:Act→WP),(∀ a w,So J S w0 N (I pre k++R') (env' x) a w→K a w)→
  Tr ⟨m,some l⟩ P (So J S w0 N (I pre k++R') (env1 x)) assign (Exit.then K (fun _ _ _=>False)))
 (hbody:∀(m l:Nat) (R':List OB) (pre:List α) (x:α) (k:κ),(pre++[x])<+:xs→Tr ⟨m,some l⟩ P (So J S w0 N (I pre k++R') (env' x)) body (rndQ J S w0 (I (pre++[x])) pv O3 O4 R'))
 (hdone:fl=none→∀ k D a w,So J S w0 N (OB.dfr D::(I xs k++R)) env a w→Q .normal (phi (mkD D++ds) a) w)
 (hstop:∀ s D a w,So J S w0 N (OB.dfr D::(O4 s++R)) env a w→Q .ret (phi (mkD D++ds) a) w)
 (hpan:∀ v,fl=some v→∀ k D a w,So J S w0 N (OB.dfr D::(I xs k++R)) env a w→Q (.panic (pch v)) (phi (mkD D++ds) a) w)
 (hpq:∀ q D a w,So J S w0 N (OB.dfr D::(O3 q++R)) env a w→Q (.panic (pch (pv q))) (phi (mkD D++ds) a) w):
 ∀(a:Act) (w:World),So J S w0 N (I [] k0++R) env a w→Code.wpAt fid P (.rangeFunc g ps assign body) Q (phi ds a) w:=fun a w h=>by
 obtain⟨cap,hgv,hcap⟩:=hg a w h
 obtain⟨rec,hrec⟩:∃ rec:LoopState→Option Code→Obj,rec=fun st pe=>.loop { state:=st,pending:=pe,fn:=fid,tmps:=a.tmps,params:=ps,assign,body,defers:=w.heap.size }:=⟨_,rfl⟩
 obtain⟨B,hB⟩:∃ B:AV→Value→Prop,∀ av v,B av v↔Rel (SO S (I [] k0++R)) w av v:=⟨_,fun _ _=>.rfl⟩
 have hx1:=ZhK (B:=B) h.x fun _ _ h=>(hB _ _).1 h
 have hka:Keeps All w (w.alloc (.deferred (some []))):=(Keeps.refl _ _).alloc _
 have hD:(w.alloc (.deferred (some []))).heap[w.heap.size]?=some (.deferred (some [])):=World.alloc_heap_new w _
 obtain⟨hx2,_⟩:=ZhM (o:=OB.obj w.heap.size (.deferred (some []))) hJ hx1 hka (fun k hk=>Nat.le_of_eq hk.symm) ⟨h.keep.size,by simp,hD⟩
 have hkb:Keeps All (w.alloc (.deferred (some []))) ((w.alloc (.deferred (some []))).alloc (rec .ready none)):=(Keeps.refl _ _).alloc _
 have hL:=World.alloc_heap_new (w.alloc (.deferred (some []))) (rec .ready none)
 rw[World.size_alloc]at hL
 obtain⟨hx3,_⟩:=ZhM (o:=OB.obj (w.heap.size+1) (rec .ready none)) hJ hx2 hkb (fun k hk=>by rw[World.size_alloc];exact Nat.le_of_eq hk.symm) ⟨by have:=h.keep.size;omega,by simp,hL⟩
 obtain⟨W1,hW1⟩:∃ W1,(w.alloc (.deferred (some []))).alloc (rec .ready none)=W1:=⟨_,rfl⟩
 rw[hW1]at hx3 hkb
 have hkw:Keeps All w W1:=hka.trans hkb
 let I':List α→κ→List OB:=fun pre k=>I pre k++[OB.was B,OB.obj (w.heap.size+1) (rec .ready none)]
 let O4':σ→List OB:=fun s=>O4 s++[OB.was B,OB.obj (w.heap.size+1) (rec .done (some .ret))]
 let O3':μ→List OB:=fun q=>O3 q++[OB.was B,OB.obj (w.heap.size+1) (rec .busy none)]
 have hx4:XO J S w0.heap.size (I' [] k0++OB.obj w.heap.size (.deferred (some []))::R) W1:=by
  refine YK ?_ hx3
  refine List.Perm.trans (List.Perm.cons _ ?_) pm_out.symm
  have:=List.perm_middle (l₁:=I [] k0++[OB.was B]) (l₂:=R) (a:=OB.obj w.heap.size (.deferred (some [])))
  simpa using this.symm
 have hsub:∀ k,k<w.heap.size→SO S (I [] k0++R) k→All k∧SO S (I' [] k0++OB.obj w.heap.size (.deferred (some []))::R) k:=fun k hlt hs=>⟨trivial,hs.1,fun p hp=>by
  simp only[I',List.mem_append,List.mem_cons,List.not_mem_nil,or_false]at hp
  rcases hp with(hp | rfl | rfl) | rfl | hp
  · exact hs.2 p (by simp[hp])
  · exact fun e=>e
  · exact fun e=>by change k=_ at e;omega
  · exact fun e=>by change k=_ at e;omega
  · exact hs.2 p (by simp[hp])⟩
 refine Zjm (m:=m) ⟨w.heap.size+1,[{ target:=.collected w.heap.size,args:= #[] }],W1, { target:=.fn (.func gf) cap.toArray,args:= #[.func (.yield (w.heap.size+1)) #[] #[]] },W1,gf,
  #[.func (.yield (w.heap.size+1)) #[] #[]]++cap.toArray,W1,?_,?_,?_,?_⟩
 · rw[←hW1,hrec];exact run_enterLoop_outer _ _ _ _ _
 · show(resolve a.eval (rangeCall g (w.heap.size+1)) 0).run P W1=_
   simp only[resolve,hgv]
   simp[go_sem]
 · have:=eg (#[.func (.yield (w.heap.size+1)) #[] #[]]++cap.toArray) W1
   simpa [invoke,go_sem]using this
 have hend:∀(A:List OB) (st:LoopState) (pe:Option Code) (w2:World),Keeps All w0 w2→XO J S w0.heap.size (OB.obj (w.heap.size+1) (rec st pe)::(A++OB.was B::OB.obj w.heap.size (.deferred (some []))::R)) w2→
  So J S w0 N (OB.obj w.heap.size (.deferred (some []))::(A++R)) env a w2:=fun A st pe w2 hk hx=>by
  have hx':=YK (O':=OB.was B::(OB.obj w.heap.size (.deferred (some []))::(A++R))) (List.Perm.trans List.perm_middle (List.Perm.cons _ List.perm_middle)) (ZnU hx)
  refine⟨h.defs,h.size,hk,ZnU hx',fun p hp=>⟨(h.env p hp).1,?_⟩⟩
  exact(Zus hx' yz p.2 _ ((hB _ _).2 (h.env p hp).2)).sub fun k _ hs=>hs.drop
 refine(hseq S w0 _ W1 (w.heap.size+1) m cap κ μ σ I' pv O3' O4' k0 hS hJ0 hH (h.keep.trans hkw) hx4 (RelL.move hkw hsub hcap) ?_).mono ?_
 · intro m' R' pre x k w1 vs hpre hk1 hxr hrv
   have hob:=YK pm_out hxr
   obtain⟨hlt,hl'⟩:=ZeM (l:=w.heap.size+1) (o:=rec .ready none) hob yz
   rw[hrec]at hl'
   have hy:=run_yield (P:=P) (args:=vs.toArray) hl' (by simp[Zle hrv,hl x])
   have hx1':=YK pm_in hob
   have hrow:(So J S w0 N (I pre k++OB.obj (w.heap.size+1) (rec .ready none)::OB.was B::R') (env1 x)) { tmps:=Zcx a.tmps ps vs.toArray,defers:=[] } w1:=by
    refine⟨rfl,(ZjP _ _ _).trans h.size,hk1,hx1',hset _ _ x vs a.tmps h.size (hrv.sub fun k' _ hs=>(hs.perm pm_out).perm pm_in) fun q hq=>⟨(h.env q hq).1,Zus hx1' yz q.2 _ ((hB _ _).2 (h.env q hq).2)⟩⟩
   have hrest:∀ a1 wa,So J S w0 N (I pre k++OB.obj (w.heap.size+1) (rec .ready none)::OB.was B::R') (env' x) a1 wa→
    ∃ w₂,(Instr.beginRound (w.heap.size+1)).run P wa= .ok () w₂∧body.wpIn (Fence.wide.inRound (w.heap.size+1)) m' P (ZfX P (w.heap.size+1) (rndE J S w0 (I' (pre++[x])) pv O3' O4' R')) a1 w₂:=by
    intro a1 wa ha1
    have hoba:=YK pm_in.symm ha1.x
    obtain⟨hlta,hla⟩:=ZeM (l:=w.heap.size+1) (o:=rec .ready none) hoba yz
    have hbegin:(Instr.beginRound (w.heap.size+1)).run P wa= .ok () (wa.putObj (w.heap.size+1) (rec .busy none)):=by rw[hrec]at hla ⊢;exact run_beginRound hla rfl
    refine⟨_,hbegin,?_⟩
    obtain⟨hk2,hx2,hm2⟩:=Qn (rec .busy none) hJ hJ0 ha1.keep hoba
    have hx2':=YK pm_in hx2
    have hsp:∀(o:OB) (k':Nat),SO S (I pre k++o::OB.was B::R') k'→SO S (o::(I pre k++OB.was B::R')) k':=fun o k' hs=>hs.perm pm_in.symm
    refine wpIn_mono (hbody m' (w.heap.size+1) _ pre x k hpre _ _ ⟨ha1.defs,ha1.size,hk2,hx2',fun q hq=>⟨(ha1.env q hq).1,(hm2 _ _ ((ha1.env q hq).2.sub fun k' _ hs=>hsp _ k' hs)).sub fun k' _ hs=>hs.perm pm_in⟩⟩) ?_
    intro e a3 w3 he
    cases e with
    | normal=>
     obtain⟨k',hk3,hx3⟩:=he
     have hx3':=YK pm_in.symm hx3
     obtain⟨hlt3,hl3⟩:=ZeM (l:=w.heap.size+1) (o:=rec .busy none) hx3' yz
     obtain⟨hk4,hx4,_⟩:=Qn (rec .ready none) hJ hJ0 hk3 hx3'
     have hend':(Instr.endRound (w.heap.size+1) none).run P w3= .ok (.bool true) (w3.putObj (w.heap.size+1) (rec .ready none)):=by rw[hrec]at hl3 ⊢;exact run_endRound none hl3
     exact⟨_,_,hend',.inl ⟨rfl,k',hk4,YK pm_out.symm hx4⟩⟩
    | panic ch=>
     obtain⟨q,rfl,hd,hk3,hx3⟩:=he
     refine⟨hd,.inr (.inr ⟨q,rfl,hk3,?_⟩)⟩
     exact YK (pm_in.symm.trans pm_out.symm) hx3
    | ret=>
     obtain⟨s,hk3,hx3⟩:=he
     have hx3':=YK pm_in.symm hx3
     obtain⟨hlt3,hl3⟩:=ZeM (l:=w.heap.size+1) (o:=rec .busy none) hx3' yz
     obtain⟨hk4,hx4,_⟩:=Qn (rec .done (some .ret)) hJ hJ0 hk3 hx3'
     have hend':(Instr.endRound (w.heap.size+1) (some .ret)).run P w3= .ok (.bool false) (w3.putObj (w.heap.size+1) (rec .done (some .ret))):=by rw[hrec]at hl3 ⊢;exact run_endRound (some .ret) hl3
     exact⟨_,_,hend',.inr (.inl ⟨rfl,s,hk4,YK pm_out.symm hx4⟩)⟩
    | exit id=>exact he.elim
    | goto t=>exact he.elim
    | outgrown=>exact he.elim
   refine⟨fid,_,assign,body,hy,ZdJ trivial ⟨fnn,hfid⟩ (by
    refine hassign m' (w.heap.size+1) _ pre x k _ ?_ _ _ hrow
    exact hrest)⟩
 · intro e w2 he
   rcases he with⟨hf,v,k,rfl,hk2,hx2⟩ | ⟨v,k,hf,rfl,hk2,hx2⟩ | ⟨v,s,rfl,hk2,hx2⟩ | ⟨q,rfl,hk2,hx2⟩
   · have hob:=YK pm_out hx2
     obtain⟨hlt,hl⟩:=ZeM (l:=w.heap.size+1) (o:=rec .ready none) hob yz
     obtain⟨hk3,hx3,_⟩:=Qn (rec .exhausted none) hJ hJ0 hk2 hob
     have hendL:(Instr.endLoop (w.heap.size+1)).run P w2= .ok none (w2.putObj (w.heap.size+1) (rec .exhausted none)):=by rw[hrec]at hl ⊢;exact run_endLoop hl yz
     refine⟨none,_,hendL,?_⟩
     have:=hdone hf k w.heap.size _ _ (hend _ _ _ _ hk3 hx3)
     unfold phi at this
     rw[h.defs]at this
     show Q .normal { phi ds a with defers:=_++(a.defers++ds) } _
     rw[h.defs];exact this
   · have:=hpan v hf k w.heap.size _ _ (hend _ _ _ _ hk2 (YK pm_out hx2))
     unfold phi at this
     rw[h.defs]at this
     show Q (.panic (pch v)) { phi ds a with defers:=_++(a.defers++ds) } _
     rw[h.defs];exact this
   · have hob:=YK pm_out hx2
     obtain⟨hlt,hl⟩:=ZeM (l:=w.heap.size+1) (o:=rec .done (some .ret)) hob yz
     obtain⟨hk3,hx3,_⟩:=Qn (rec .exhausted (some .ret)) hJ hJ0 hk2 hob
     have hendL:(Instr.endLoop (w.heap.size+1)).run P w2= .ok (some .ret) (w2.putObj (w.heap.size+1) (rec .exhausted (some .ret))):=by rw[hrec]at hl ⊢;exact run_endLoop hl yz
     refine⟨some .ret,_,hendL,?_⟩
     have:=hstop s w.heap.size _ _ (hend _ _ _ _ hk3 hx3)
     refine wpIn_ret ?_
     unfold phi at this
     rw[h.defs]at this
     show Q .ret { phi ds a with defers:=_++(a.defers++ds) } _
     rw[h.defs];exact this
   · have:=hpq q w.heap.size _ _ (hend _ _ _ _ hk2 (YK pm_out hx2))
     unfold phi at this
     rw[h.defs]at this
     show Q (.panic (pch (pv q))) { phi ds a with defers:=_++(a.defers++ds) } _
     rw[h.defs];exact this
theorem ZoM {α κ μ σ:Type} {m:Nat} {g:Operand} {ps:Array Tmp} {assign body:Code} {gf:FuncId} {avc:List AV} {avs:α→List AV} {xs:List α} {fl:Option Value} {Hs R:List OB} (hseq:Zrd P J gf Hs avc avs xs fl) (eg:Zi P gf)
 (hJ:Stab J) (hS:∀ b,w0.heap.size≤b→S b) (hJ0:J w0) (hH:Has Hs S w0) (I:List α→κ→List OB) (pv:μ→Value) (O3:μ→List OB) (O4:σ→List OB) (k0:κ) (env1 env':α→List (Nat×AV)) (hl:∀ x,(avs x).length=ps.size)
 (hset:∀(T:Nat→Prop) (w:World) (x:α) (vs:List Value) (A:Array Value),A.size=N→RelL T w (avs x) vs→(∀ q∈env,q.1<N∧Rel T w q.2 (A.getD q.1 undef))→∀ q∈env1 x,q.1<N∧Rel T w q.2 ((Zcx A ps vs.toArray).getD q.1 undef)) {fnn:Func} (hfid:P.funcs[fid]?=some fnn)
 (hg:∀ a w,So J S w0 N (I [] k0++R) env a w→∃ cap:List Value,a.eval g= .func (.func gf) #[] cap.toArray∧RelL (SO S (I [] k0++R)) w avc cap)
 (hassign:∀(m l:Nat) (R':List OB) (pre:List α) (x:α) (k:κ) (K:Act→WP),(∀ a w,So J S w0 N (I pre k++R') (env' x) a w→K a w)→
  Tr ⟨m,some l⟩ P (So J S w0 N (I pre k++R') (env1 x)) assign (Exit.then K (fun _ _ _=>False)))
 (hbody:∀(m l:Nat) (R':List OB) (pre:List α) (x:α) (k:κ),(pre++[x])<+:xs→Tr ⟨m,some l⟩ P (So J S w0 N (I pre k++R') (env' x)) body (rndQ J S w0 (I (pre++[x])) pv O3 O4 R'))
 (hdone:fl=none→∀ k D a w,So J S w0 N (OB.dfr D::(I xs k++R)) env a w→Q .normal (phi (mkD D) a) w)
 (hstop:∀ s D a w,So J S w0 N (OB.dfr D::(O4 s++R)) env a w→Q .ret (phi (mkD D) a) w)
 (hpan:∀ v,fl=some v→∀ k D a w,So J S w0 N (OB.dfr D::(I xs k++R)) env a w→Q (.panic (pch v)) (phi (mkD D) a) w)
 (hpq:∀ q D a w,So J S w0 N (OB.dfr D::(O3 q++R)) env a w→Q (.panic (pch (pv q))) (phi (mkD D) a) w):
 ∀(a:Act) (w:World),So J S w0 N (I [] k0++R) env a w→Code.wpAt fid P (.rangeFunc g ps assign body) Q a w:=fun a w h=>by
 have:=Zll (ds:=[]) (m:=m) hseq eg hJ hS hJ0 hH I pv O3 O4 k0 env1 env' hl hset hfid hg hassign hbody hdone hstop hpan hpq a w h
 have e:phi [] a=a:=by unfold phi;rw[List.append_nil]
 rw[e]at this
 exact this
theorem ZoN {α κ μ σ:Type} {m:Nat} {g:Operand} {p:Tmp} {assign body:Code} {gf:FuncId} {avc:List AV} {av:α→AV} {xs:List α} {fl:Option Value} {Hs R:List OB} (hseq:Zrd P J gf Hs avc (fun x=>[av x]) xs fl) (eg:Zi P gf)
 (hJ:Stab J) (hS:∀ b,w0.heap.size≤b→S b) (hJ0:J w0) (hH:Has Hs S w0) (I:List α→κ→List OB) (pv:μ→Value) (O3:μ→List OB) (O4:σ→List OB) (k0:κ) (env':α→List (Nat×AV)) (hp:p<N) {fnn:Func} (hfid:P.funcs[fid]?=some fnn)
 (hg:∀ a w,So J S w0 N (I [] k0++R) env a w→∃ cap:List Value,a.eval g= .func (.func gf) #[] cap.toArray∧RelL (SO S (I [] k0++R)) w avc cap)
 (hassign:∀(m l:Nat) (R':List OB) (pre:List α) (x:α) (k:κ) (K:Act→WP),(∀ a w,So J S w0 N (I pre k++R') (env' x) a w→K a w)→
  Tr ⟨m,some l⟩ P (So J S w0 N (I pre k++R') ((p,av x)::Yn p env)) assign (Exit.then K (fun _ _ _=>False)))
 (hbody:∀(m l:Nat) (R':List OB) (pre:List α) (x:α) (k:κ),(pre++[x])<+:xs→Tr ⟨m,some l⟩ P (So J S w0 N (I pre k++R') (env' x)) body (rndQ J S w0 (I (pre++[x])) pv O3 O4 R'))
 (hdone:fl=none→∀ k D a w,So J S w0 N (OB.dfr D::(I xs k++R)) env a w→Q .normal (phi (mkD D) a) w)
 (hstop:∀ s D a w,So J S w0 N (OB.dfr D::(O4 s++R)) env a w→Q .ret (phi (mkD D) a) w)
 (hpan:∀ v,fl=some v→∀ k D a w,So J S w0 N (OB.dfr D::(I xs k++R)) env a w→Q (.panic (pch v)) (phi (mkD D) a) w)
 (hpq:∀ q D a w,So J S w0 N (OB.dfr D::(O3 q++R)) env a w→Q (.panic (pch (pv q))) (phi (mkD D) a) w):
 ∀(a:Act) (w:World),So J S w0 N (I [] k0++R) env a w→Code.wpAt fid P (.rangeFunc g #[p] assign body) Q a w:=
 ZoM (m:=m) hseq eg hJ hS hJ0 hH I pv O3 O4 k0 (fun x=>(p,av x)::Yn p env) env' (fun _=>rfl) (fun T w x vs A hA hr he q hq=>by
  obtain⟨v,hv,rfl⟩:=Zld hr
  rw[ZfU]
  exact ZgE hA hp hv he q hq) hfid hg hassign hbody hdone hstop hpan hpq
theorem ZrI {α κ μ σ:Type} {m:Nat} {Ds:List Nat} {g:Operand} {p:Tmp} {assign body:Code} {gf:FuncId} {avc:List AV} {av:α→AV} {xs:List α} {fl:Option Value} {Hs R:List OB} (hseq:Zrd P J gf Hs avc (fun x=>[av x]) xs fl) (eg:Zi P gf)
 (hJ:Stab J) (hS:∀ b,w0.heap.size≤b→S b) (hJ0:J w0) (hH:Has Hs S w0) (I:List α→κ→List OB) (pv:μ→Value) (O3:μ→List OB) (O4:σ→List OB) (k0:κ) (env':α→List (Nat×AV)) (hp:p<N) {fnn:Func} (hfid:P.funcs[fid]?=some fnn)
 (hg:∀ a w,So J S w0 N (I [] k0++R) env a w→∃ cap:List Value,a.eval g= .func (.func gf) #[] cap.toArray∧RelL (SO S (I [] k0++R)) w avc cap)
 (hassign:∀(m l:Nat) (R':List OB) (pre:List α) (x:α) (k:κ) (K:Act→WP),(∀ a w,So J S w0 N (I pre k++R') (env' x) a w→K a w)→
  Tr ⟨m,some l⟩ P (So J S w0 N (I pre k++R') ((p,av x)::Yn p env)) assign (Exit.then K (fun _ _ _=>False)))
 (hbody:∀(m l:Nat) (R':List OB) (pre:List α) (x:α) (k:κ),(pre++[x])<+:xs→Tr ⟨m,some l⟩ P (So J S w0 N (I pre k++R') (env' x)) body (rndQ J S w0 (I (pre++[x])) pv O3 O4 R'))
 (hdone:fl=none→∀ k D a w,So J S w0 N (OB.dfr D::(I xs k++R)) env a w→Q .normal (phi (ZcI (D::Ds)) a) w)
 (hstop:∀ s D a w,So J S w0 N (OB.dfr D::(O4 s++R)) env a w→Q .ret (phi (ZcI (D::Ds)) a) w)
 (hpan:∀ v,fl=some v→∀ k D a w,So J S w0 N (OB.dfr D::(I xs k++R)) env a w→Q (.panic (pch v)) (phi (ZcI (D::Ds)) a) w)
 (hpq:∀ q D a w,So J S w0 N (OB.dfr D::(O3 q++R)) env a w→Q (.panic (pch (pv q))) (phi (ZcI (D::Ds)) a) w):
 ∀(a:Act) (w:World),So J S w0 N (I [] k0++R) env a w→Code.wpAt fid P (.rangeFunc g #[p] assign body) Q (phi (ZcI Ds) a) w:=
 Zll (ds:=ZcI Ds) (m:=m) hseq eg hJ hS hJ0 hH I pv O3 O4 k0 (fun x=>(p,av x)::Yn p env) env' (fun _=>rfl) (fun T w x vs A hA hr he q hq=>by
  obtain⟨v,hv,rfl⟩:=Zld hr
  rw[ZfU]
  exact ZgE hA hp hv he q hq) hfid hg hassign hbody hdone hstop hpan hpq
theorem Zlm {α κ μ σ:Type} {m:Nat} {g:Operand} {p p2:Tmp} {assign body:Code} {gf:FuncId} {avc:List AV} {av av2:α→AV} {xs:List α} {fl:Option Value} {Hs R:List OB} (hseq:Zrd P J gf Hs avc (fun x=>[av x,av2 x]) xs fl) (eg:Zi P gf)
 (hJ:Stab J) (hS:∀ b,w0.heap.size≤b→S b) (hJ0:J w0) (hH:Has Hs S w0) (I:List α→κ→List OB) (pv:μ→Value) (O3:μ→List OB) (O4:σ→List OB) (k0:κ) (env':α→List (Nat×AV)) (hp:p<N) (hp2:p2<N) {fnn:Func} (hfid:P.funcs[fid]?=some fnn)
 (hg:∀ a w,So J S w0 N (I [] k0++R) env a w→∃ cap:List Value,a.eval g= .func (.func gf) #[] cap.toArray∧RelL (SO S (I [] k0++R)) w avc cap)
 (hassign:∀(m l:Nat) (R':List OB) (pre:List α) (x:α) (k:κ) (K:Act→WP),(∀ a w,So J S w0 N (I pre k++R') (env' x) a w→K a w)→
  Tr ⟨m,some l⟩ P (So J S w0 N (I pre k++R') ((p2,av2 x)::Yn p2 ((p,av x)::Yn p env))) assign (Exit.then K (fun _ _ _=>False)))
 (hbody:∀(m l:Nat) (R':List OB) (pre:List α) (x:α) (k:κ),(pre++[x])<+:xs→Tr ⟨m,some l⟩ P (So J S w0 N (I pre k++R') (env' x)) body (rndQ J S w0 (I (pre++[x])) pv O3 O4 R'))
 (hdone:fl=none→∀ k D a w,So J S w0 N (OB.dfr D::(I xs k++R)) env a w→Q .normal (phi (mkD D) a) w)
 (hstop:∀ s D a w,So J S w0 N (OB.dfr D::(O4 s++R)) env a w→Q .ret (phi (mkD D) a) w)
 (hpan:∀ v,fl=some v→∀ k D a w,So J S w0 N (OB.dfr D::(I xs k++R)) env a w→Q (.panic (pch v)) (phi (mkD D) a) w)
 (hpq:∀ q D a w,So J S w0 N (OB.dfr D::(O3 q++R)) env a w→Q (.panic (pch (pv q))) (phi (mkD D) a) w):
 ∀(a:Act) (w:World),So J S w0 N (I [] k0++R) env a w→Code.wpAt fid P (.rangeFunc g #[p,p2] assign body) Q a w:=
 ZoM (m:=m) hseq eg hJ hS hJ0 hH I pv O3 O4 k0 (fun x=>(p2,av2 x)::Yn p2 ((p,av x)::Yn p env)) env' (fun _=>rfl) (fun T w x vs A hA hr he q hq=>by
  obtain⟨v,v2,hv,hv2,rfl⟩:=ZrG hr
  rw[ZmZ]
  exact ZgE (by simpa using hA) hp2 hv2 (ZgE hA hp hv he) q hq) hfid hg hassign hbody hdone hstop hpan hpq
end
section
variable {P:Program} {n:Rn} {S:Nat→Prop} {X:WP} {o:Oper} {a:Act} {w:World} {t u:TypeId} {x y:Operand}
end
section
variable {P:Program} {J:WP} {N:Nat}
def YldE {α κ μ σ:Type} (P:Program) (J:WP) (S:Nat→Prop) (w0:World) (l:Nat) (avs:α→List AV) (xs:List α) (I:List α→κ→List OB) (pv:μ→Value) (O3:μ→List OB) (O4:σ→List OB):Prop:=
 ∀(m:Nat) (R':List OB) (pre:List α) (x:α) (k:κ) (w1:World) (vs:List Value),(pre++[x])<+:xs→Keeps All w0 w1→XO J S w0.heap.size (I pre k++R') w1→RelL (SO S (I pre k++R')) w1 (avs x) vs→YieldAt Fence.wide m P l vs.toArray w1 (rndE J S w0 (I (pre++[x])) pv O3 O4 R')
theorem ZbC {α:Type} {g:FuncId} {fn:Func} {c:Code} {avc:List AV} {avs:α→List AV} {xs:List α} {fl:Option Value} {Hs:List OB} (hf:P.funcs[g]?=some fn) (hb:fn.body=some c) (hN:fn.ntmps=N) (hl:avc.length+1≤N)
 (h:∀(S:Nat→Prop) (w0:World) (R:List OB) (l:Nat) (κ μ σ:Type) (I:List α→κ→List OB) (pv:μ→Value) (O3:μ→List OB) (O4:σ→List OB) (k0:κ),(∀ b,w0.heap.size≤b→S b)→J w0→Has Hs S w0→YldE P J S w0 l avs xs I pv O3 O4→
  Tr 5 P (St All (SO S (I [] k0++R)) w0 N (Y2 0 (.lit (.func (.yield l) #[] #[])::avc)) (XO J S w0.heap.size (I [] k0++R))) c (bodyPost P fn (ZvS J S w0 (I xs) pv O3 O4 R fl))):Zrd P J g Hs avc avs xs fl:=by
 intro S w0 R w l n us κ μ σ I pv O3 O4 k0 hS hJ hH hk hx hus hY
 have ha:RelL (SO S (I [] k0++R)) w (.lit (.func (.yield l) #[] #[])::avc) (.func (.yield l) #[] #[]::us):=Za (Rel.of_lit _) hus
 obtain⟨g1,g2⟩:=Qo (N:=N) (by simpa using hl) hN ha
 have he:(#[Value.func (.yield l) #[] #[]]++us.toArray)=(Value.func (.yield l) #[] #[]::us).toArray:=by simp
 rw[he]
 have hc:Calls P g (Value.func (.yield l) #[] #[]::us).toArray w (ZvS J S w0 (I xs) pv O3 O4 R fl):=(callsIn_wide (n:=5)).1 (callsIn_of_wp hf hb trivial (h S w0 R l κ μ σ I pv O3 O4 k0 hS hJ hH hY _ _ ⟨rfl,g1,hk,hx,g2⟩) rfl)
 exact callsIn_wide.2 hc
variable {α κ μ σ:Type} {S:Nat→Prop} {w0 w:World} {a:Act} {env:List (Nat×AV)} {R:List OB} {I:List α→κ→List OB} {pv:μ→Value} {O3:μ→List OB} {O4:σ→List OB} {xs pre:List α} {fl:Option Value} {fn:Func}
theorem ZiL (hf:fl=none) (he:pre=xs) (k:κ) (hr:fn.results= #[]) (h:So J S w0 N (I pre k++R) env a w):bodyPost P fn (ZvS J S w0 (I xs) pv O3 O4 R fl) .ret a w:=by
 subst he
 exact⟨h.defs,.tuple #[],by simp[results,hr,Sem.run_pure],.inl ⟨hf,_,k,rfl,h.keep,h.x⟩⟩
theorem ZiK (s:σ) (hr:fn.results= #[]) (h:So J S w0 N (O4 s++R) env a w):bodyPost P fn (ZvS J S w0 (I xs) pv O3 O4 R fl) .ret a w:=
 ⟨h.defs,.tuple #[],by simp[results,hr,Sem.run_pure],.inr (.inr (.inl ⟨_,s,rfl,h.keep,h.x⟩))⟩
theorem ZpU (q:μ):∀ a w,So J S w0 N (O3 q++R) env a w→a.defers=[]∧ZvS J S w0 (I xs) pv O3 O4 R fl (.panicked (pch (pv q))) w:=fun _ _ h=>
 ⟨h.defs,.inr (.inr (.inr ⟨q,rfl,h.keep,h.x⟩))⟩
end
section
variable {N:Nat} {J:WP} {S:Nat→Prop} {w0 w:World} {a:Act} {env:List (Nat×AV)} {B R:List OB}
theorem ZeA (A B R:List OB):(A++(B++R)).Perm (B++(A++R)):=by
 rw[←List.append_assoc,←List.append_assoc]
 exact List.Perm.append_right R List.perm_append_comm
theorem Zk6 {O O':List OB} (hp:O.Perm O') (h:So J S w0 N O env a w):St All (SO S O') w0 N env (XO J S w0.heap.size O') a w:=
 ⟨h.defs,h.size,h.keep,YK hp h.x,fun p hm=>⟨(h.env p hm).1,(h.env p hm).2.sub fun _ _ hs=>hs.perm hp⟩⟩
theorem ZuB (A:List OB) (h:So J S w0 N (A++(B++R)) env a w):So J S w0 N (B++(A++R)) env a w:=Zk6 (ZeA A B R) h
theorem ZfR (A:List OB) (h:So J S w0 N (B++(A++R)) env a w):So J S w0 N (A++(B++R)) env a w:=Zk6 (ZeA B A R) h
theorem ZgA:∀(A:List OB) {O:List OB},So J S w0 N (A++O) env a w→So J S w0 N O env a w
 | [],_,h=>h
 | _::A,_,h=>ZgA A (Zz h)
theorem itPanA {α κ μ σ:Type} {I:List α→κ→List OB} {pv:μ→Value} {O3:μ→List OB} {O4:σ→List OB} {xs:List α} {fl:Option Value} (A:List OB) (q:μ):∀ a w,So J S w0 N (O3 q++(A++R)) env a w→a.defers=[]∧ZvS J S w0 (I xs) pv O3 O4 R fl (.panicked (pch (pv q))) w:=
 fun a w h=>ZpU q a w (ZgA A (ZfR A h))
end
section
variable {P:Program} {fid:FuncId} {Q:Exit→Act→WP} {a:Act} {w:World} {A:Act→WP}
theorem ZmA {id:Nat} {c:Code} (h:Code.wpAt fid P c (Exit.inBlock id Q) a w):Code.wpAt fid P (.block id c) Q a w:=by
 intro b k cs hro hb
 have h0:(lone (b.atR a (.code (.block id c)::k)) cs w).fenced P Fence.wide:=fenced_calm (n:=0) trivial (Xq _) rfl
 obtain⟨e,a₁,w₁,hq,harr⟩:=h b (.inBlock id::k) cs hro hb
 cases e with
 | normal=>exact⟨.normal,a₁,w₁,hq,.head h0 stepR_block (StepsIn.trans harr (.one (fenced_calm (n:=0) trivial (Xq _) rfl) stepR_inBlock))⟩
 | exit id'=>
  by_cases hid:id'=id
  · simp only[Exit.inBlock,hid,if_true]at hq
    exact⟨.normal,a₁,w₁,hq,.head h0 stepR_block (harr.1 k (by simp[exitTo,hid]))⟩
  · simp only[Exit.inBlock,hid,if_false]at hq
    have this:(id==id')=false:=by simp;exact fun h=>hid h.symm
    have hx:exitTo id' (.inBlock id::k)=exitTo id' k:=by simp[exitTo,this]
    exact⟨.exit id',a₁,w₁,hq,fun k' hk=>.head h0 stepR_block (harr.1 k' (by rw[hx];exact hk)),
     fun hr' hk=>let⟨k₁,h1,h2⟩:=harr.2 hr' (by rw[hx];exact hk);⟨k₁,h1,.head h0 stepR_block h2⟩⟩
 | goto l=>
  have hx:gotoIn l (.inBlock id::k)=gotoIn l k:=by simp[gotoIn]
  exact⟨_,a₁,w₁,hq,fun k' hk=>.head h0 stepR_block (harr.1 k' (by rw[hx];exact hk)),
   fun hr' hk=>let⟨k₁,h1,h2⟩:=harr.2 hr' (by rw[hx];exact hk);⟨k₁,h1,.head h0 stepR_block h2⟩⟩
 | ret=>exact⟨_,a₁,w₁,hq,.of_steps (.one h0 stepR_block) harr⟩
 | panic ch=>exact⟨_,a₁,w₁,hq,.of_steps (.one h0 stepR_block) harr⟩
 | outgrown=>exact⟨_,a₁,w₁,hq,.of_steps (.one h0 stepR_block) harr⟩
def TrA (fid:FuncId) (P:Program) (A:Act→WP) (c:Code) (Q:Exit→Act→WP):Prop:=∀ a w,A a w→Code.wpAt fid P c Q a w
theorem Xr {m:Nat} {x y:Code} (h:Tr (⟨m,none⟩:Rn) P A x (Exit.then (fun a w=>Code.wpAt fid P y Q a w) Q)):TrA fid P A (.seq x y) Q:=fun a w ha=>Zmz (ZxU (h a w ha))
theorem ZdV {y:Code} (h:TrA fid P A y Q):∀ a w,A a w→Code.wpAt fid P y Q a w:=h
theorem Zcg (ds:List Deferred) (a:Act) (d:Option Nat) (v:Value):(phi ds a).put d v=phi ds (a.put d v):=by cases d<;>rfl
theorem ZmO {F:Fence} {n:Nat} {o:Oper} {ds:List Deferred} {next next':Act→WP} {r:Result Next} (hn:∀ b w,next' b w→next (phi ds b) w) (h:o.uponIn F n P a next' (fun e b w=>Q e (phi ds b) w) r):o.uponIn F n P (phi ds a) next Q r:=by
 have hl:LetsOut (fun e b w=>Q e (phi ds b) w)→LetsOut Q:=fun⟨b,w,hb⟩=>⟨phi ds b,w,hb⟩
 cases r with
 | halt s w'=>
  cases s<;>exact h
 | ok x w'=>
  cases x with
  | value v=>rw[Oper.uponIn_value]at h ⊢;rw[Zcg];exact hn _ _ h
  | skip=>rw[Oper.uponIn_skip]at h ⊢;rw[Zcg];exact hn _ _ h
  | defer d=>rw[Oper.uponIn_defer]at h ⊢;exact(Zcg ds { a with defers:=d::a.defers } o.dst undef)▸hn _ _ h
  | enter f args=>
   rw[Oper.uponIn_enter]at h ⊢
   refine⟨h.1,h.2.mono fun e w'' he=>?_⟩
   cases e with
   | returned v=>simp only at he ⊢;rw[Zcg];exact hn _ _ he
   | panicked ch=>exact he
   | outgrown=>exact hl he
  | row row args=>
   rw[Oper.uponIn_row]at h ⊢
   refine⟨h.1,h.2.mono fun v w'' he=>?_⟩
   rw[Zcg];exact hn _ _ he
  | round l f tmps assign body=>
   rw[Oper.uponIn_round]at h ⊢
   refine⟨h.1,h.2.mono fun e w'' he=>?_⟩
   cases e with
   | returned v=>simp only at he ⊢;rw[Zcg];exact hn _ _ he
   | panicked ch=>exact he
   | outgrown=>exact hl he
  | _=>exact h
theorem Zai {F:Fence} {n:Nat} {ops:Array Oper} {ds:List Deferred}:∀ {l:List Oper} {a:Act} {w:World},wpListIn F n P ops (fun e b w=>Q e (phi ds b) w) l a w→wpListIn F n P ops Q l (phi ds a) w
 | [],_,_,h=>h
 | o::rest,a,w,h=>by
  have hy:yielded ops (phi ds a).tmps=yielded ops a.tmps:=rfl
  unfold wpListIn at h ⊢
  rw[hy]
  split
  · rename_i hw
    rw[if_pos hw]at h
    exact⟨h.1,ZmO (fun b w hb=>Zai hb) h.2⟩
  · rename_i hw
    rw[if_neg hw]at h
    exact⟨h.1,by rw[Zcg];exact Zai h.2⟩
theorem Zm3 {F:Fence} {n:Nat} {id:Nat} {l:List Oper} {ds:List Deferred} (h:wpListIn F n P l.toArray (fun e b w=>Q e (phi ds b) w) l a w):(Code.region id l.toArray false).wpIn F n P Q (phi ds a) w:=wpIn_region_lit (Zai h)
def TrD (n:Rn) (ds:List Deferred) (P:Program) (A:Act→WP) (c:Code) (Q:Exit→Act→WP):Prop:=∀ a w,A a w→c.wpIn n.F n.d P Q (phi ds a) w
variable {n:Rn} {ds:List Deferred}
theorem Zgo {x y:Code} (h:TrD n ds P A x (Exit.then (fun a w=>y.wpIn n.F n.d P Q a w) Q)):TrD n ds P A (.seq x y) Q:=fun a w ha=>wpIn_seq (h a w ha)
theorem nxD {y:Code} (h:TrD n ds P A y Q):∀ a w,A a w→y.wpIn n.F n.d P Q (phi ds a) w:=h
theorem Zb8 {id:Nat} {l:List Oper} (h:∀ a w,A a w→wpListIn n.F n.d P l.toArray (fun e b w=>Q e (phi ds b) w) l a w):TrD n ds P A (.region id l.toArray false) Q:=fun a w ha=>Zm3 (h a w ha)
theorem Zu7 (h:∀ a w,A a w→Q .normal (phi ds a) w):TrD n ds P A .skip Q:=fun a w ha=>wpIn_skip (h a w ha)
theorem Zu9 {id:Nat} (h:∀ a w,A a w→Q (.exit id) (phi ds a) w):TrD n ds P A (.exit id) Q:=fun a w ha=>wpIn_exit (h a w ha)
theorem Zqs (h:∀ a w,A a w→Q .ret (phi ds a) w):TrD n ds P A .ret Q:=fun a w ha=>wpIn_ret (h a w ha)
theorem dtw {B:Act→WP} {c:Code} (hAB:∀ {a:Act} {w:World},A a w→B a w) (h:TrD n ds P B c Q):TrD n ds P A c Q:=fun a w ha=>h a w (hAB ha)
theorem d_cj {K S:Nat→Prop} {w0:World} {N:Nat} {env:List (Nat×AV)} {X:WP} {y z:Code} {d:Operand} {s:Nat} (m:Nat) {g:Bool} (ht:g=true→TrD n ds P (St K S w0 N env X) y Q) (hf:g=false→TrD n ds P (St K S w0 N env X) z Q) (he:env[m]?=some (s,.bool g):=by exact rfl) (hc:d= .tmp s:=by exact rfl):TrD n ds P (St K S w0 N env X) (.cond d y z) Q:=fun a w ha=>
 wpIn_cond_split (t:=g) (by rw[hc];exact(ha.get m he).lit) (fun h=>ht h a w ha) fun h=>hf h a w ha
theorem Zfr {id:Nat} {c:Code} (h:TrA fid P A c (Exit.inBlock id Q)):TrA fid P A (.block id c) Q:=fun a w ha=>ZmA (h a w ha)
theorem Zrc {x y:Code} (h:TrA fid P A x (Exit.then (fun a w=>Code.wpAt fid P y Q a w) Q)):TrA fid P A (.seq x y) Q:=fun a w ha=>Zmz (h a w ha)
theorem atw {B:Act→WP} {c:Code} (hAB:∀ {a:Act} {w:World},A a w→B a w) (h:TrA fid P B c Q):TrA fid P A c Q:=fun a w ha=>h a w (hAB ha)
theorem lnA {α:Type} {f:α→List CD} {xs:List α} {K S:Nat→Prop} {w0:World} {N:Nat} {env:List (Nat×AV)} {X:WP} {c:Code} {s:Nat} (m:Nat) (h:xs.length≤9223372036854775807→TrA fid P (St K S w0 N env X) c Q) (he:env[m]?=some (s,.rd (.sl (xs.map f))):=by exact rfl):TrA fid P (St K S w0 N env X) c Q:=fun a w ha=>h (ZpJ ha m he) a w ha
theorem lnD {α:Type} {f:α→List CD} {xs:List α} {K S:Nat→Prop} {w0:World} {N:Nat} {env:List (Nat×AV)} {X:WP} {c:Code} {s:Nat} (m:Nat) (h:xs.length≤9223372036854775807→TrD n ds P (St K S w0 N env X) c Q) (he:env[m]?=some (s,.rd (.sl (xs.map f))):=by exact rfl):TrD n ds P (St K S w0 N env X) c Q:=fun a w ha=>h (ZpJ ha m he) a w ha
theorem Zwt {m:Nat} {y:Code} (h:TrD (⟨m,none⟩:Rn) ds P A y Q):∀ a w,A a w→Code.wpAt fid P y Q (phi ds a) w:=fun a w ha=>ZxU (h a w ha)
end
section
variable {N:Nat} {P:Program} {J:WP} {S:Nat→Prop} {O:List OB} {w0:World} {env:List (Nat×AV)} {fn:Func} {R:Ending→WP} {a:Act} {w:World} {D:Nat} {ch:List PanicEntry}
theorem outA (h:bodyPost P fn R .ret a w):bodyPostM Fence.wide 5 P fn R .ret a w:=by
 obtain⟨hd,v,hr,h⟩:=h
 exact Zwn hd hr h
theorem Zwo {A:Act→WP} (h:∀ a w,A a w→bodyPost P fn R .ret a w):∀ a w,A a w→bodyPostM Fence.wide 5 P fn R .ret a w:=fun a w ha=>outA (h a w ha)
theorem Zoo (hJ:Stab J) (hJ0:J w0) (h:So J S w0 N (OB.dfr D::O) env a w):w.heap[D]?=some (.deferred (some []))∧So J S w0 N O env a (w.putObj D (.deferred none)):=by
 refine⟨(ZeM (l:=D) h.x yz).2,Zz (h.step0 (Qn (.deferred none) hJ hJ0 h.keep h.x) undef)⟩
theorem outD (hJ:Stab J) (hJ0:J w0) (h:∀ a w,So J S w0 N O env a w→bodyPost P fn R .ret a w):∀ a w,So J S w0 N (OB.dfr D::O) env a w→bodyPostM Fence.wide 5 P fn R .ret (phi (mkD D) a) w:=fun a w ha=>by
 obtain⟨h1,h2⟩:=Zoo hJ hJ0 ha
 obtain⟨hd,v,hr,hR⟩:=h a _ h2
 exact Zso (a:=phi (mkD D) a) (by simp[phi,hd]) h1 hr hR
theorem XC {p:Prop} (hp:p) (h:So J S w0 N O env a w):So J S w0 N (OB.fct p::O) env a w:=by
 have hs:∀ k,SO S O k→SO S (OB.fct p::O) k:=fun k hk=>⟨hk.1,fun q hq=>by
  rcases List.mem_cons.1 hq with rfl | hq
  · exact fun e=>e
  · exact hk.2 q hq⟩
 refine⟨h.defs,h.size,h.keep,⟨h.x.1,fun q hq=>?_,.cons (fun _ _ _ e=>e.elim) h.x.2.2⟩,fun q hq=>⟨(h.env q hq).1,(h.env q hq).2.sub fun k _=>hs k⟩⟩
 rcases List.mem_cons.1 hq with rfl | hq
 · exact hp
 · exact OB.sub (h.x.2.1 q hq) fun k _=>hs k
theorem ZhV {p:Prop} {n:Rn} {c:Code} {Q:Exit→Act→WP} (h:p→Tr n P (So J S w0 N O env) c Q):Tr n P (So J S w0 N (OB.fct p::O) env) c Q:=fun a w ha=>h (ha.x.2.1 (OB.fct p) yz) a w (Zz ha)
theorem ZhY {p:Prop} {R:Act→WP} (h:p→∀ a w,So J S w0 N O env a w→R a w):∀ a w,So J S w0 N (OB.fct p::O) env a w→R a w:=fun a w ha=>h (ha.x.2.1 (OB.fct p) yz) a w (Zz ha)
theorem Zew {T:Nat→Prop} {f:FuncId} {l:List AV} {v:Value} (h:Rel T w (.fn f l) v):∃ cap:List Value,v= .func (.func f) #[] cap.toArray∧RelL T w l cap:=by simpa only[Rel]using h
theorem ZcP {f:FuncId} {c:Code} {args:List AV} {res:AV} (hf:P.funcs[f]?=some fn) (hb:fn.body=some c) (hN:fn.ntmps=N) (hl:args.length≤N)
 (h:∀(S:Nat→Prop) (w0:World),(∀ b,w0.heap.size≤b→S b)→J w0→TrA f P (St All S w0 N (Y2 0 args) J) c (bodyPostM Fence.wide 5 P fn fun e w'=>∃ v,e= .returned v∧Rel S w' res v∧Keeps All w0 w'∧J w')):Fn P J f args res:=by
 intro S w0 vs hS hJ ha
 obtain⟨g1,g2⟩:=Qo hl hN ha
 exact ZbH hf hb (h S w0 hS hJ _ _ ⟨rfl,g1,Keeps.refl _ _,hJ,g2⟩)
theorem Zge {ι:Type} {f:FuncId} {c:Code} {args:List AV} {res:ι→AV} {O':ι→List OB} (hf:P.funcs[f]?=some fn) (hb:fn.body=some c) (hN:fn.ntmps=N) (hl:args.length≤N)
 {Hs:List OB} (h:∀(S:Nat→Prop) (w0:World) (R:List OB),(∀ b,w0.heap.size≤b→S b)→J w0→Has Hs S w0→TrA f P (So J S w0 N (O++R) (Y2 0 args)) c (bodyPostM Fence.wide 5 P fn (fun e w'=>∃ i v,e= .returned v∧Rel (SO S (O' i++R)) w' (res i) v∧Keeps All w0 w'∧XO J S w0.heap.size (O' i++R) w'))):FnM P J f Hs args O res O':=by
 intro S w0 R w vs hS hJ hH hk hx ha
 obtain⟨g1,g2⟩:=Qo hl hN ha
 exact ZbH hf hb (h S w0 R hS hJ hH _ _ ⟨rfl,g1,hk,hx,g2⟩)
end
theorem ZkK:Zb9 Tryz.prog 162 2:=⟨#[.string ⟨#[]⟩,.string ⟨#[]⟩],Y,fun i=>(#[(0,1),(1,1)]:Array (Nat×Nat))[i]?,fun j hj=>by rcases j with _ | _ | j<;>first | rfl | omega,fun parts=>by kernel_rfl⟩
theorem Zj0 {J:WP} (hJ:Stab J) (bl:List Bd) (us:List BA) (ap:List Pr) (hbl:∀ b∈bl,b.text.length≤2000):Zrd Tryz.prog J 147 [] [.ptr [Zgu bl],.ptr [Zg us],.ptr [X8 ap]] (fun x9=>[.agg (prC x9)]) (ZvX bl ap us) (none):=by
 refine ZbC (N:=55) Tryz.func147 Y Y (lb Y) fun S w0 R l κ μ σ I pv O3 O4 k0 hS hJ0 hH hY=>?_
 refine YS (B:=So J S w0 55 (I ([]) k0++R) [(0,.rd (.lit (.func (.yield l) #[] #[]))),(1,.ptr [Zgu bl]),(2,.ptr [Zg us]),(3,.ptr [X8 ap])]) ?_ fun a w h=>h
 refine tsq (snK 1 tb Y (QK (O:=[]) (R:=(I ([]) k0++R)) (Zpf hJ bl) Zhr Y Y Y (lb Y) hS hJ0 Zq (fun a w h=>(Za (h.get 0 Y) Zc)) fun z1=>?_))
 refine snK 1 tb Y (seK [0,2,3,5,6] U5 Y ?_)
 refine nx (ln 1 fun hl1=>?_)
 refine tsq (snK 1 tb Y (QK (O:=[]) (R:=(OB.map keyS (fun z':List BA=>AV.rd (Zg z')) z1 (ZQ bl)::(I ([]) k0++R))) (Zr0 hJ us) ZtU Y Y Y (lb Y) hS hJ0 Zq (fun a w h=>(Za (h.get 0 Y) Zc)) fun z2=>?_))
 refine snK 1 tb Y (seK [0,2,3,5,7] U5 Y ?_)
 refine nx (ln 1 fun hl2=>?_)
 refine ZF tb hJ [0,2,3,1000,1001,1002] [_,.int (ap.length:Nat),_] [1] U6 Y ⟨Ym Yl,U⟩ ?_
 refine ln 3 fun hl3=>?_
 refine Zd (lpo (ι:=Nat×(List Pr)×κ) (fun(k,pre,_)=>(k≤ap.length)∧(pre=(ap.take k).flatMap (rqA bl us))) (fun(_,pre,kk)=>(OB.set keyS z2 (QP us)::OB.map keyS (fun z':List BA=>AV.rd (Zg z')) z1 (ZQ bl)::(I pre kk++R))) (fun(k,_,_)=>[(19,.int (k:Nat))]) (fun(k,_,_)=>ap.length-k) (r6 []) U5 (0,[],k0) ⟨nzl,Y⟩ ?_)
 rintro⟨k,pre,kk⟩ ⟨f1_1,f1_2⟩
 refine qso tb hJ (r6 [1000]) [_] U7 ?_
 refine cjS 6 (fun hb1=>?_) fun hb1=>?_
 try simp at hb1
 refine Zb (nx (Zf (Zd (tsq (sy (.ptr (prC (ge ap k))) (fun h=>ZM (i:=(k:Int)) ZE Y (h.get 3 Y) (h.get 5 Y) nnn (ZT (xs:=ap) (k:=k) sfz) Y h.x) ?_)))))
 refine snK 1 tb Y (Qk (cs:=prC (ge ap k)) Zeg Y Y Y (lb Y) Y Y Y dz (m:=0) Y Y (fun a w h=>Zk hS _ h.keep h.x _ nlr) (fun a w h w' hk'=>Yw hJ _ _ hk' h.x) ?_)
 refine seK [0,3,4,5,6,7,8] U7 Y (nx (ZF tb hJ (r7 [1003,1005,1006,1007]) (V3 [.rd (Zg (XP (ZQ bl) ((ge ap k).a))),_,.rd (Zg (Zba (XP (ZQ bl) ((ge ap k).a)) (QP us))),.int ((Zba (XP (ZQ bl) ((ge ap k).a)) (QP us)).length:Nat),_]) [3,5,6] U11 Y ⟨fun a _ hk hx hl _=>Y3 (ZeC hJ z1 (ZQ bl) ((ge ap k).a)) ZcW Y (Zk hS _ hk hx) (hx.1) (ZH (Ze hx (mo 1 Y)) Zq) (Za (hl.D 0 23 Y Y) (Za (hl.D 2 25 Y Y) Zc)) (jo hJ hx),fun a _ hk hx hl _=>Y3 (Zdw hJ z2 (QP us) (XP (ZQ bl) ((ge ap k).a)) (by exact Zkd (m:=2000) oz hbl _)) Zmn Y (Zk hS _ hk hx) (hx.1) (ZH (Ze hx (mo 0 Y)) Zq) (Za (hl.D 3 26 Y Y) (Za (hl.D 4 27 Y Y) Zc)) (jo hJ hx),Ym ZA,U⟩ ?_))
 refine ln 7 fun hl4=>?_
 refine ln 8 fun hl5=>?_
 refine Zd (lpo (ι:=Nat×(List Pr)×κ) (fun(j,pre,_)=>(j≤(Zba (XP (ZQ bl) (ge ap k).a) (QP us)).length)∧(pre=(ap.take k).flatMap (rqA bl us)++((Zba (XP (ZQ bl) (ge ap k).a) (QP us)).take j).flatMap (rqB bl us (ge ap k)))) (fun(_,pre,kk)=>(OB.set keyS z2 (QP us)::OB.map keyS (fun z':List BA=>AV.rd (Zg z')) z1 (ZQ bl)::(I pre kk++R))) (fun(j,_,_)=>[(30,.int (j:Nat))]) (fun(j,_,_)=>(Zba (XP (ZQ bl) (ge ap k).a) (QP us)).length-j) (r7 [8,9,10]) U9 (0,pre,kk) ⟨nzl,by rw[f1_2];simp⟩ ?_)
 rintro⟨j,pre,kk⟩ ⟨f2_1,f2_2⟩
 refine qso tb hJ (r10 [1000]) [_] U11 ?_
 refine cjS 10 (fun hb2=>?_) fun hb2=>?_
 try simp at hb2
 refine Zb (nx (Zf (Zd (ZF tb hJ (r10 [1002]) [.ptr [lS (ge (Zba (XP (ZQ bl) ((ge ap k).a)) (QP us)) j)],_,_] [0] U11 Y ⟨iIx Zj,U⟩ ?_))))
 refine ZF tb hJ (r11 [1003,1005,1006,1007]) (V3 [.rd (Zg (XP (ZQ bl) ((ge ap k).b))),_,.rd (Zg (Zba (XP (ZQ bl) ((ge ap k).b)) (QP us))),.int ((Zba (XP (ZQ bl) ((ge ap k).b)) (QP us)).length:Nat),_]) [3,5,6] U15 Y ⟨fun _ _ hk hx hl _=>Y3 (ZeC hJ z1 (ZQ bl) ((ge ap k).b)) ZcW Y (Zk hS _ hk hx) (hx.1) (ZH (Ze hx (mo 1 Y)) Zq) (Za (hl.D 0 34 Y Y) (Za (hl.D 2 36 Y Y) Zc)) (jo hJ hx),fun _ _ hk hx hl _=>Y3 (Zdw hJ z2 (QP us) (XP (ZQ bl) ((ge ap k).b)) (by exact Zkd (m:=2000) oz hbl _)) Zmn Y (Zk hS _ hk hx) (hx.1) (ZH (Ze hx (mo 0 Y)) Zq) (Za (hl.D 3 37 Y Y) (Za (hl.D 4 38 Y Y) Zc)) (jo hJ hx),Ym ZA,U⟩ ?_
 refine ln 11 fun hl6=>?_
 refine ln 12 fun hl7=>?_
 refine Zd (lpo (ι:=Nat×(List Pr)×κ) (fun(i,pre,_)=>(i≤(Zba (XP (ZQ bl) (ge ap k).b) (QP us)).length)∧(pre=(ap.take k).flatMap (rqA bl us)++((Zba (XP (ZQ bl) (ge ap k).a) (QP us)).take j).flatMap (rqB bl us (ge ap k))++((Zba (XP (ZQ bl) (ge ap k).b) (QP us)).take i).map (fun y=>ZcG ⟨ge (Zba (XP (ZQ bl) (ge ap k).a) (QP us)) j,y⟩))) (fun(_,pre,kk)=>(OB.set keyS z2 (QP us)::OB.map keyS (fun z':List BA=>AV.rd (Zg z')) z1 (ZQ bl)::(I pre kk++R))) (fun(i,_,_)=>[(41,.int (i:Nat))]) (fun(i,_,_)=>(Zba (XP (ZQ bl) (ge ap k).b) (QP us)).length-i) (r11 [12,13,14]) [_,_,_,_,_,_,_,_,_,_,_,_,_] (0,pre,kk) ⟨nzl,by rw[f2_2];simp⟩ ?_)
 rintro⟨i,pre,kk⟩ ⟨f3_1,f3_2⟩
 refine qso tb hJ [0,1,2,3,4,5,6,7,8,9,10,11,12,13,1000] [_] U15 ?_
 refine cjS 14 (fun hb3=>?_) fun hb3=>?_
 try simp at hb3
 refine Zb (nx (Zf (Zd (ZF tb hJ [0,1,2,3,4,5,6,7,8,9,10,11,12,13,1002] [.ptr [lS (ge (Zba (XP (ZQ bl) ((ge ap k).b)) (QP us)) i)],_,_] [0] U15 Y ⟨iIx Zj,U⟩ ?_))))
 refine tsq (snK 3 tb Y (sq (.agg (prC (⟨(ge (Zba (XP (ZQ bl) ((ge ap k).a)) (QP us)) j),(ge (Zba (XP (ZQ bl) ((ge ap k).b)) (QP us)) i)⟩:Pr))) Y Y (lb Y) (fun a _ h=>XR (us:=[a.eval (.tmp 46),a.eval (.tmp 47)]) ZkK Y yz (Zt (h.get 1 Y) (Zt (h.get 0 Y) Z0)) Y h.x) ?_))
 refine sy (.agg (prC (ZcG (⟨(ge (Zba (XP (ZQ bl) ((ge ap k).a)) (QP us)) j),(ge (Zba (XP (ZQ bl) ((ge ap k).b)) (QP us)) i)⟩:Pr)))) (fun h=>ZaL (Zig hJ (⟨(ge (Zba (XP (ZQ bl) ((ge ap k).a)) (QP us)) j),(ge (Zba (XP (ZQ bl) ((ge ap k).b)) (QP us)) i)⟩:Pr)) Zmo Y (Zk hS _ h.keep h.x) (h.x.1) (Za (h.get 0 Y) Zc) (jo hJ h.x)) ?_
 refine kw (ZuB [OB.set keyS z2 (QP us),OB.map keyS (fun z':List BA=>AV.rd (Zg z')) z1 (ZQ bl)]) (ZdN (O:=I pre kk) (R:=([OB.set keyS z2 (QP us),OB.map keyS (fun z':List BA=>AV.rd (Zg z')) z1 (ZQ bl)]++R)) (xs:=[_]) (avl:=[.agg (prC (ZcG (⟨(ge (Zba (XP (ZQ bl) ((ge ap k).a)) (QP us)) j),(ge (Zba (XP (ZQ bl) ((ge ap k).b)) (QP us)) i)⟩:Pr)))]) Y Y Y Y (lb Y) (fun a w h=>(h.get 4 Y).lit) (fun a w h=>Za (h.get 0 Y) Zc) (fun m' R' w1 vs hk hx hv=>hY m' R' pre (ZcG (⟨(ge (Zba (XP (ZQ bl) ((ge ap k).a)) (QP us)) j),(ge (Zba (XP (ZQ bl) ((ge ap k).b)) (QP us)) i)⟩:Pr)) kk w1 vs (by rw[f3_2];exact rq_pre hb1 hb2 hb3) hk hx hv) (fun q=>itPanA [OB.set keyS z2 (QP us),OB.map keyS (fun z':List BA=>AV.rd (Zg z')) z1 (ZQ bl)] q) (fun s3=>?_) (fun z4=>?_))
 refine kw (ZfR [OB.set keyS z2 (QP us),OB.map keyS (fun z':List BA=>AV.rd (Zg z')) z1 (ZQ bl)]) (snK 1 tb Y ?_)
 refine seK [0,7,8,9,10,11,12,13,14,15,16,17,18,19,20] U15 Y (nx (cj 0 (fun hb4=>?_) fun hb4=>?_))
 try simp at hb4
 refine tw Zz (tw Zz ?_)
 exact Zs (fun a w h=>ZiK s3 Y h)
 exact False.elim (by simp at hb4)
 refine kw (ZfR [OB.set keyS z2 (QP us),OB.map keyS (fun z':List BA=>AV.rd (Zg z')) z1 (ZQ bl)]) (snK 1 tb Y ?_)
 refine seK [0,7,8,9,10,11,12,13,14,15,16,17,18,19,20] U15 Y (nx (cj 0 (fun hb4=>?_) fun hb4=>?_))
 exact False.elim (by simp at hb4)
 try simp at hb4
 refine Zb (nx (YU tb hJ [1,2,3,4,5,6,7,8,9,10,11,12,13,1001] [.int (i+1:Nat),_] [0] [_,_,_,_,_,_,_,_,_,_,_,_,_,_] Y ⟨YT,U⟩ ?_))
 exact Xk (i+1,(pre++[(ZcG (⟨(ge (Zba (XP (ZQ bl) ((ge ap k).a)) (QP us)) j),(ge (Zba (XP (ZQ bl) ((ge ap k).b)) (QP us)) i)⟩:Pr))]),z4) [0,1,2,3,4,5,6,7,8,9,10,11,12,13] ⟨oz,by rw[f3_2,ZcK hb3,←List.append_assoc]⟩
 try simp at hb3
 refine Zu (nx (YU tb hJ (r9 [1001]) [.int (j+1:Nat),_] [0] U10 Y ⟨YT,U⟩ ?_))
 exact Xk (j+1,pre,kk) (r10 []) ⟨oz,by rw[f3_2,ZX (xs:=(Zba (XP (ZQ bl) (ge ap k).b) (QP us))) (k:=i) oz,Zki hb2,←List.append_assoc];rfl⟩
 try simp at hb2
 refine Zu (nx (YU tb hJ [1,2,3,4,5,1001] [.int (k+1:Nat),_] [0] U6 Y ⟨YT,U⟩ ?_))
 exact Xk (k+1,pre,kk) (r6 []) ⟨oz,by rw[f2_2,ZX (xs:=(Zba (XP (ZQ bl) (ge ap k).a) (QP us))) (k:=j) oz,Zki hb1];rfl⟩
 try simp at hb1
 refine Zu (kw Zz (kw Zz ?_))
 exact fun a w h=>ZiL (Y) (by rw[f1_2,ZuF,ZX oz]) kk Y h
end Go.Proofs.YtdfadihhfppjaaaGreatDoor
