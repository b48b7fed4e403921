/-
  THE ENGINE's RULES: one for each kind of operation; text order; the state; contracts.
  THE ENGINE: what the printed walks use beside the rules: rows of lists, guards, leaving.
  THE ENGINE: slices that the call itself grows by append.
  THE ENGINE: a region, drawn or not, in which a new slice is grown by appends that stand in a row: append(append([]T{}, a...), b...).
-/
import Derived.Test.YtdfadihhfppjaaaGreatDoorQD
import Derived.RangeFuncCalls
namespace Go.Proofs.YtdfadihhfppjaaaGreatDoor
open Go.RowKit
def YC (S:Nat→Prop) (X:WP) (av:AV) (w:World):Value→WP:=fun v w'=>Rel S w' av v∧Keeps All w w'∧X w'
section
variable {n:Rn} {P:Program} {S:Nat→Prop} {X:WP} {o:Oper} {a:Act} {w:World}
theorem ZS {post:Value→WP} {v:Value} {w':World} (hrun:(execOp a.eval o).run P w= .ok (.value v) w') (hp:post v w'):Does n P o a w post:=
 fun K Q hK=>⟨fun _ _=>trivial,by
  show o.uponIn n.F n.d P a K Q ((o.semAt n.r a.eval).run P w)
  rw[Zcy hrun fun _ e=>(by cases e)];exact hK _ _ hp⟩
theorem ZbG {post:Value→WP} {w':World} (hrun:(execOp a.eval o).run P w= .ok .skip w') (hp:post undef w'):Does n P o a w post:=
 fun K Q hK=>⟨fun _ _=>trivial,by
  show o.uponIn n.F n.d P a K Q ((o.semAt n.r a.eval).run P w)
  rw[Zcy hrun fun _ e=>(by cases e)];exact hK _ _ hp⟩
theorem Zfk {k:Nat} {f:FuncId} {args:Array Value} {R:Ending→WP} (h:CallsIn Fence.wide k P f args w R):CallsIn n.F k P f args w R:=by
 obtain⟨d,r⟩:=n
 cases r with
 | none=>exact h
 | some l=>exact h.inRound l
theorem Zfb {post:Value→WP} {f:FuncId} {args:Array Value} {w1:World} (hrun:(execOp a.eval o).run P w= .ok (.enter f args) w1) (hc:Calls P f args w1 fun e w'=>∃ v,e= .returned v∧post v w'):Does n P o a w post:=
 fun K Q hK=>⟨fun _ _=>trivial,by
  show o.uponIn n.F n.d P a K Q ((o.semAt n.r a.eval).run P w)
  rw[Zcy hrun fun _ e=>(by cases e)]
  refine⟨fun h=>(by cases h),(Zfk (callsIn_wide.2 hc)).mono fun e w' h=>?_⟩
  obtain⟨v,rfl,hv⟩:=h
  exact hK _ _ hv⟩
theorem Zl {post post':Value→WP} (h:Does n P o a w post) (hp:∀ v w',post v w'→post' v w'):Does n P o a w post':=
 fun K Q hK=>h K Q fun v w' hv=>hK v w' (hp v w' hv)
theorem Zr {av:AV} {v:Value} (hrun:(execOp a.eval o).run P w= .ok (.value v) w) (hr:Rel S w av v) (hx:X w):Does n P o a w (YC S X av w):=
 ZS hrun ⟨hr,Keeps.refl _ _,hx⟩

def XA (P:Program) (t:TypeId):Prop:=∀ w,(isAgg t).run P w= .ok false w
def Xl (P:Program) (t:TypeId) (k:Nat):Prop:=(∀ w,(isAgg t).run P w= .ok true w)∧∀ w,(sizeOf t).run P w= .ok k w
def ZW (P:Program) (s:TypeId) (k o:Nat):Prop:=∀ b off w,(Instr.fieldAt s (.pointer (some ⟨b,off,none⟩)) k).run P w= .ok (.pointer (some ⟨b,off+o,none⟩)) w
def Yp (P:Program) (t e:TypeId) (k:Nat):Prop:=P.underlying t=some (.slice e)∧∀ w,(sizeOf e).run P w= .ok k w
def Zi (P:Program) (f:FuncId):Prop:=∀ args w,(callFunc f args).run P w= .ok (.enter f args) w
theorem Zm {f:FuncId} {fn:Func} {c:Code} (hf:P.funcs[f]?=some fn) (hb:fn.body=some c) (hn:(fn.name== "runtime.NumGoroutine")=false):Zi P f:=by
 intro args w
 have hn':¬ fn.name= "runtime.NumGoroutine" :=by simpa using hn
 simp[callFunc,Sem.run_bind,program,Sem.run,hf,hb,hn']

theorem ZV {x:Operand} {av:AV} (hop:o.op= .move x) (h:Rel S w av (a.eval x)) (hx:X w):Does n P o a w (YC S X av w):=
 Zr (v:=a.eval x) (by simp[execOp,hop]) h hx
theorem YA {x:Operand} {av:AV} (hop:o.op= .assign x) (h:Rel S w av (a.eval x)) (hx:X w):Does n P o a w (YC S X av w):=
 Zr (v:=a.eval x) (by simp[execOp,hop]) h hx
theorem ZuH {c x y:Operand} {g:Bool} {av:AV} (hop:o.op= .pick c x y) (hc:Rel S w (.bool g) (a.eval c)) (ht:g=true→Rel S w av (a.eval x)) (hf:g=false→Rel S w av (a.eval y)) (hx:X w):Does n P o a w (YC S X av w):=by
 have hv:=hc.lit
 cases g with
 | true=>exact Zr (v:=a.eval x) (by simp[execOp,hop,hv,asBool]) (ht rfl) hx
 | false=>exact Zr (v:=a.eval y) (by simp[execOp,hop,hv,asBool]) (hf rfl) hx
theorem Zv2 {x:Operand} {t:TypeId} {g:Bool} (hop:o.op= .unOp .not t x) (hc:Rel S w (.bool g) (a.eval x)) (hx:X w):Does n P o a w (YC S X (.bool !g) w):=by
 have hv:=hc.lit
 exact Zr (v:=.bool !g) (by simp[execOp,hop,hv,Op.unary]) (Rel.of_lit _) hx
theorem ZB {x:Operand} {t:TypeId} {c:CD} {cs:List CD} (h1:XA P t) (hop:o.op= .load t x) (h:Rel S w (.ptr (c::cs)) (a.eval x)) (hx:X w):Does n P o a w (YC S X (.rd c) w):=by
 simp only[Rel]at h
 obtain⟨b,off,us,hv,hb,hS,hr,hc⟩:=h
 match us,hr with
 | u::us,hr=>
  have h0:=hc 0 u rfl
  refine Zr (v:=u) ?_ (by simp only[Rel];exact hr.1) hx
  simp[execOp,hop,hv,Instr.loadAt,Instr.sureAddr,loadVar,Sem.run_bind,h1 w]
  simp at h0
  simp[h0]
theorem Yr (b off:Nat) (w:World):∀(us:List Value) (i:Nat) (acc:Array Value),(∀ j u,us[j]?=some u→w.cell? ⟨b,off+(i+j),none⟩=some u)→
 (loadCellsFrom ⟨b,off,none⟩ i us.length acc).run P w= .ok (acc++us.toArray) w
 | [],i,acc,_=>by simp[loadCellsFrom]
 | u::us,i,acc,h=>by
  have h0:=h 0 u rfl
  have ih:=Yr b off w us (i+1) (acc.push u) fun j v hj=>by
   have:=h (j+1) v (by simpa using hj)
   rw[show i+1+j=i+(j+1) by omega];exact this
  have hadd:(⟨b,off,none⟩:Addr).add i=⟨b,off+i,none⟩:=by
   unfold Addr.add
   split
   · rename_i h;subst h;rfl
   · rfl
  simp only[Nat.add_zero]at h0
  simp only[List.length_cons,loadCellsFrom,Sem.run_bind,hadd,load,Sem.run,h0,Result.andThen_ok]
  rw[ih]
  simp
theorem QG {x:Operand} {t:TypeId} {k:Nat} {cs:List CD} (h1:Xl P t k) (hop:o.op= .load t x) (h:Rel S w (.ptr cs) (a.eval x)) (hk:k≤cs.length) (hx:X w):Does n P o a w (YC S X (.agg (cs.take k)) w):=by
 simp only[Rel]at h
 obtain⟨b,off,us,hv,hb,hS,hr,hc⟩:=h
 have hl:=hr.length
 have hrun:=Yr (P:=P) b off w (us.take k) 0 #[] fun j u hj=>by
  rw[List.getElem?_take]at hj
  split at hj
  · rw[Nat.zero_add];exact hc j u hj
  · cases hj
 rw[List.length_take,Nat.min_eq_left oz]at hrun
 refine Zr (v:=.agg (us.take k).toArray) ?_ ?_ hx
 · simp[execOp,hop,hv,Instr.loadAt,Instr.sureAddr,loadVar,loadCells,Sem.run_bind,h1.1 w,h1.2 w,hrun]
 · simp only[Rel]
   refine⟨_,rfl,RdL.of_get (by simp[hl]) fun i c v h1 h2=>?_⟩
   rw[List.getElem?_take]at h1 h2
   split at h1
   · rename_i hi
     rw[if_pos hi]at h2
     exact hr.get h1 h2
   · cases h1
theorem ZG {x:Operand} {s:TypeId} {k d:Nat} {cs:List CD} (h1:ZW P s k d) (hop:o.op= .fieldAddr s x k) (h:Rel S w (.ptr cs) (a.eval x)) (hx:X w):Does n P o a w (YC S X (.ptr (cs.drop d)) w):=by
 simp only[Rel]at h
 obtain⟨b,off,us,hv,hb,hS,hr,hc⟩:=h
 refine Zr (v:=.pointer (some ⟨b,off+d,none⟩)) ?_ ?_ hx
 · simp[execOp,hop,hv,h1 b off w]
 · simp only[Rel]
   refine⟨b,off+d,us.drop d,rfl,hb,hS,RdL.of_get (by simp[hr.length]) fun i c v h1 h2=>?_,fun j u hj=>?_⟩
   · rw[List.getElem?_drop]at h1 h2
     exact hr.get h1 h2
   · rw[List.getElem?_drop]at hj
     rw[Nat.add_assoc];exact hc _ _ hj
theorem ZM {x y:Operand} {t e:TypeId} {k:Nat} {rows:List (List CD)} {i:Int} {row:List CD} (h1:Yp P t e k) (hop:o.op= .indexAddr t x y) (h:Rel S w (.rd (.sl rows)) (a.eval x)) (hy:Rel S w (.int i) (a.eval y)) (h0:0≤i) (hrow:rows[i.toNat]?=some row) (hk:row.length=k) (hx:X w):
 Does n P o a w (YC S X (.ptr row) w):=by
 simp only[Rel]at h
 have hyv:=hy.lit
 obtain⟨ad,cap,hv,_,_⟩:=h.form
 rw[hv]at h
 obtain⟨b,off,rfl,hb,hS,us,hr,hc⟩:=h.at hrow
 have hlt:i.toNat<rows.length:=(List.getElem?_eq_some_iff.1 hrow).1
 refine Zr (v:=.pointer (some ⟨b,off+i.toNat*k,none⟩)) ?_ ?_ hx
 · have hadd:(⟨b,off,none⟩:Addr).add (i.toNat*k)=⟨b,off+i.toNat*k,none⟩:=by
    unfold Addr.add
    split
    · rename_i h;rw[h];rfl
    · rfl
   have hi:0≤i∧i< (rows.length:Int):=⟨h0,oz⟩
   simp[execOp,hop,hv,hyv,Instr.indexAt,asIntOf,Sem.run_bind,run_underlying h1.1,h1.2 w,hi.1,hi.2,hadd]
 · simp only[Rel]
   rw[hk]at hc
   exact⟨b,off+i.toNat*k,us,rfl,hb,hS,hr,fun j u hj=>hc j u hj⟩
theorem r_len {x:Operand} {t e:TypeId} {rows:List (List CD)} (h1:P.underlying t=some (.slice e)) (hop:o.op= .call { callee:=.builtin .len,args:= #[x],argTypes:= #[t] }) (h:Rel S w (.rd (.sl rows)) (a.eval x)) (hx:X w):
 Does n P o a w (YC S X (.int rows.length) w):=by
 simp only[Rel]at h
 obtain⟨ad,cap,hv,_,_⟩:=h.form
 refine Zr (v:=.int .i64 rows.length) ?_ (Rel.of_lit _) hx
 simp[execOp,hop,hv,resolve,invoke,builtin,Builtin.len_,Sem.run_bind,run_underlying h1,goInt]
theorem r_lenS {x:Operand} {t:TypeId} {s:BA} (h1:P.underlying t=some .string) (hop:o.op= .call { callee:=.builtin .len,args:= #[x],argTypes:= #[t] }) (h:Rel S w (.str s) (a.eval x)) (hx:X w):
 Does n P o a w (YC S X (.int s.size) w):=by
 have hv:=h.lit
 refine Zr (v:=.int .i64 s.size) ?_ (Rel.of_lit _) hx
 simp[execOp,hop,hv,resolve,invoke,builtin,Builtin.len_,Sem.run_bind,run_underlying h1,goInt]
theorem Yx {x:Operand} {l:List AV} {i:Nat} {av:AV} (hop:o.op= .extract x i) (h:Rel S w (.tup l) (a.eval x)) (hi:l[i]?=some av) (hx:X w):Does n P o a w (YC S X av w):=by
 simp only[Rel]at h
 obtain⟨us,hv,hr⟩:=h
 have key:∀(l:List AV) (us:List Value) (i:Nat) (av:AV),RelL S w l us→l[i]?=some av→∃ u,us[i]?=some u∧Rel S w av u:=by
  intro l
  induction l with
  | nil=>intro us i av _ h;simp at h
  | cons b l ih=>
   intro us i av hr hi
   simp only[RelL]at hr
   obtain⟨u,us',rfl,h1,h2⟩:=hr
   cases i with
   | zero=>simp at hi;subst hi;exact⟨u,rfl,h1⟩
   | succ i=>obtain⟨u',h3,h4⟩:=ih us' i av h2 (by simpa using hi);exact⟨u',by simpa using h3,h4⟩
 obtain⟨u,hu,hru⟩:=key l us i av hr hi
 exact Zr (v:=u) (by simp[execOp,hop,hv,Instr.extract,hu]) hru hx
theorem Q1 {x:Operand} {t:TypeId} {cs:List CD} (hop:o.op= .box t x) (h:Rel S w (.agg cs) (a.eval x)) (hS:S w.heap.size) (hx:∀ w',Keeps All w w'→X w'):Does n P o a w (YC S X (.ptr cs) w):=by
 simp only[Rel]at h
 obtain⟨us,hv,hr⟩:=h
 have hk:Keeps All w (w.alloc (.cells us.toArray t)):=(Keeps.refl _ _).alloc _
 refine ZS (v:=.pointer (some ⟨w.heap.size,0,none⟩)) (w':=w.alloc (.cells us.toArray t)) ?_ ⟨?_,hk,hx _ hk⟩
 · simp[execOp,hop,hv,Instr.box,newVar,newRow,newObj,Sem.run,Value.cells]
 · simp only[Rel]
   refine⟨w.heap.size,0,us,rfl,by simp,hS,hr.keep hk fun _ _ _=>trivial,fun j u hj=>?_⟩
   have:(w.alloc (.cells us.toArray t)).heap[w.heap.size]?=some (.cells us.toArray t):=by
    show(w.heap.push _)[w.heap.size]?=_
    simp
   unfold World.cell?
   simp only[this]
   simpa using hj
theorem Zlq {f:FuncId} {args:Array Operand} {ts:Array TypeId} {av:AV} (h1:Zi P f) (hop:o.op= .call { callee:=.value (.func f),args:=args,argTypes:=ts })
 (hc:Calls P f (args.map a.eval) w fun e w'=>∃ v,e= .returned v∧Rel S w' av v∧Keeps All w w'∧X w'):Does n P o a w (YC S X av w):=by
 refine Zfb (f:=f) (args:=args.map a.eval) (w1:=w) ?_ hc
 have h2:=h1 (args.map a.eval++ #[]) w
 simp only[Array.append_empty]at h2
 simp[execOp,hop,resolve,Act.eval,Deferred.ofValue,invoke]
 exact h2

theorem Zb0 {op:BinOp} {x y:Operand} {t u:TypeId} {v1 v2 v:Value} (hok:okLit v) (hg:(eqGuard op t x y v1 v2).run P w= .ok () w) (hrun:(binOp op t v1 v2).run P w= .ok v w) (hop:o.op= .binOp op t x y u) (h1:Rel S w (.lit v1) (a.eval x)) (h2:Rel S w (.lit v2) (a.eval y)) (hx:X w):Does n P o a w (YC S X (.lit v) w):=by
 refine Zr (v:=v) ?_ (Rel.of_lit _ hok) hx
 rw[execOp,hop]
 simp only[h1.lit,h2.lit,Sem.run_bind,hg,Result.andThen_ok,hrun]
 rfl
theorem Qf (op:BinOp) (t:TypeId) (x y:Operand) (k:IntKind) (i j:Int) (w:World):(eqGuard op t x y (.int k i) (.int k j)).run P w= .ok () w:=by
 cases op<;>rfl
theorem ZaT (op:BinOp) (t:TypeId) (x y:Operand) (i j:BA) (w:World):(eqGuard op t x y (.string i) (.string j)).run P w= .ok () w:=by
 cases op<;>rfl
theorem Znq (op:BinOp) (t:TypeId) (x y:Operand) (i j:Bool) (w:World):(eqGuard op t x y (.bool i) (.bool j)).run P w= .ok () w:=by
 cases op<;>rfl
variable {x y:Operand} {t u:TypeId}
theorem Zv3 {k:IntKind} {i j:Int} (hop:o.op= .binOp .lss t x y u) (h1:Rel S w (.lit (.int k i)) (a.eval x)) (h2:Rel S w (.lit (.int k j)) (a.eval y)) (hx:X w):Does n P o a w (YC S X (.bool (decide (i<j))) w):=
 Zb0 True.intro (Qf ..) (by simp[binOp,Op.intCmp]) hop h1 h2 hx
theorem r_leq {k:IntKind} {i j:Int} (hop:o.op= .binOp .leq t x y u) (h1:Rel S w (.lit (.int k i)) (a.eval x)) (h2:Rel S w (.lit (.int k j)) (a.eval y)) (hx:X w):Does n P o a w (YC S X (.bool (decide (i≤j))) w):=
 Zb0 True.intro (Qf ..) (by simp[binOp,Op.intCmp]) hop h1 h2 hx
theorem r_gtr {k:IntKind} {i j:Int} (hop:o.op= .binOp .gtr t x y u) (h1:Rel S w (.lit (.int k i)) (a.eval x)) (h2:Rel S w (.lit (.int k j)) (a.eval y)) (hx:X w):Does n P o a w (YC S X (.bool (decide (j<i))) w):=
 Zb0 True.intro (Qf ..) (by simp[binOp,Op.intCmp]) hop h1 h2 hx
theorem r_geq {k:IntKind} {i j:Int} (hop:o.op= .binOp .geq t x y u) (h1:Rel S w (.lit (.int k i)) (a.eval x)) (h2:Rel S w (.lit (.int k j)) (a.eval y)) (hx:X w):Does n P o a w (YC S X (.bool (decide (j≤i))) w):=
 Zb0 True.intro (Qf ..) (by simp[binOp,Op.intCmp]) hop h1 h2 hx
theorem r_eql {k:IntKind} {i j:Int} (hop:o.op= .binOp .eql t x y u) (h1:Rel S w (.lit (.int k i)) (a.eval x)) (h2:Rel S w (.lit (.int k j)) (a.eval y)) (hx:X w):Does n P o a w (YC S X (.bool (decide (i=j))) w):=
 Zb0 True.intro (Qf ..) (by simp[binOp,Op.intCmp];rfl) hop h1 h2 hx
theorem r_neq {k:IntKind} {i j:Int} (hop:o.op= .binOp .neq t x y u) (h1:Rel S w (.lit (.int k i)) (a.eval x)) (h2:Rel S w (.lit (.int k j)) (a.eval y)) (hx:X w):Does n P o a w (YC S X (.bool (!decide (i=j))) w):=
 Zb0 True.intro (Qf ..) (by simp[binOp,Op.intCmp];rfl) hop h1 h2 hx
theorem Znc {i j:Int} (hop:o.op= .binOp .add t x y u) (h1:Rel S w (.int i) (a.eval x)) (h2:Rel S w (.int j) (a.eval y)) (hlo: -9223372036854775808≤i+j) (hhi:i+j≤9223372036854775807) (hx:X w):Does n P o a w (YC S X (.int (i+j)) w):=
 Zb0 True.intro (Qf ..) (by simp only[binOp,ne_eq,not_true,if_false,Op.intArith,IntWalk.i64_in _ ⟨hlo,hhi⟩];rfl) hop h1 h2 hx
theorem Zv0 {i j:Int} (hop:o.op= .binOp .sub t x y u) (h1:Rel S w (.int i) (a.eval x)) (h2:Rel S w (.int j) (a.eval y)) (hlo: -9223372036854775808≤i-j) (hhi:i-j≤9223372036854775807) (hx:X w):Does n P o a w (YC S X (.int (i-j)) w):=
 Zb0 True.intro (Qf ..) (by simp only[binOp,ne_eq,not_true,if_false,Op.intArith,IntWalk.i64_in _ ⟨hlo,hhi⟩];rfl) hop h1 h2 hx
theorem QW (a b:BA):(a.toList==b.toList)=decide (a=b):=by
 by_cases h:a=b
 · subst h;simp
 · simp only[h,decide_false]
   rw[beq_eq_false_iff_ne]
   intro e
   apply h
   rw[ByteArray.toList_eq,ByteArray.toList_eq]at e
   exact ByteArray.ext (Array.toList_inj.1 e)
theorem r_eqlS {i j:BA} (hop:o.op= .binOp .eql t x y u) (h1:Rel S w (.str i) (a.eval x)) (h2:Rel S w (.str j) (a.eval y)) (hx:X w):Does n P o a w (YC S X (.bool (decide (i=j))) w):=
 Zb0 True.intro (ZaT ..) (by simp only[binOp,Op.stringOp,QW];rfl) hop h1 h2 hx
theorem r_neqS {i j:BA} (hop:o.op= .binOp .neq t x y u) (h1:Rel S w (.str i) (a.eval x)) (h2:Rel S w (.str j) (a.eval y)) (hx:X w):Does n P o a w (YC S X (.bool (!decide (i=j))) w):=
 Zb0 True.intro (ZaT ..) (by simp only[binOp,Op.stringOp,QW];rfl) hop h1 h2 hx
theorem r_lssS {i j:BA} (hop:o.op= .binOp .lss t x y u) (h1:Rel S w (.str i) (a.eval x)) (h2:Rel S w (.str j) (a.eval y)) (hx:X w):Does n P o a w (YC S X (.bool (Op.bytesLess i.toList j.toList)) w):=
 Zb0 True.intro (ZaT ..) (by simp only[binOp,Op.stringOp];rfl) hop h1 h2 hx
theorem r_geqS {i j:BA} (hop:o.op= .binOp .geq t x y u) (h1:Rel S w (.str i) (a.eval x)) (h2:Rel S w (.str j) (a.eval y)) (hx:X w):Does n P o a w (YC S X (.bool (!Op.bytesLess i.toList j.toList)) w):=
 Zb0 True.intro (ZaT ..) (by simp only[binOp,Op.stringOp];rfl) hop h1 h2 hx
theorem r_idxS {s:BA} {i:Int} {b:UInt8} (ht:P.underlying t=some .string) (hop:o.op= .index t x y) (h1:Rel S w (.str s) (a.eval x)) (h2:Rel S w (.int i) (a.eval y)) (h0:0≤i) (hb:s.data.toList[i.toNat]?=some b) (hx:X w):Does n P o a w (YC S X (.lit (.int .u8 b.toNat)) w):=by
 refine Zr (v:=.int .u8 b.toNat) ?_ (Rel.of_lit _) hx
 have hb':s[i.toNat]?=some b:=by
  obtain⟨hlt,hv⟩:=List.getElem?_eq_some_iff.1 hb
  have:i.toNat<s.size:=by simpa using hlt
  rw[getElem?_pos s i.toNat this]
  exact congrArg some hv
 simp[execOp,hop,h1.lit,h2.lit,Instr.index,asIntOf,Sem.run_bind,run_underlying ht,h0,hb']
end

section
variable {n:Rn} {P:Program} {K S:Nat→Prop} {w0:World} {N:Nat} {env:List (Nat×AV)} {X:WP}
theorem St.get {a:Act} {w:World} (h:St K S w0 N env X a w) (m:Nat) {s:Nat} {av:AV} (he:env[m]?=some (s,av)):Rel S w av (a.eval (.tmp s)):=(h.env (s,av) (List.mem_of_getElem? he)).2
def Yn (d:Nat) (env:List (Nat×AV)):List (Nat×AV):=env.filter fun p=>p.1 !=d
theorem St.put {a:Act} {w w':World} (h:St K S w0 N env X a w) {d:Nat} (hd:d<N) {v:Value} {av:AV} (hp:YC S X av w v w'):St K S w0 N ((d,av)::Yn d env) X (a.put (some d) v) w' where
 defs:=by rw[ZaN];exact h.defs
 size:=by rw[ZcE];exact h.size
 keep:=h.keep.trans (hp.2.1.sub fun _ _ _=>trivial)
 x:=hp.2.2
 env:=fun p hm=>by
  rcases List.mem_cons.1 hm with rfl | hm
  · exact⟨hd,by rw[XM _ _ _ (by rw[h.size];exact hd)];exact hp.1⟩
  · obtain⟨h1,h2⟩:=List.mem_filter.1 hm
    obtain⟨h3,h4⟩:=h.env p h1
    refine⟨h3,?_⟩
    rw[YB _ _ _ _ (fun e=>by cases e;simp at h2)]
    exact h4.on hp.2.1
theorem sq {ops:Array Oper} {Q:Exit→Act→WP} {o:Oper} {rest:List Oper} {d:Nat} (av:AV) (hg:o.guard=none) (hd:o.dst=some d) (hN:d<N)
 (ob:∀ a w,St K S w0 N env X a w→Does n P o a w (YC S X av w)) (next:∀ a w,St K S w0 N ((d,av)::Yn d env) X a w→wpListIn n.F n.d P ops Q rest a w):
 ∀ a w,St K S w0 N env X a w→wpListIn n.F n.d P ops Q (o::rest) a w:=fun a w h=>by
 refine wpListIn_plain hg fun K' hK=>?_
 refine ob a w h K' Q fun v w' hp=>?_
 rw[hd]
 exact hK _ _ (next _ _ (h.put hN hp))
theorem sy {ops:Array Oper} {Q:Exit→Act→WP} {o:Oper} {rest:List Oper} {d:Nat} (av:AV) (ob:∀ {a w},St K S w0 N env X a w→Does n P o a w (YC S X av w)) (next:∀ a w,St K S w0 N ((d,av)::Yn d env) X a w→wpListIn n.F n.d P ops Q rest a w)
 (hg:o.guard=none:=by exact rfl) (hd:o.dst=some d:=by exact rfl) (hN:d<N:=by exact Nat.le_of_ble_eq_true rfl):∀ a w,St K S w0 N env X a w→wpListIn n.F n.d P ops Q (o::rest) a w:=sq av hg hd hN (fun _ _ h=>ob h) next
theorem sq_end {ops:Array Oper} {Q:Exit→Act→WP} (h:∀ a w,St K S w0 N env X a w→Q .normal a w):∀ a w,St K S w0 N env X a w→wpListIn n.F n.d P ops Q [] a w:=fun a w hs=>wpListIn_nil (h a w hs)

variable {Q:Exit→Act→WP}
def Tr (n:Rn) (P:Program) (A:Act→WP) (c:Code) (Q:Exit→Act→WP):Prop:=∀ a w,A a w→c.wpIn n.F n.d P Q a w
variable {A B:Act→WP}
theorem YS {c:Code} (h:Tr n P B c Q) (hAB:∀ a w,A a w→B a w):Tr n P A c Q:=fun a w ha=>h a w (hAB a w ha)
theorem ZO {id:Nat} {l:List Oper} (h:∀ a w,A a w→wpListIn n.F n.d P l.toArray Q l a w):Tr n P A (.region id l.toArray false) Q:=fun a w ha=>wpIn_region_lit (h a w ha)
theorem Zb (h:∀ a w,A a w→Q .normal a w):Tr n P A .skip Q:=fun a w ha=>wpIn_skip (h a w ha)
theorem Zu {id:Nat} (h:∀ a w,A a w→Q (.exit id) a w):Tr n P A (.exit id) Q:=fun a w ha=>wpIn_exit (h a w ha)
theorem Zs (h:∀ a w,A a w→Q .ret a w):Tr n P A .ret Q:=fun a w ha=>wpIn_ret (h a w ha)
theorem Zd {id:Nat} {c:Code} (h:Tr n P A c (Exit.inBlock id Q)):Tr n P A (.block id c) Q:=fun a w ha=>wpIn_block (h a w ha)
theorem Zoj {c:Operand} {x y:Code} {s m:Nat} (g:Bool) (he:env[m]?=some (s,.bool g)) (hc:c= .tmp s) (ht:g=true→Tr n P (St K S w0 N env X) x Q) (hf:g=false→Tr n P (St K S w0 N env X) y Q):Tr n P (St K S w0 N env X) (.cond c x y) Q:=fun a w ha=>
 wpIn_cond_split (t:=g) (by rw[hc];exact(ha.get m he).lit) (fun h=>ht h a w ha) fun h=>hf h a w ha
theorem ZwG (p:Nat→Prop) (h:∃ k,p k):∃ m,p m∧∀ k,p k→m≤k:=by
 classical
 obtain⟨k,hk⟩:=h
 induction k using Nat.strongRecOn with
 | ind k ih=>
  by_cases hx:∃ j,j<k∧p j
  · obtain⟨j,hj,hp⟩:=hx
    exact ih j hj hp
  · exact⟨k,hk,fun j hj=>Nat.le_of_not_lt fun hlt=>hx ⟨j,hlt,hj⟩⟩
theorem Zoi {ι:Type} {c:Code} (I:ι→Act→WP) (μ:ι→Nat) (h0:∀ a w,A a w→∃ i,I i a w) (h:∀ i,Tr n P (I i) c (Exit.then (fun a w=>∃ j,I j a w∧μ j<μ i) Q)):Tr n P A (.loop c) Q:=fun a w ha=>by
 classical
 have hex:=h0 a w ha
 let p:Act→World→Nat→Prop:=fun a w k=>∃ i,I i a w∧μ i=k
 let m:Act→World→Nat:=fun a w=>if hx:∃ k,p a w k then Classical.choose (ZwG (p a w) hx)else 0
 have hm:∀ a w,(∃ i,I i a w)→∃ i,I i a w∧μ i=m a w:=fun a w ⟨i,hi⟩=>by
  have hx:∃ k,p a w k:=⟨_,i,hi,rfl⟩
  have:=(Classical.choose_spec (ZwG (p a w) hx)).1
  simp only[m,dif_pos hx]
  exact this
 have hle:∀ a w i,I i a w→m a w≤μ i:=fun a w i hi=>by
  have hx:∃ k,p a w k:=⟨_,i,hi,rfl⟩
  have:=(Classical.choose_spec (ZwG (p a w) hx)).2 (μ i) ⟨i,hi,rfl⟩
  simp only[m,dif_pos hx]
  exact this
 refine wpIn_loop (fun a w=>∃ i,I i a w) m hex fun a w hi=>?_
 obtain⟨i,hi,hmin⟩:=hm a w hi
 refine wpIn_mono (h i a w hi) fun e a' w' hq=>?_
 cases e with
 | normal=>
  obtain⟨j,hj,hlt⟩:=hq
  exact⟨⟨j,hj⟩,Nat.lt_of_le_of_lt (hle a' w' j hj) (by rw[←hmin];exact hlt)⟩
 | _=>exact hq

def Fn (P:Program) (J:WP) (f:FuncId) (args:List AV) (res:AV):Prop:=
 ∀(S:Nat→Prop) (w:World) (vs:List Value),(∀ b,w.heap.size≤b→S b)→J w→RelL S w args vs→Calls P f vs.toArray w fun e w'=>∃ v,e= .returned v∧Rel S w' res v∧Keeps All w w'∧J w'
theorem ZaL {S:Nat→Prop} {X J:WP} {o:Oper} {a:Act} {w:World} {f:FuncId} {args:List Operand} {ts:Array TypeId} {avs:List AV} {av:AV} (hF:Fn P J f avs av) (h1:Zi P f) (hop:o.op= .call { callee:=.value (.func f),args:=args.toArray,argTypes:=ts })
 (hS:∀ b,w.heap.size≤b→S b) (hJ:J w) (ha:RelL S w avs (args.map a.eval)) (hx:∀ w',Keeps All w w'→X w'):Does n P o a w (YC S X av w):=by
 refine Zlq h1 hop ?_
 have:=hF S w _ hS hJ ha
 rw[List.map_toArray]
 exact Calls.mono this fun e w' ⟨v,h1,h2,h3,_⟩=>⟨v,h1,h2,h3,hx w' h3⟩
def Y2 {α:Type}:Nat→List α→List (Nat×α)
 | _,[]=>[]
 | i,x::r=>(i,x)::Y2 (i+1) r
theorem Zs1 {J:WP} {f:FuncId} {fn:Func} {c:Code} {args:List AV} {res:AV} (hf:P.funcs[f]?=some fn) (hb:fn.body=some c) (hN:fn.ntmps=N) (hl:args.length≤N)
 (h:∀(S:Nat→Prop) (w0:World),(∀ b,w0.heap.size≤b→S b)→J w0→Tr 5 P (St All S w0 N (Y2 0 args) J) c (bodyPost P fn fun e w'=>∃ v,e= .returned v∧Rel S w' res v∧Keeps All w0 w'∧J w')):Fn P J f args res:=by
 intro S w vs hS hJ ha
 refine(callsIn_wide (n:=5)).1 (callsIn_of_wp hf hb trivial (h S w hS hJ _ _ ?_) rfl)
 have hlen:vs.length=args.length:=by
  clear h hl
  induction args generalizing vs with
  | nil=>simp only[RelL]at ha;subst ha;rfl
  | cons a l ih=>simp only[RelL]at ha;obtain⟨u,us',rfl,_,h2⟩:=ha;simp[ih us' h2]
 have hsz:(vs.toArray++Array.replicate (fn.ntmps-vs.toArray.size) undef).size=N:=by
  simp;omega
 refine⟨rfl,hsz,Keeps.refl _ _,hJ,?_⟩
 have key:∀(args:List AV) (us pre:List Value) (i:Nat),pre.length=i→vs=pre++us→RelL S w args us→∀ p∈Y2 i args,p.1<N∧Rel S w p.2 ((vs.toArray++Array.replicate (fn.ntmps-vs.toArray.size) undef).getD p.1 undef):=by
  intro args
  induction args with
  | nil=>intro us pre i _ _ _ p hp;cases hp
  | cons x l ih=>
   intro us pre i hi hv hr p hp
   simp only[RelL]at hr
   obtain⟨u,us',rfl,h1,h2⟩:=hr
   rcases List.mem_cons.1 hp with rfl | hp
   · have hlt:i<vs.length:=by rw[hv];simp;omega
     refine⟨oz,?_⟩
     have:(vs.toArray++Array.replicate (fn.ntmps-vs.toArray.size) undef).getD i undef=u:=by
      rw[Array.getD_eq_getD_getElem?,Array.getElem?_append_left (by simpa using hlt)]
      simp[hv,←hi]
     rw[this];exact h1
   · exact ih us' (pre++[u]) (i+1) (by simp[hi]) (by simp[hv]) h2 p hp
 exact key args vs [] 0 rfl rfl ha
theorem fE {J:WP} {f:FuncId} {fn:Func} {c:Code} {args:List AV} {res:AV} (hf:P.funcs[f]?=some fn)
 (h:∀(S:Nat→Prop) (w0:World),(∀ b,w0.heap.size≤b→S b)→J w0→Tr 5 P (St All S w0 N (Y2 0 args) J) c (bodyPost P fn fun e w'=>∃ v,e= .returned v∧Rel S w' res v∧Keeps All w0 w'∧J w')) (hb:fn.body=some c:=by exact rfl) (hN:fn.ntmps=N:=by exact rfl) (hl:args.length≤N:=by exact Nat.le_of_ble_eq_true rfl):Fn P J f args res:=Zs1 hf hb hN hl h
theorem leave1 {J:WP} {fn:Func} {t m:Nat} {res:AV} {a:Act} {w:World} (hr:fn.results= #[.tmp t]) (h:St All S w0 N env J a w) (he:env[m]?=some (t,res)):bodyPost P fn (fun e w'=>∃ v,e= .returned v∧Rel S w' res v∧Keeps All w0 w'∧J w') .ret a w:=
 ⟨h.defs,a.tmps.getD t undef,by simp[results,hr,Sem.run_pure],_,rfl,h.get m he,h.keep,h.x⟩
theorem leave2 {J:WP} {fn:Func} {t u m k:Nat} {r1 r2:AV} {a:Act} {w:World} (hr:fn.results= #[.tmp t,.tmp u]) (h:St All S w0 N env J a w) (he:env[m]?=some (t,r1)) (he2:env[k]?=some (u,r2)):bodyPost P fn (fun e w'=>∃ v,e= .returned v∧Rel S w' (.tup [r1,r2]) v∧Keeps All w0 w'∧J w') .ret a w:=
 ⟨h.defs,.tuple #[a.tmps.getD t undef,a.tmps.getD u undef],by simp[results,hr,Sem.run_pure],_,rfl,by simp only[Rel,RelL];exact⟨_,rfl,_,_,rfl,h.get m he,_,_,rfl,h.get k he2,rfl⟩,h.keep,h.x⟩
end
def ge {α:Type} [Inhabited α] (xs:List α) (k:Nat):α:=xs.getD k default
theorem Yj {α:Type} [Inhabited α] {xs:List α} {k:Nat} (h:k<xs.length):ge xs k=xs[k]:=by simp[ge,List.getD,h]
theorem ZeX {α:Type} [Inhabited α] {xs:List α} {k:Nat} (h:k<xs.length):xs[k]?=some (ge xs k):=by rw[Yj h,List.getElem?_eq_getElem h]
theorem Zp {α:Type} [Inhabited α] {xs:List α} {k:Nat} (h:k<xs.length):ge xs k∈xs:=by rw[Yj h];exact List.getElem_mem h
theorem Xc {α:Type} [Inhabited α] {xs:List α} {x:α} (h:x∈xs):∃ k,k<xs.length∧ge xs k=x:=by
 obtain⟨k,hk,rfl⟩:=List.getElem_of_mem h
 exact⟨k,hk,Yj hk⟩
theorem ZZ {α:Type} [Inhabited α] {xs:List α} {k:Nat} (h:k<xs.length):xs.take (k+1)=xs.take k++[ge xs k]:=by rw[List.take_succ_eq_append_getElem h,Yj h]
theorem ZaY {α:Type} [Inhabited α] {xs ys:List α} (h1:xs.length=ys.length) (h2:∀ j,j<xs.length→ge xs j=ge ys j):xs=ys:=
 List.ext_getElem h1 fun i a b=>by have:=h2 i a;rwa [Yj a,Yj b]at this
theorem ZT {α:Type} [Inhabited α] {f:α→List CD} {xs:List α} {k:Nat} (h:k<xs.length):(xs.map f)[((k:Nat):Int).toNat]?=some (f (ge xs k)):=by
 rw[Int.toNat_natCast,List.getElem?_map,ZeX h];rfl
theorem Zda {α:Type} [Inhabited α] {f:α→List CD} {xs:List α} {i:Int} (h0:0≤i) (h:i< (xs.length:Int)):(xs.map f)[i.toNat]?=some (f (ge xs i.toNat)):=by
 rw[List.getElem?_map,ZeX oz];rfl
section
variable {n:Rn} {P:Program} {S:Nat→Prop} {X:WP} {o:Oper} {a:Act} {w:World} {x y z:Operand} {t u e:TypeId}
theorem Qw {α:Type} {f:α→List CD} {xs:List α} (h1:P.underlying t=some (.slice e)) (hop:o.op= .call { callee:=.builtin .len,args:= #[x],argTypes:= #[t] }) (h:Rel S w (.rd (.sl (xs.map f))) (a.eval x)) (hx:X w):
 Does n P o a w (YC S X (.int xs.length) w):=by
 have:=r_len (n:=n) h1 hop h hx
 rwa [List.length_map]at this
theorem r_and {g b:Bool} (hop:o.op= .pick z x (.const (.bool false))) (hc:Rel S w (.bool g) (a.eval z)) (ht:g=true→Rel S w (.bool b) (a.eval x)) (hx:X w):Does n P o a w (YC S X (.bool (g&&b)) w):=by
 refine ZuH hop hc (fun hg=>?_) (fun hg=>?_) hx
 · have:=ht hg;rw[hg];exact this
 · rw[hg];exact Rel.of_lit _
theorem r_or {g b:Bool} (hop:o.op= .pick z (.const (.bool true)) y) (hc:Rel S w (.bool g) (a.eval z)) (hf:g=false→Rel S w (.bool b) (a.eval y)) (hx:X w):Does n P o a w (YC S X (.bool (g||b)) w):=by
 refine ZuH hop hc (fun hg=>?_) (fun hg=>?_) hx
 · rw[hg];exact Rel.of_lit _
 · have:=hf hg;rw[hg];exact this
theorem r_eqlB {g b:Bool} (ht:P.underlying t=some .bool) (hop:o.op= .binOp .eql t x y u) (h1:Rel S w (.bool g) (a.eval x)) (h2:Rel S w (.bool b) (a.eval y)) (hx:X w):Does n P o a w (YC S X (.bool (g==b)) w):=by
 refine Zb0 True.intro (Znq ..) ?_ hop h1 h2 hx
 simp only[binOp,Op.equal,Op.maxDepth,Sem.run_bind]
 have:(Op.equalIn 10000 t (.bool g) (.bool b)).run P w= .ok (g==b) w:=by
  show(Op.equalIn (9999+1) t (.bool g) (.bool b)).run P w=_
  unfold Op.equalIn
  simp[Sem.run_bind,run_underlying ht]
 rw[this]
 rfl
def Zre (P:Program) (t:TypeId):Prop:=∀(a b c d:BA) (w:World) (x y:Operand),(eqGuard .eql t x y (.agg #[.string a,.string b]) (.agg #[.string c,.string d])).run P w= .ok () w∧(eqGuard .neq t x y (.agg #[.string a,.string b]) (.agg #[.string c,.string d])).run P w= .ok () w∧
 (Op.equal t (.agg #[.string a,.string b]) (.agg #[.string c,.string d])).run P w= .ok (decide (a=c)&&decide (b=d)) w
theorem ZhC {c d:BA} {v:Value} (h:Rel S w (.agg [.lit (.string c),.lit (.string d)]) v):v= .agg #[.string c,.string d]:=by
 simp only[Rel]at h
 obtain⟨us,rfl,hr⟩:=h
 match us,hr with
 | [p,q],hr=>
  obtain rfl:=hr.1.of_lit
  obtain rfl:=hr.2.1.of_lit
  rfl
theorem r_eqlP {c d c' d':BA} (ht:Zre P t) (hop:o.op= .binOp .eql t x y u) (h1:Rel S w (.agg [.lit (.string c),.lit (.string d)]) (a.eval x)) (h2:Rel S w (.agg [.lit (.string c'),.lit (.string d')]) (a.eval y)) (hx:X w):
 Does n P o a w (YC S X (.bool (decide (c=c')&&decide (d=d'))) w):=by
 obtain⟨g1,_,g3⟩:=ht c d c' d' w x y
 refine Zr (v:=.bool (decide (c=c')&&decide (d=d'))) ?_ (Rel.of_lit _) hx
 rw[execOp,hop]
 simp only[ZhC h1,ZhC h2,Sem.run_bind,g1,Result.andThen_ok,binOp,g3]
 rfl
theorem ZuI {c d c' d':BA} (ht:Zre P t) (hop:o.op= .binOp .neq t x y u) (h1:Rel S w (.agg [.lit (.string c),.lit (.string d)]) (a.eval x)) (h2:Rel S w (.agg [.lit (.string c'),.lit (.string d')]) (a.eval y)) (hx:X w):
 Does n P o a w (YC S X (.bool (!(decide (c=c')&&decide (d=d')))) w):=by
 obtain⟨_,g1,g3⟩:=ht c d c' d' w x y
 refine Zr (v:=.bool (!(decide (c=c')&&decide (d=d')))) ?_ (Rel.of_lit _) hx
 rw[execOp,hop]
 simp only[ZhC h1,ZhC h2,Sem.run_bind,g1,Result.andThen_ok,binOp,g3]
 rfl
theorem ZgX {v:Value} (h:Rel S w (.lit (.slice none 0 0)) v):Rel S w (.rd (.sl [])) v:=by
 rw[h.lit];simp only[Rel];exact .nil _ _ nzl
theorem Zv1 {k:Nat} {rows:List (List CD)} {v1 v2:Option Operand} {lo hi:Nat} (h1:Yp P t e k) (hk:∀ r∈rows,r.length=k) (hop:o.op= .slice t x v1 v2 none) (h:Rel S w (.rd (.sl rows)) (a.eval x))
 (hl:match v1 with | some q=>Rel S w (.int lo) (a.eval q) | none=>lo=0) (hh:match v2 with | some q=>Rel S w (.int hi) (a.eval q) | none=>hi=rows.length) (h2:lo≤hi) (h3:hi≤rows.length) (hx:X w):
 Does n P o a w (YC S X (.rd (.sl ((rows.take hi).drop lo))) w):=by
 simp only[Rel]at h
 obtain⟨ad,cap,hv,hlc,hcm⟩:=h.form
 have hrun:(execOp a.eval o).run P w= .ok (.value (.slice (if cap=lo then ad else ad.map (·.add (lo*k))) (hi-lo) (cap-lo))) w:=by
  have e1:∀ q,v1=some q→a.eval q= .int .i64 lo:=fun q hq=>by subst hq;exact hl.lit
  have e2:∀ q,v2=some q→a.eval q= .int .i64 hi:=fun q hq=>by subst hq;exact hh.lit
  have g2:hi≤cap:=by omega
  rw[execOp,hop]
  cases v1 with
  | none=>
   simp only at hl
   subst hl
   cases v2 with
   | none=>
    simp only at hh
    subst hh
    simp[hv,Instr.sliceAt,Instr.slice,Instr.sliceBounds,Sem.run_bind,run_underlying h1.1,h1.2 w]
   | some q2=>
    simp[hv,e2 q2 rfl,Instr.sliceAt,Instr.slice,Instr.sliceBounds,Instr.sliceBound,asIntOf,Sem.run_bind,run_underlying h1.1,h1.2 w,g2]
  | some q1=>
   cases v2 with
   | none=>
    simp only at hh
    subst hh
    simp[hv,e1 q1 rfl,Instr.sliceAt,Instr.slice,Instr.sliceBounds,Instr.sliceBound,asIntOf,Sem.run_bind,run_underlying h1.1,h1.2 w,h2]
   | some q2=>
    simp[hv,e1 q1 rfl,e2 q2 rfl,Instr.sliceAt,Instr.slice,Instr.sliceBounds,Instr.sliceBound,asIntOf,Sem.run_bind,run_underlying h1.1,h1.2 w,h2,g2]
 refine Zr hrun ?_ hx
 simp only[Rel]
 have hlen:((rows.take hi).drop lo).length=hi-lo:=by rw[List.length_drop,List.length_take];omega
 by_cases h0:hi=lo
 · have:(rows.take hi).drop lo=[]:=List.eq_nil_of_length_eq_zero oz
   rw[this,h0,Nat.sub_self]
   exact .nil _ _ oz
 · rw[if_neg oz]
   rw[hv]at h
   have hr0:0<rows.length:=by omega
   obtain⟨b,off,rfl,_⟩:=h.at (List.getElem?_eq_getElem hr0)
   have hadd:(⟨b,off,none⟩:Addr).add (lo*k)=⟨b,off+lo*k,none⟩:=by
    unfold Addr.add
    split
    · rename_i h;rw[h];rfl
    · rfl
   simp only[Option.map_some,hadd]
   exact h.part hk h2 h3 hr0
theorem Zbe {α:Type} {f:α→List CD} {k:Nat} (hf:∀ x,(f x).length=k) {xs:List α}:∀ r∈xs.map f,r.length=k:=fun r hr=>by
 obtain⟨x,_,rfl⟩:=List.mem_map.1 hr
 exact hf x
theorem ZrK {α:Type} {f:α→List CD} {xs:List α} {k:Nat} {v1 v2:Option Operand} {lo hi:Nat} (h1:Yp P t e k) (hf:∀ x,(f x).length=k) (hop:o.op= .slice t x v1 v2 none) (h:Rel S w (.rd (.sl (xs.map f))) (a.eval x))
 (hl:match v1 with | some q=>Rel S w (.int lo) (a.eval q) | none=>lo=0) (hh:match v2 with | some q=>Rel S w (.int hi) (a.eval q) | none=>hi=xs.length) (h2:lo≤hi) (h3:hi≤xs.length) (hx:X w):
 Does n P o a w (YC S X (.rd (.sl (((xs.take hi).drop lo).map f))) w):=by
 have:=Zv1 (n:=n) h1 (Zbe hf) hop h hl (by cases v2<;>simp_all) h2 (by simpa using h3) hx
 rwa [←List.map_take,←List.map_drop]at this
end
section
variable {n:Rn} {N:Nat} {P:Program} {K S:Nat→Prop} {w0:World} {env:List (Nat×AV)} {X J:WP} {Q:Exit→Act→WP} {A:Act→WP}
theorem Zf {x y:Code} (h:Tr n P A x (Exit.then (fun a w=>y.wpIn n.F n.d P Q a w) Q)):Tr n P A (.seq x y) Q:=fun a w ha=>wpIn_seq (h a w ha)
theorem Zuw {F:Prop} {c:Code} (h:F→Tr n P A c Q):Tr n P (fun a w=>F∧A a w) c Q:=fun a w ha=>h ha.1 a w ha.2
theorem ZjG {F:Prop} {c:Code} (hf:∀ a w,A a w→F) (h:F→Tr n P A c Q):Tr n P A c Q:=fun a w ha=>h (hf a w ha) a w ha
theorem ZpJ {α:Type} {f:α→List CD} {xs:List α} {s:Nat} {a:Act} {w:World} (h:St K S w0 N env X a w) (m:Nat) (he:env[m]?=some (s,.rd (.sl (xs.map f)))):xs.length≤9223372036854775807:=by
 have h1:=h.get m he
 simp only[Rel]at h1
 obtain⟨ad,cap,_,h2,h3⟩:=h1.form
 rw[List.length_map]at h2
 simp only[maxLen]at h3
 omega
theorem Xx {s m:Nat} {a:Act} {w:World} (h:St K S w0 N env X a w) (he:env[m]?=some (s,.lit (.slice none 0 0))):St K S w0 N ((s,.rd (.sl []))::Yn s env) X a w:=
 ⟨h.defs,h.size,h.keep,h.x,fun p hp=>by
  rcases List.mem_cons.1 hp with rfl | hp
  · exact⟨(h.env _ (List.mem_of_getElem? he)).1,ZgX (h.get m he)⟩
  · exact h.env p (List.mem_filter.1 hp).1⟩
theorem str_le {x:BA} {s:Nat} {a:Act} {w:World} (h:St K S w0 N env X a w) (m:Nat) (he:env[m]?=some (s,.str x)):x.size≤9223372036854775807:=(h.get m he).okl
theorem ZpL {fn:Func} {t m:Nat} {av res:AV} {a:Act} {w:World} (hr:fn.results= #[.tmp t]) (h:St All S w0 N env J a w) (he:env[m]?=some (t,av)) (hE:av=res):bodyPost P fn (fun e w'=>∃ v,e= .returned v∧Rel S w' res v∧Keeps All w0 w'∧J w') .ret a w:=by
 subst hE;exact leave1 hr h he
theorem Yz {fn:Func} {t u m k:Nat} {a1 a2 r1 r2:AV} {a:Act} {w:World} (hr:fn.results= #[.tmp t,.tmp u]) (h:St All S w0 N env J a w) (he:env[m]?=some (t,a1)) (he2:env[k]?=some (u,a2)) (hE:a1=r1) (hE2:a2=r2):bodyPost P fn (fun e w'=>∃ v,e= .returned v∧Rel S w' (.tup [r1,r2]) v∧Keeps All w0 w'∧J w') .ret a w:=by
 subst hE;subst hE2;exact leave2 hr h he he2
def Stab (J:WP):Prop:=∀ w w',Keeps All w w'→J w→J w'
theorem Stab.drew (h:Stab J):∀ w,J w→J w.drew:=fun w hw=>h w w.drew ((Keeps.refl _ _).drew) hw
theorem Zc {w:World}:RelL S w [] []:=by simp only[RelL]
theorem Za {w:World} {a:AV} {l:List AV} {u:Value} {us:List Value} (h:Rel S w a u) (k:RelL S w l us):RelL S w (a::l) (u::us):=by simp only[RelL];exact⟨u,us,rfl,h,k⟩
theorem Zuf {s:BA} {k:Nat} (h:k<s.size):s.data.toList[((k:Nat):Int).toNat]?=some (ge s.data.toList k):=by
 rw[Int.toNat_natCast];exact ZeX (by simpa using h)
end
theorem sfz {P:Prop} (h:P:=by first | omega | (simp;omega) | grind[Zp]):P:=h
def Zjz (P:Program) (t e:TypeId) (size bytes:Nat):Prop:=
 P.underlying t=some (.slice e)∧(∃ i z,P.info? e=some i∧i.zero=some z∧i.size=size∧i.bytes=bytes∧z.cells.size=size)∧0<size∧∀ w,(sizeOf e).run P w= .ok size w
structure OB where
 blk:Nat→Prop
 inv:Nat→(Nat→Prop)→WP
 mv:∀ {lo:Nat} {S S' T:Nat→Prop} {w w':World},inv lo S w→Keeps T w w'→(∀ k,blk k→T k)→(∀ k,k<w.heap.size→S k→T k∧S' k)→inv lo S' w'
 lt:∀ {lo:Nat} {S:Nat→Prop} {w:World},inv lo S w→∀ k,blk k→lo≤k∧k<w.heap.size
theorem Keeps.ownsRow {S:Nat→Prop} {w w':World} {lo:Nat} {e:TypeId} {size n:Nat} {v:Value} {xs:List Value} (h:w.ownsRow lo e size v n xs) (hk:Keeps S w w') (hs:∀ k,v.ownBlock=some k→S k):w'.ownsRow lo e size v n xs:=by
 refine⟨h.1,?_⟩
 rcases h.2 with hn | ⟨g,cap,cur,rfl,hb,hg,rest⟩
 · exact .inl hn
 · exact .inr ⟨g,cap,cur,rfl,hb,(hk.block g (Array.getElem?_eq_some_iff.1 hg).1 (hs g rfl)).trans hg,rest⟩
def OB.row (v:Value) (e:TypeId) (size:Nat) (rows:List (List CD)):OB where
 blk:=fun k=>v.ownBlock=some k
 inv:=fun lo S w=>∃ us,w.ownsRow lo e size v rows.length us∧RdL S w rows.flatten us∧∀ r∈rows,r.length=size
 mv:=fun⟨us,h1,h2,h3⟩ hk hb hs=>⟨us,Keeps.ownsRow h1 hk hb,h2.move hk hs,h3⟩
 lt:=fun⟨_,h1,_,_⟩ k hk=>h1.lt k hk
def SO (S:Nat→Prop) (O:List OB):Nat→Prop:=fun b=>S b∧∀ o∈O,¬ o.blk b
def XO (J:WP) (S:Nat→Prop) (lo:Nat) (O:List OB) (w:World):Prop:=
 J w∧(∀ o∈O,o.inv lo (SO S O) w)∧O.Pairwise fun a b=>∀ k,a.blk k→¬ b.blk k
@[reducible] def So (J:WP) (S:Nat→Prop) (w0:World) (N:Nat) (O:List OB) (env:List (Nat×AV)):Act→WP:=St All (SO S O) w0 N env (XO J S w0.heap.size O)
theorem SO.drop {S:Nat→Prop} {o:OB} {O:List OB} {b:Nat} (h:SO S (o::O) b):SO S O b:=⟨h.1,fun p hp=>h.2 p (List.mem_cons_of_mem _ hp)⟩
section
variable {J:WP} {S:Nat→Prop} {lo:Nat} {O:List OB}
theorem OB.sub {o:OB} {S T:Nat→Prop} {w:World} (h:o.inv lo S w) (hs:∀ k,k<w.heap.size→S k→T k):o.inv lo T w:=o.mv h (Keeps.refl All w) (fun _ _=>trivial) fun k hk h=>⟨trivial,hs k hk h⟩
theorem Yw (hJ:Stab J):Stab (XO J S lo O):=fun w w' hk h=>
 ⟨hJ w w' hk h.1,fun o ho=>o.mv (h.2.1 o ho) hk (fun _ _=>trivial) fun _ _ h=>⟨trivial,h⟩,h.2.2⟩
theorem Zk {w0:World} (hS:∀ b,w0.heap.size≤b→S b):∀ w,Keeps All w0 w→XO J S w0.heap.size O w→∀ b,w.heap.size≤b→SO S O b:=fun w hk h b hb=>
 ⟨hS b (Nat.le_trans hk.size hb),fun o ho e=>by
  have:=(o.lt (h.2.1 o ho) b e).2
  omega⟩
theorem ZkQ {w:World} (h:J w):XO J S lo [] w:=⟨h,fun o ho=>(by cases ho),.nil⟩
theorem ZhM {w w':World} {o:OB} (hJ:Stab J) (h:XO J S lo O w) (hk:Keeps All w w') (hb:∀ k,o.blk k→w.heap.size≤k) (hi:o.inv lo (SO S (o::O)) w'):XO J S lo (o::O) w'∧∀ k,k<w.heap.size→SO S O k→SO S (o::O) k:=by
 have hsub:∀ k,k<w.heap.size→SO S O k→SO S (o::O) k:=fun k hlt hk=>⟨hk.1,fun p hp=>by
  rcases List.mem_cons.1 hp with rfl | hp
  · exact fun e=>by have:=hb k e;omega
  · exact hk.2 p hp⟩
 refine⟨⟨hJ w w' hk h.1,fun p hp=>?_,.cons (fun p hp k hk e=>?_) h.2.2⟩,hsub⟩
 · rcases List.mem_cons.1 hp with rfl | hp
   · exact hi
   · exact p.mv (h.2.1 p hp) hk (fun _ _=>trivial) fun k hlt hs=>⟨trivial,hsub k hlt hs⟩
 · have h1:=hb k hk
   have:=(p.lt (h.2.1 p hp) k e).2
   omega
theorem ZhL {w w':World} {o o':OB} (h:XO J S lo (o::O) w) (hJ':J w') (hk:Keeps (fun b=>¬ o.blk b) w w') (hb:∀ k,o'.blk k→o.blk k∨w.heap.size≤k) (hi:o'.inv lo (SO S (o'::O)) w'):
 XO J S lo (o'::O) w'∧∀ k,k<w.heap.size→SO S (o::O) k→(¬ o.blk k)∧SO S (o'::O) k:=by
 have hsub:∀ k,k<w.heap.size→SO S (o::O) k→(¬ o.blk k)∧SO S (o'::O) k:=fun k hlt hk=>⟨hk.2 o yz,hk.1,fun p hp=>by
  rcases List.mem_cons.1 hp with rfl | hp
  · intro e
    rcases hb k e with e | e
    · exact hk.2 o yz e
    · omega
  · exact hk.2 p (List.mem_cons_of_mem _ hp)⟩
 have hpw:=List.pairwise_cons.1 h.2.2
 refine⟨⟨hJ',fun p hp=>?_,.cons (fun p hp k hk e=>?_) hpw.2⟩,hsub⟩
 · rcases List.mem_cons.1 hp with rfl | hp
   · exact hi
   · exact p.mv (h.2.1 p (List.mem_cons_of_mem _ hp)) hk (fun k hk e=>hpw.1 p hp k e hk) hsub
 · rcases hb k hk with e' | e'
   · exact hpw.1 p hp k e' e
   · have:=(p.lt (h.2.1 p (List.mem_cons_of_mem _ hp)) k e).2
     omega
theorem SO.perm {S:Nat→Prop} {O O':List OB} (h:O.Perm O') {b:Nat} (hs:SO S O b):SO S O' b:=⟨hs.1,fun o ho=>hs.2 o (h.mem_iff.2 ho)⟩
theorem YK {w:World} {O':List OB} (hp:O.Perm O') (h:XO J S lo O w):XO J S lo O' w:=
 ⟨h.1,fun o ho=>OB.sub (h.2.1 o (hp.mem_iff.2 ho)) fun _ _ hs=>hs.perm hp,hp.pairwise_iff (fun {_ _} h k hb ha=>h k ha hb) |>.1 h.2.2⟩
theorem ZmI {w:World} (hJ:Stab J) (h:XO J S lo O w) (e:TypeId) (size:Nat):XO J S lo (OB.row (.slice none 0 0) e size []::O) w:=
 (ZhM (o:=OB.row (.slice none 0 0) e size []) hJ h (Keeps.refl _ _) (fun k hk=>by simp[OB.row,Value.ownBlock]at hk) ⟨[],World.ownsRow_nil w lo e size,trivial,fun r hr=>by cases hr⟩).1
theorem so_nil {e:TypeId} {size:Nat} {b:Nat} (h:SO S O b):SO S (OB.row (.slice none 0 0) e size []::O) b:=⟨h.1,fun p hp=>by
 rcases List.mem_cons.1 hp with rfl | hp
 · simp[OB.row,Value.ownBlock]
 · exact h.2 p hp⟩
theorem ZfW {w:World} {v:Value} {e:TypeId} {size:Nat} {rows:List (List CD)} {S:Nat→Prop} (hS:∀ k,v.ownBlock=some k→S k) (h:(OB.row v e size rows).inv lo S w):Rel S w (.rd (.sl rows)) v:=by
 obtain⟨us,h1,h2,h3⟩:=h
 simp only[Rel]
 rcases h1.2 with⟨hv,h0⟩ | ⟨g,cap,cur,hv,hb,hg,hnc,hcm,hcs,htake⟩
 · have:rows=[]:=List.eq_nil_of_length_eq_zero h0
   rw[this,hv]
   exact .nil _ _ nzl
 · rw[hv]
   refine Rd.of_cells hnc hcm (Array.getElem?_eq_some_iff.1 hg).1 (hS g (by rw[hv];rfl)) h3 h2 fun j u hj=>?_
   have:=h1.cells (g:=g) (by rw[hv];rfl) j u hj
   rw[show(⟨g,0,none⟩:Addr).add j=⟨g,0+j,none⟩ by unfold Addr.add;split<;>simp_all]at this
   exact this
theorem own_rd {w:World} (hS:∀ b,lo≤b→S b) (h:XO J S lo O w) {v:Value} {e:TypeId} {size:Nat} {rows:List (List CD)} (ho:OB.row v e size rows∈O):Rel S w (.rd (.sl rows)) v:=by
 have hi:=h.2.1 _ ho
 exact ZfW (fun k hk=>hS k ((OB.row v e size rows).lt hi k hk).1) (OB.sub hi fun k _ hk=>hk.1)
theorem XY {S':Nat→Prop} {w:World} (hS:∀ b,lo≤b→S b) (h:XO J S lo O w) {v:Value} {e:TypeId} {size:Nat} {rows:List (List CD)} (ho:OB.row v e size rows∈O) {u:Value} (hu:Rel S' w (.lit v) u):Rel S w (.rd (.sl rows)) u:=by
 rw[hu.lit];exact own_rd hS h ho
theorem Zbr {lo:Nat} {S:Nat→Prop} {w:World} {v:Value} {e:TypeId} {size:Nat} {rows:List (List CD)} (h:(OB.row v e size rows).inv lo S w):okLit v:=by
 obtain⟨us,g1,_⟩:=h
 rcases g1.2 with⟨h',_⟩ | ⟨g,cap,cur,h',_⟩<;>(rw[h'];exact True.intro)
theorem Zvi {P:Program} {t e:TypeId} {size bytes:Nat} (z:Value) (h1:P.underlying t=some (.slice e)) (hinfo:(P.info? e).map (fun i=>(i.zero,i.size,i.bytes))=some (some z,size,bytes)) (hz:z.cells.size=size) (hs:0<size) (h4:∀ w,(sizeOf e).run P w= .ok size w):Zjz P t e size bytes:=by
 refine⟨h1,?_,hs,h4⟩
 cases hi:P.info? e with
 | none=>rw[hi]at hinfo;cases hinfo
 | some i=>
  rw[hi]at hinfo
  simp only[Option.map_some,Option.some.injEq,Prod.mk.injEq]at hinfo
  exact⟨i,z,rfl,hinfo.1,hinfo.2.1,hinfo.2.2,hz⟩
theorem Zeu {P:Program} (w:World) (t ty e:TypeId) (ht:P.underlying t=some (.slice e)) (hsz:∃ k,∀ w,(sizeOf e).run P w= .ok k w) (ad:Option Addr) (n cap:Nat) (hn:n≤cap) (a:Option Addr) (c:Nat):
 (Builtin.append_ #[t,t] ty #[.slice ad n cap,.slice a 0 c]).run P w= .ok (.slice ad n cap) w:=by
 obtain⟨k,hk⟩:=hsz
 unfold Builtin.append_
 cases a with
 | none=>cases ad<;>simp[Sem.run_bind,run_underlying ht,hk w,Builtin.lenOf,Builtin.firstCells,hn,storeCells]
 | some a=>cases ad<;>simp[Sem.run_bind,run_underlying ht,hk w,Builtin.lenOf,Builtin.firstCells,hn,storeCells,loadCells,loadCellsFrom]
end
theorem Keeps.upto' {S:Nat→Prop} {w A B:World} (h:Keeps All w A) (hk:Keeps S A B) (hs:∀ k,k<w.heap.size→S k):Keeps All w B:=
 ⟨hk.os.trans h.os,hk.tape.trans h.tape,hk.output.trans h.output,Nat.le_trans h.size hk.size,fun k hlt _=>(hk.block k (Nat.lt_of_lt_of_le hlt h.size) (hs k hlt)).trans (h.block k hlt trivial)⟩
theorem Zet {P:Program} (w:World) (base:Nat) (t ty e:TypeId) (i:TypeInfo) (z:Value) (size bytes:Nat) (ht:P.underlying t=some (.slice e)) (hi:P.info? e=some i) (hz:i.zero=some z)
 (hsize:i.size=size) (hby:i.bytes=bytes) (hzs:z.cells.size=size) (hsz:0<size)
 (v:Value) (n:Nat) (xs:List Value) (hown:w.ownsRow base e size v n xs)
 (a:Addr) (m c:Nat) (news:List Value) (hl:news.length=m*size) (hnews:∀ j u,news[j]?=some u→w.cell? (a.add j)=some u) (h1:∀ u∈news,u.oneCell'=true)
 (h63:n+m≤maxLen) (hbytes:(n+m)*bytes≤140737488355328) (hbase:base≤w.heap.size):
 ∃ v' w',(Builtin.append_ #[t,t] ty #[v,.slice (some a) m c]).run P w= .ok v' w'∧w'.ownsRow base e size v' (n+m) (xs++news)∧w.grownBy w' v.ownBlock∧
  (v'.ownBlock=v.ownBlock∨v'.ownBlock=some w.heap.size):=by
 obtain⟨v',w',hr,h2,h3,h4⟩:=run_append_own (P:=P) w base t ty e i z size bytes ht hi hz hsize hby hzs hsz v n xs hown a m c news hl hnews h1 h63 hbytes hbase
 refine⟨v',w',hr,h2,h3,?_⟩
 subst hsize
 subst hby
 have hsmall:n+m≤9223372036854775807:=by simp only[maxLen]at h63;omega
 rcases hown.2 with⟨rfl,rfl⟩ | ⟨g,cap,cur,rfl,hbg,hg,hnc,hcm,hcs,htake⟩
 · by_cases hm:m=0
   · have:=h4.2 ⟨rfl,hm⟩
     subst this
     exact Or.inl rfl
   · have hr2:=run_append_nil (P:=P) w t ty e i z ht hi hz a m c news hl hnews oz oz (by have hb:=hbytes;simp only[Nat.zero_add]at hb;omega)
     rw[hr]at hr2
     cases hr2
     exact Or.inr rfl
 · by_cases hroom:n+m≤cap
   · have hfit:n*i.size+news.length≤cur.size:=by rw[hl,hcs,←Nat.add_mul];exact Nat.mul_le_mul_right _ hroom
     have hr2:=run_append_room (P:=P) w t ty e i ht hi g n cap cur hg a m c news hl hnews h1 hroom hfit
     rw[hr]at hr2
     cases hr2
     exact Or.inl rfl
   · have holds:∀ j u,xs[j]?=some u→w.cell? ((⟨g,0,none⟩:Addr).add j)=some u:=hown.cells (g:=g) rfl
     have hr2:=run_append_grow (P:=P) w t ty e i z ht hi hz ⟨g,0,none⟩ n cap xs hown.1 holds a m c news hl hnews oz oz (growslice_fits oz hbytes)
     rw[hr]at hr2
     cases hr2
     exact Or.inr rfl
section
variable {P:Program} {J:WP} {S:Nat→Prop} {O:List OB} {w0:World}
def Zag (J:WP) (S:Nat→Prop) (w0:World) (O1:List OB) (w:World) (O2:List OB) (w':World):Prop:=
 Keeps All w0 w'∧XO J S w0.heap.size O2 w'∧∀ av v,Rel (SO S O1) w av v→Rel (SO S O2) w' av v
theorem Zct {w w':World} (hJ:Stab J) (h0:Keeps All w0 w) (h:XO J S w0.heap.size O w) (hk:Keeps All w w'):Zag J S w0 O w O w':=
 ⟨h0.trans hk,Yw hJ w w' hk h,fun _ _ hr=>hr.on hk⟩
theorem X9 {w w':World} {o:OB} (hJ:Stab J) (h0:Keeps All w0 w) (h:XO J S w0.heap.size O w) (hk:Keeps All w w') (hb:∀ k,o.blk k→w.heap.size≤k) (hi:o.inv w0.heap.size (SO S (o::O)) w'):Zag J S w0 O w (o::O) w':=by
 obtain⟨h1,h2⟩:=ZhM hJ h hk hb hi
 exact⟨h0.trans hk,h1,fun _ _ hr=>Rel.move hk (fun k hlt hs=>⟨trivial,h2 k hlt hs⟩) hr⟩
theorem Zaj {w w':World} {o o':OB} (hJ:Stab J) (hJ0:J w0) (h0:Keeps All w0 w) (h:XO J S w0.heap.size (o::O) w) (hk:Keeps (fun b=>¬ o.blk b) w w') (hb:∀ k,o'.blk k→o.blk k∨w.heap.size≤k) (hi:o'.inv w0.heap.size (SO S (o'::O)) w'):Zag J S w0 (o::O) w (o'::O) w':=by
 have hk':Keeps All w0 w':=h0.upto' hk fun k hk0 e=>by have:=(o.lt (h.2.1 o yz) k e).1;omega
 obtain⟨h1,h2⟩:=ZhL h (hJ w0 w' hk' hJ0) hk hb hi
 exact⟨hk',h1,fun _ _ hr=>Rel.move hk h2 hr⟩
theorem Zef {t e ty:TypeId} {size bytes:Nat} (ht:Zjz P t e size bytes) (hJ:Stab J) (hJ0:J w0) {w:World} (hk:Keeps All w0 w) {v:Value} {rows news:List (List CD)} {y:Value} (h:XO J S w0.heap.size (OB.row v e size rows::O) w)
 (hy:Rel (SO S (OB.row v e size rows::O)) w (.rd (.sl news)) y) (hn:∀ r∈news,r.length=size) (h63:rows.length+news.length≤maxLen) (hb:(rows.length+news.length)*bytes≤140737488355328):
 ∃ v' w',(Builtin.append_ #[t,t] ty #[v,y]).run P w= .ok v' w'∧XO J S w0.heap.size (OB.row v' e size (rows++news)::O) w'∧Keeps All w0 w'∧Keeps (fun b=>v.ownBlock≠some b) w w'∧
  ∀ k,k<w.heap.size→SO S (OB.row v e size rows::O) k→SO S (OB.row v' e size (rows++news)::O) k:=by
 obtain⟨ht,⟨i,z,hi,hz,his,hib,hzs⟩,hsz,hs⟩:=ht
 simp only[Rel]at hy
 obtain⟨us,h1,h2,h3⟩:=h.2.1 (OB.row v e size rows) yz
 obtain⟨ad,cap,rfl,hlc,hcm⟩:=hy.form
 by_cases h0:news=[]
 · subst h0
   have hv:∃ ad n cap,v= .slice ad n cap∧n≤cap:=by
    rcases h1.2 with⟨rfl,h0⟩ | ⟨g,cap,cur,rfl,hb,hg,hnc,rest⟩
    · exact⟨_,_,_,rfl,Nat.le_refl _⟩
    · exact⟨_,_,_,rfl,hnc⟩
   obtain⟨ad',n',cap',rfl,hnc⟩:=hv
   refine⟨_,w,Zeu w t ty e ht ⟨size,hs⟩ _ _ _ hnc _ _,?_,hk,Keeps.refl _ _,fun k _ hk=>?_⟩
   · rw[List.append_nil];exact h
   · rw[List.append_nil];exact hk
 · have hpos:0<news.length:=by
    rcases Nat.eq_zero_or_pos news.length with h | h
    · exact absurd (List.eq_nil_of_length_eq_zero h) h0
    · exact h
   obtain⟨b,off,rfl,_⟩:=hy.at (List.getElem?_eq_getElem hpos)
   obtain⟨nu,hnl,hnr,hnc⟩:=hy.flat hn hpos
   have hone:∀ u∈nu,u.oneCell'=true:=fun u hu=>by
    obtain⟨j,hj,rfl⟩:=List.getElem_of_mem hu
    have hjl:j<news.flatten.length:=by rw[←hnr.length];exact hj
    exact(hnr.get (List.getElem?_eq_getElem hjl) (List.getElem?_eq_getElem hj)).one
   obtain⟨v',w',hrun,ho',hg,hwhere⟩:=Zet (P:=P) w w0.heap.size t ty e i z size bytes ht hi hz his hib hzs hsz v rows.length us h1 ⟨b,off,none⟩ news.length cap nu hnl
    (fun j u hj=>by rw[Go.WideShapes.add_plain];exact hnc j u hj) hone h63 hb hk.size
   have hkeep:Keeps (fun b=>¬ (OB.row v e size rows).blk b) w w':=⟨hg.os,hg.tape,hg.output,hg.size,fun k hk hs=>hg.block k hk fun e=>hs e.symm⟩
   have hk':Keeps All w0 w':=hk.upto' hkeep fun k hk0 e=>by have:=(h1.lt k e).1;omega
   have hbb:∀ k,(OB.row v' e size (rows++news)).blk k→(OB.row v e size rows).blk k∨w.heap.size≤k:=fun k hk=>by
    have hk:v'.ownBlock=some k:=hk
    rcases hwhere with h | h
    · rw[h]at hk;exact .inl hk
    · rw[h]at hk;injection hk with hk;exact .inr (Nat.le_of_eq hk)
   have hmove:∀ k,k<w.heap.size→SO S (OB.row v e size rows::O) k→(¬ (OB.row v e size rows).blk k)∧SO S (OB.row v' e size (rows++news)::O) k:=fun k hlt hk=>⟨hk.2 (OB.row v e size rows) yz,hk.1,fun p hp=>by
    rcases List.mem_cons.1 hp with rfl | hp
    · intro e'
      rcases hbb k e' with e' | e'
      · exact hk.2 (OB.row v e size rows) yz e'
      · omega
    · exact hk.2 p (List.mem_cons_of_mem _ hp)⟩
   obtain⟨g1,g2⟩:=ZhL (o':=OB.row v' e size (rows++news)) h (hJ w0 w' hk' hJ0) hkeep hbb
    ⟨us++nu,by simp only[List.length_append];exact ho',by
     simp only[List.flatten_append]
     exact(h2.move hkeep hmove).append (hnr.move hkeep hmove),fun r hr=>by
     rcases List.mem_append.1 hr with hr | hr
     · exact h3 r hr
     · exact hn r hr⟩
   exact⟨v',w',hrun,g1,hk',hkeep,fun k hlt hs=>(hmove k hlt hs).2⟩
variable {n:Rn} {N:Nat} {env:List (Nat×AV)} {Q:Exit→Act→WP}
theorem St.step {a:Act} {w w':World} {O':List OB} {d:Nat} {v:Value} {av:AV} (h:So J S w0 N O env a w) (hs:Zag J S w0 O w O' w') (hN:d<N) (hv:Rel (SO S O') w' av v):St All (SO S O') w0 N ((d,av)::Yn d env) (XO J S w0.heap.size O') (a.put (some d) v) w':=
 ⟨by rw[ZaN];exact h.defs,by rw[ZcE];exact h.size,hs.1,hs.2.1,fun p hp=>by
  rcases List.mem_cons.1 hp with rfl | hp
  · exact⟨hN,by rw[XM _ _ _ (by rw[h.size];exact hN)];exact hv⟩
  · obtain⟨h1,h2⟩:=List.mem_filter.1 hp
    obtain⟨h3,h4⟩:=h.env p h1
    refine⟨h3,?_⟩
    rw[YB _ _ _ _ (fun e=>by cases e;simp at h2)]
    exact hs.2.2 _ _ h4⟩
theorem St.step0 {a:Act} {w w':World} {O':List OB} (h:So J S w0 N O env a w) (hs:Zag J S w0 O w O' w') (v:Value):St All (SO S O') w0 N env (XO J S w0.heap.size O') (a.put none v) w':=
 ⟨h.defs,h.size,hs.1,hs.2.1,fun p hp=>⟨(h.env p hp).1,hs.2.2 _ _ (h.env p hp).2⟩⟩
theorem Zc7 {ι:Type} {ops:Array Oper} {o:Oper} {rest:List Oper} {d:Nat} {O2:ι→List OB} {av:ι→AV} (hg:o.guard=none) (hd:o.dst=some d) (hN:d<N)
 (ob:∀ a w,So J S w0 N O env a w→Does n P o a w fun v w'=>∃ i,Zag J S w0 O w (O2 i) w'∧Rel (SO S (O2 i)) w' (av i) v)
 (next:∀ i a w,So J S w0 N (O2 i) ((d,av i)::Yn d env) a w→wpListIn n.F n.d P ops Q rest a w):
 ∀ a w,So J S w0 N O env a w→wpListIn n.F n.d P ops Q (o::rest) a w:=fun a w h=>by
 refine wpListIn_plain hg fun K' hK=>?_
 refine ob a w h K' Q fun u w2 ⟨i,hs,hv⟩=>?_
 rw[hd]
 exact hK _ _ (next i _ _ (h.step hs hN hv))
theorem ZfS {ι:Type} {ops:Array Oper} {o:Oper} {rest:List Oper} {O2:ι→List OB} (hg:o.guard=none) (hd:o.dst=none)
 (ob:∀ a w,So J S w0 N O env a w→Does n P o a w fun _ w'=>∃ i,Zag J S w0 O w (O2 i) w')
 (next:∀ i a w,So J S w0 N (O2 i) env a w→wpListIn n.F n.d P ops Q rest a w):
 ∀ a w,So J S w0 N O env a w→wpListIn n.F n.d P ops Q (o::rest) a w:=fun a w h=>by
 refine wpListIn_plain hg fun K' hK=>?_
 refine ob a w h K' Q fun u w2 ⟨i,hs⟩=>?_
 rw[hd]
 exact hK _ _ (next i _ _ (h.step0 hs _))
theorem Za5 {a:Act} {w:World} {O':List OB} (hp:O.Perm O') (h:So J S w0 N O env a w):St All (SO S O') w0 N env (XO J S w0.heap.size O') a w:=
 ⟨h.defs,h.size,h.keep,YK hp h.x,fun p hm=>⟨(h.env p hm).1,(h.env p hm).2.sub fun _ _ hs=>hs.perm hp⟩⟩
theorem Zou {ops:Array Oper} {o:Oper} {rest:List Oper} {t e:TypeId} {size bytes:Nat} {x y:Operand} {d m s:Nat} {v:Value} {rows news:List (List CD)} (ht:Zjz P t e size bytes) (hJ:Stab J) (hJ0:J w0)
 (hg:o.guard=none) (hop:o.op= .call { callee:=.builtin .append,args:= #[x,y],argTypes:= #[t,t] }) (hd:o.dst=some d) (hN:d<N) (hx:x= .tmp s) (he:env[m]?=some (s,.lit v))
 (hy:∀ a w,So J S w0 N (OB.row v e size rows::O) env a w→Rel (SO S (OB.row v e size rows::O)) w (.rd (.sl news)) (a.eval y)) (hn:∀ r∈news,r.length=size) (h63:rows.length+news.length≤maxLen) (hb:(rows.length+news.length)*bytes≤140737488355328)
 (next:∀ v' a w,So J S w0 N (OB.row v' e size (rows++news)::O) ((d,.lit v')::Yn d env) a w→wpListIn n.F n.d P ops Q rest a w):
 ∀ a w,So J S w0 N (OB.row v e size rows::O) env a w→wpListIn n.F n.d P ops Q (o::rest) a w:=by
 refine Zc7 (O2:=fun v'=>OB.row v' e size (rows++news)::O) (av:=fun v'=>.lit v') hg hd hN (fun a w h=>?_) next
 obtain⟨v',w',hrun,hx',hk',hkeep,hmove⟩:=Zef (ty:=o.type) ht hJ hJ0 h.keep h.x (hy a w h) hn h63 hb
 have hv:a.eval x=v:=by rw[hx];exact(h.get m he).lit
 refine ZS (v:=v') (w':=w') ?_ ⟨v',⟨hk',hx',fun av u hr=>Rel.move hkeep (fun k hlt hs=>⟨hs.2 (OB.row v e size rows) yz,hmove k hlt hs⟩) hr⟩,Rel.of_lit _ (Zbr (hx'.2.1 (OB.row v' e size (rows++news)) yz))⟩
 simp[execOp,hop,resolve,invoke,builtin,hv,hrun,Result.andThen]
theorem YD {α:Type} {f:α→List CD} {ops:Array Oper} {o:Oper} {rest:List Oper} {t e:TypeId} {size bytes:Nat} {x y:Operand} {d m s:Nat} {v:Value} (xs ys:List α) (hf:∀ x,(f x).length=size) (ht:Zjz P t e size bytes) (hJ:Stab J) (hJ0:J w0)
 (hg:o.guard=none) (hop:o.op= .call { callee:=.builtin .append,args:= #[x,y],argTypes:= #[t,t] }) (hd:o.dst=some d) (hN:d<N) (hx:x= .tmp s) (he:env[m]?=some (s,.lit v))
 (hy:∀ a w,So J S w0 N (OB.row v e size (xs.map f)::O) env a w→Rel (SO S (OB.row v e size (xs.map f)::O)) w (.rd (.sl (ys.map f))) (a.eval y)) (hb:(xs.length+ys.length)*bytes≤140737488355328) (h63:xs.length+ys.length≤9223372036854775807)
 (next:∀ v' a w,So J S w0 N (OB.row v' e size ((xs++ys).map f)::O) ((d,.lit v')::Yn d env) a w→wpListIn n.F n.d P ops Q rest a w):
 ∀ a w,So J S w0 N (OB.row v e size (xs.map f)::O) env a w→wpListIn n.F n.d P ops Q (o::rest) a w:=by
 refine Zou (m:=m) (s:=s) (d:=d) ht hJ hJ0 hg hop hd hN hx he hy (Zbe hf) (by simp only[List.length_map,maxLen];exact h63) (by simp only[List.length_map];exact hb) fun v' a w h=>next v' a w ?_
 rw[List.map_append];exact h

theorem Zm9 (g:Nat→Value):(Array.range 0).map g= #[]:=by apply Array.toList_inj.1;simp
theorem Zm8 (g:Nat→Value):(Array.range 1).map g= #[g 0]:=by apply Array.toList_inj.1;simp[List.range_succ]
theorem Zm7 (g:Nat→Value):(Array.range 2).map g= #[g 0,g 1]:=by apply Array.toList_inj.1;simp[List.range_succ]
theorem Zm6 (g:Nat→Value):(Array.range 3).map g= #[g 0,g 1,g 2]:=by apply Array.toList_inj.1;simp[List.range_succ]
theorem Zm1 {t e:TypeId} {size:Nat} (ht:Yp P t e size) (w:World):(Instr.buildSlice t 0 #[]).run P w= .ok (.slice (some ⟨w.heap.size,0,none⟩) 0 0) (w.alloc (.cells #[] e)):=by
 unfold Instr.buildSlice
 simp[Sem.run_bind,run_underlying ht.1,ht.2 w,Instr.fill,newRow,newObj,Sem.run,Zm9]
theorem ZfV {t e:TypeId} {z:Value} (ht:Yp P t e 1) (hz:∀ w,(zeroValue e).run P w= .ok z w) (v:Value) (hv:v.oneCell'=true) (w:World):
 (Instr.buildSlice t 1 #[(0,v)]).run P w= .ok (.slice (some ⟨w.heap.size,0,none⟩) 1 1) (w.alloc (.cells #[v] e)):=by
 have hc:v.cells= #[v]:=by cases v<;>simp_all[Value.cells,Value.oneCell']
 unfold Instr.buildSlice
 simp[Sem.run_bind,run_underlying ht.1,ht.2 w,hz w,Instr.fill,hc,newRow,newObj,Sem.run,Zm8]
theorem ZjW {t e:TypeId} {k:Nat} {z:Value} (ht:Yp P t e k) (hz:∀ w,(zeroValue e).run P w= .ok z w) (us:List Value) (hk:k=2∨k=3) (hu:us.length=k) (w:World):
 (Instr.buildSlice t 1 #[(0,.agg us.toArray)]).run P w= .ok (.slice (some ⟨w.heap.size,0,none⟩) 1 1) (w.alloc (.cells us.toArray e)):=by
 unfold Instr.buildSlice
 rcases hk with rfl | rfl
 · match us,hu with
   | [a,b],_=>
    have hc:(Value.agg [a,b].toArray).cells= #[a,b]:=rfl
    simp[Sem.run_bind,run_underlying ht.1,ht.2 w,hz w,Instr.fill,hc,newRow,newObj,Sem.run,Zm7]
 · match us,hu with
   | [a,b,c],_=>
    have hc:(Value.agg [a,b,c].toArray).cells= #[a,b,c]:=rfl
    simp[Sem.run_bind,run_underlying ht.1,ht.2 w,hz w,Instr.fill,hc,newRow,newObj,Sem.run,Zm6]
def Zc3 (P:Program) (e:TypeId):Prop:=∃ z,∀ w,(zeroValue e).run P w= .ok z w
variable {X:WP} {o:Oper} {a:Act} {w:World} {x:Operand} {t e:TypeId}
theorem QS {w:World} {us:List Value} {e:TypeId} (j:Nat) (u:Value) (hj:us[j]?=some u):(w.alloc (.cells us.toArray e)).cell? ⟨w.heap.size,0+j,none⟩=some u:=by
 have:(w.alloc (.cells us.toArray e)).heap[w.heap.size]?=some (.cells us.toArray e):=by
  show(w.heap.push _)[w.heap.size]?=_
  simp
 unfold World.cell?
 simp only[this]
 simpa using hj
theorem YI {c:CD} (ht:Yp P t e 1) (hz:Zc3 P e) (hop:o.op= .buildSlice t 1 #[(0,x)]) (h:Rel S w (.rd c) (a.eval x)) (hS:S w.heap.size) (hx:∀ w',Keeps All w w'→X w'):Does n P o a w (YC S X (.rd (.sl [[c]])) w):=by
 obtain⟨z,hz1⟩:=hz
 simp only[Rel]at h
 have hk:Keeps All w (w.alloc (.cells [a.eval x].toArray e)):=(Keeps.refl _ _).alloc _
 refine ZS (v:=.slice (some ⟨w.heap.size,0,none⟩) 1 1) (w':=w.alloc (.cells [a.eval x].toArray e)) ?_ ⟨?_,hk,hx _ hk⟩
 · have:=ZfV ht hz1 (a.eval x) h.one w
   rw[execOp,hop]
   simp only[List.map_toArray,List.map_cons,List.map_nil,Sem.run_bind,this]
   rfl
 · simp only[Rel]
   refine Rd.of_cells (n:=1) (us:=[a.eval x]) nlr dz yz hS yz ⟨h.keep hk fun _ _ _=>trivial,trivial⟩ fun j u hj=>QS j u hj
theorem ZcD {cs:List CD} {k:Nat} (ht:Yp P t e k) (hz:Zc3 P e) (hk:k=2∨k=3) (hc:cs.length=k) (hop:o.op= .buildSlice t 1 #[(0,x)]) (h:Rel S w (.agg cs) (a.eval x)) (hS:S w.heap.size) (hx:∀ w',Keeps All w w'→X w'):Does n P o a w (YC S X (.rd (.sl [cs])) w):=by
 obtain⟨z,hz1⟩:=hz
 simp only[Rel]at h
 obtain⟨us,hv,hr⟩:=h
 have hk':Keeps All w (w.alloc (.cells us.toArray e)):=(Keeps.refl _ _).alloc _
 refine ZS (v:=.slice (some ⟨w.heap.size,0,none⟩) 1 1) (w':=w.alloc (.cells us.toArray e)) ?_ ⟨?_,hk',hx _ hk'⟩
 · have:=ZjW ht hz1 us hk (by rw[hr.length,hc]) w
   rw[execOp,hop]
   simp only[List.map_toArray,List.map_cons,List.map_nil,Sem.run_bind,hv,this]
   rfl
 · simp only[Rel]
   refine Rd.of_cells (n:=k) (us:=us) nlr dz yz hS (fun r hr=>by simp at hr;subst hr;exact hc) (by simp only[List.flatten_cons,List.flatten_nil,List.append_nil];exact hr.keep hk' fun _ _ _=>trivial) fun j u hj=>QS j u hj
theorem ZvN {ops:Array Oper} {rest:List Oper} {t e:TypeId} {d:Nat} {c:CD} (ht:Yp P t e 1) (hz:Zc3 P e) (hJ:Stab J)
 (hg:o.guard=none) (hop:o.op= .buildSlice t 1 #[(0,x)]) (hd:o.dst=some d) (hN:d<N) (hx1:∀ a w,So J S w0 N O env a w→Rel (SO S O) w (.rd c) (a.eval x))
 (next:∀ v' a w,So J S w0 N (OB.row v' e 1 [[c]]::O) ((d,.lit v')::Yn d env) a w→wpListIn n.F n.d P ops Q rest a w):
 ∀ a w,So J S w0 N O env a w→wpListIn n.F n.d P ops Q (o::rest) a w:=by
 refine Zc7 (O2:=fun v'=>OB.row v' e 1 [[c]]::O) (av:=fun v'=>.lit v') hg hd hN (fun a w h=>?_) next
 obtain⟨z,hz1⟩:=hz
 have hv:=hx1 a w h
 simp only[Rel]at hv
 have hk:Keeps All w (w.alloc (.cells [a.eval x].toArray e)):=(Keeps.refl _ _).alloc _
 have hbb:∀ b,(OB.row (.slice (some ⟨w.heap.size,0,none⟩) 1 1) e 1 [[c]]).blk b→w.heap.size≤b:=fun b hb=>by simp[OB.row,Value.ownBlock]at hb;omega
 have hsub:∀ b,b<w.heap.size→SO S O b→SO S (OB.row (.slice (some ⟨w.heap.size,0,none⟩) 1 1) e 1 [[c]]::O) b:=fun b hb hS=>⟨hS.1,fun p hp=>by
  rcases List.mem_cons.1 hp with rfl | hp
  · exact fun e=>by have:=hbb b e;omega
  · exact hS.2 p hp⟩
 refine ZS (v:=.slice (some ⟨w.heap.size,0,none⟩) 1 1) (w':=w.alloc (.cells [a.eval x].toArray e)) ?_ ⟨.slice (some ⟨w.heap.size,0,none⟩) 1 1,X9 hJ h.keep h.x hk hbb ⟨[a.eval x],⟨rfl,.inr ⟨w.heap.size,1, #[a.eval x],rfl,h.keep.size,heap_alloc_new w _,Nat.le_refl _,by decide,rfl,rfl⟩⟩,⟨hv.move hk fun b hb hs=>⟨trivial,hsub b hb hs⟩,trivial⟩,fun r hr=>by simp at hr;subst hr;rfl⟩,Rel.of_lit _⟩
 have:=ZfV ht hz1 (a.eval x) hv.one w
 rw[execOp,hop]
 simp only[List.map_toArray,List.map_cons,List.map_nil,Sem.run_bind,this]
 rfl
theorem Yd {a:Act} {w:World} (e:TypeId) (size:Nat) (hJ:Stab J) (h:So J S w0 N O env a w):So J S w0 N (OB.row (.slice none 0 0) e size []::O) env a w:=
 ⟨h.defs,h.size,h.keep,ZmI hJ h.x e size,fun p hp=>⟨(h.env p hp).1,(h.env p hp).2.sub fun _ _ hk=>so_nil hk⟩⟩
theorem Zz {a:Act} {w:World} {o:OB} (h:So J S w0 N (o::O) env a w):So J S w0 N O env a w:=
 ⟨h.defs,h.size,h.keep,⟨h.x.1,fun p hp=>OB.sub (h.x.2.1 p (List.mem_cons_of_mem _ hp)) fun _ _ hk=>hk.drop,(List.pairwise_cons.1 h.x.2.2).2⟩,fun p hp=>⟨(h.env p hp).1,(h.env p hp).2.sub fun _ _ hk=>hk.drop⟩⟩
theorem ZcR {a:Act} {w:World} {o:OB} (hS:∀ b,w0.heap.size≤b→S b) (h:So J S w0 N (o::O) env a w):∀ k,o.blk k→SO S O k:=fun k hk=>
 ⟨hS k (o.lt (h.x.2.1 o yz) k hk).1,fun p hp=>(List.pairwise_cons.1 h.x.2.2).1 p hp k hk⟩
theorem Ya {a:Act} {w:World} {v:Value} {e:TypeId} {size:Nat} {rows:List (List CD)} {s m:Nat} (hS:∀ b,w0.heap.size≤b→S b) (h:So J S w0 N (OB.row v e size rows::O) env a w) (he:env[m]?=some (s,.lit v)):
 So J S w0 N O ((s,.rd (.sl rows))::Yn s env) a w:=by
 have h':=Zz h
 refine⟨h.defs,h.size,h.keep,h'.x,fun p hp=>?_⟩
 rcases List.mem_cons.1 hp with rfl | hp
 · refine⟨(h.env _ (List.mem_of_getElem? he)).1,?_⟩
   have hval:a.tmps.getD s undef=v:=(h.get m he).lit
   simp only
   rw[hval]
   exact ZfW (ZcR hS h) (OB.sub (h.x.2.1 (OB.row v e size rows) yz) fun k _ hk=>hk.drop)
 · exact h'.env p (List.mem_filter.1 hp).1
theorem Z4 {a:Act} {w:World} (h:St All S w0 N env J a w):So J S w0 N [] env a w:=
 ⟨h.defs,h.size,h.keep,ZkQ h.x,fun p hp=>⟨(h.env p hp).1,(h.env p hp).2.sub fun _ _ hk=>⟨hk,fun q hq=>(by cases hq)⟩⟩⟩
theorem ZY {a:Act} {w:World} (h:So J S w0 N O env a w):St All S w0 N env J a w:=
 ⟨h.defs,h.size,h.keep,h.x.1,fun p hp=>⟨(h.env p hp).1,(h.env p hp).2.sub fun _ _ hk=>hk.1⟩⟩
end
section
variable {n:Rn} {N:Nat} {P:Program} {J:WP} {S:Nat→Prop} {O:List OB} {w0:World} {env:List (Nat×AV)} {l:List Oper} {avs:Nat→AV} {conds:Nat→Bool} {T:Array Value} {Q:Exit→Act→WP}
def upto (ch:List (Nat×List (List CD))) (j:Nat):List (List CD):=((ch.take (j-1)).map (·.2)).flatten
def Zfz (e:TypeId) (size:Nat) (ch:List (Nat×List (List CD))) (O:List OB) (j:Nat) (v:Value):List OB:=if j=0 then O else OB.row v e size (upto ch j)::O
def XG (i0:Nat) (ch:List (Nat×List (List CD))) (j:Nat):Nat:=if j≤1 then i0 else(ch.getD (j-2) (i0,[])).1
structure CInv (S:Nat→Prop) (J:WP) (w0:World) (N:Nat) (env:List (Nat×AV)) (l:List Oper) (avs:Nat→AV) (conds:Nat→Bool) (T:Array Value) (e:TypeId) (size:Nat) (i0:Nat) (ch:List (Nat×List (List CD))) (fol:Nat) (O:List OB) (j:Nat) (v:Value) (b:Nat→Bool) (a:Act) (w:World):Prop where
 inv:RInv All (SO S (Zfz e size ch O j v)) (SO S (Zfz e size ch O j v)) w0 N env (XO J S w0.heap.size (Zfz e size ch O j v)) l avs conds T b a w
 first:b i0=decide (0<j)
 rest:∀(k:Nat) (p:Nat×List (List CD)),ch[k]?=some p→b p.1=decide (k+1<j)
 le:j≤ch.length+1
 slot:0<j→∀ o d,l[XG i0 ch j]?=some o→o.dst=some d→a.tmps.getD d undef=v
 fol:b fol=true→∀ o d,l[fol]?=some o→o.dst=some d→a.tmps.getD d undef=v
structure Row (n:Rn) (P:Program) (J:WP) (S:Nat→Prop) (w0:World) (env:List (Nat×AV)) (l:List Oper) (avs:Nat→AV) (conds:Nat→Bool) (t e:TypeId) (size bytes:Nat) (i0:Nat) (ch:List (Nat×List (List CD))) (fol:Nat):Prop where
 app:Zjz P t e size bytes
 first:∃ o,l[i0]?=some o∧o.op= .buildSlice t 0 #[]∧o.guard=none∧avs i0= .any∧conds i0=true
 next:∀(k:Nat) (p:Nat×List (List CD)),ch[k]?=some p→∃ o x y q d,l[p.1]?=some o∧o.op= .call { callee:=.builtin .append,args:= #[.tmp x,y],argTypes:= #[t,t] }∧o.guard=none∧avs p.1= .any∧conds p.1=true∧
  l[XG i0 ch (k+1)]?=some q∧q.dst=some d∧d=x∧XG i0 ch (k+1)∈ZL o∧(∀ r∈p.2,r.length=size)∧((upto ch (k+1)).length+p.2.length)≤maxLen∧((upto ch (k+1)).length+p.2.length)*bytes≤140737488355328∧
  ∀ O' a w,Keeps All w0 w→XO J S w0.heap.size O' w→Look (SO S O') w env l avs conds p.1 a→Rel (SO S O') w (.rd (.sl p.2)) (a.eval y)
 follow:∃ o x d q,l[fol]?=some o∧o.op= .assign (.tmp x)∧o.guard=none∧avs fol= .any∧conds fol=true∧l[XG i0 ch (ch.length+1)]?=some q∧q.dst=some x∧XG i0 ch (ch.length+1)∈ZL o∧o.dst=some d
 ne:∀(k:Nat) (p:Nat×List (List CD)),ch[k]?=some p→p.1≠i0∧p.1≠fol
 nodup:∀(k m:Nat) (p q:Nat×List (List CD)),ch[k]?=some p→ch[m]?=some q→p.1=q.1→k=m
 fol0:fol≠i0
def ObR (n:Rn) (P:Program) (J:WP) (S:Nat→Prop) (w0:World) (env:List (Nat×AV)) (l:List Oper) (avs:Nat→AV) (conds:Nat→Bool) (i0:Nat) (ch:List (Nat×List (List CD))) (fol:Nat) (i:Nat) (o:Oper):Prop:=
 (i==i0||i==fol|| (ch.map (·.1)).contains i)=false→∀ O',Ob n P All (SO S O') w0 env (XO J S w0.heap.size O') l avs conds i o
theorem Zoa {ch:List (Nat×List (List CD))} {k:Nat} {p:Nat×List (List CD)} (h:ch[k]?=some p):upto ch (k+2)=upto ch (k+1)++p.2:=by
 have hlt:k<ch.length:=(List.getElem?_eq_some_iff.1 h).1
 have hp:ch[k]=p:=(List.getElem?_eq_some_iff.1 h).2
 unfold upto
 simp only[Nat.add_sub_cancel,show k+2-1=k+1 by omega]
 rw[List.take_succ_eq_append_getElem hlt,hp]
 simp
theorem X2 {i0:Nat} {ch:List (Nat×List (List CD))} {k:Nat} {p:Nat×List (List CD)} (h:ch[k]?=some p):XG i0 ch (k+2)=p.1:=by
 have hlt:k<ch.length:=(List.getElem?_eq_some_iff.1 h).1
 have hp:ch[k]=p:=(List.getElem?_eq_some_iff.1 h).2
 simp[XG,List.getD,h]
variable {t e:TypeId} {size bytes i0 fol:Nat} {ch:List (Nat×List (List CD))}
theorem ZpQ {a:Act} {d:Nat} {o:Oper} (v u:Value) (h:o.dst≠some d) (hv:a.tmps.getD d undef=v):(a.put o.dst u).tmps.getD d undef=v:=by
 rw[YB _ _ _ _ h];exact hv
theorem CInv.does {b:Nat→Bool} {a:Act} {w:World} {rest:List Oper} {j:Nat} {v:Value} (hR:Row n P J S w0 env l avs conds t e size bytes i0 ch fol) (hJ:Stab J) (hJ0:J w0) (h:CInv S J w0 N env l avs conds T e size i0 ch fol O j v b a w) (hu:Y4 l=true) (hN:Q9 l N=true) {i:Nat} {o:Oper} (hi:l[i]?=some o) (hb:b i=false) (hd:∀ j∈ZL o,b j=true)
 (ob:ObR n P J S w0 env l avs conds i0 ch fol i o) (hK:∀ j' v' a' w',CInv S J w0 N env l avs conds T e size i0 ch fol O j' v' (Ye b i) a' w'→wpListIn n.F n.d P l.toArray Q rest a' w'):wpListIn n.F n.d P l.toArray Q (o::rest) a w:=by
 by_cases h0:i=i0
 · subst h0
   obtain⟨o',ho',hop,hg,hav,hc⟩:=hR.first
   rw[hi]at ho';cases ho'
   have hj:j=0:=by have:=h.first;rw[hb]at this;simpa using this.symm
   subst hj
   refine wpListIn_plain hg fun K' hKr=>?_
   have hk:Keeps All w (w.alloc (.cells #[] e)):=(Keeps.refl _ _).alloc _
   have hdo:Does n P o a w fun u w2=>u= .slice (some ⟨w.heap.size,0,none⟩) 0 0∧w2=w.alloc (.cells #[] e):=by
    refine ZS ?_ ⟨rfl,rfl⟩
    have:=Zm1 (P:=P) (t:=t) (e:=e) (size:=size) ⟨hR.app.1,hR.app.2.2.2⟩ w
    rw[execOp,hop]
    simp only[List.map_toArray,List.map_nil,Sem.run_bind,this]
    rfl
   refine hdo K' Q fun u w2 hu2=>?_
   obtain⟨rfl,rfl⟩:=hu2
   have hx:=h.inv.x
   simp only[Zfz,if_true]at hx
   have hup:upto ch 1=[]:=by simp[upto]
   obtain⟨hx',hsub⟩:=ZhM (o:=OB.row (.slice (some ⟨w.heap.size,0,none⟩) 0 0) e size (upto ch 1)) hJ hx hk (fun b hb=>by simp[OB.row,Value.ownBlock]at hb;omega) (by
    rw[hup]
    exact⟨[],World.ownsRow_made w #[] 0 h.inv.keep.size nzl yz,trivial,fun r hr=>by cases hr⟩)
   have hinv:=h.inv
   simp only[Zfz,if_true]at hinv
   refine hKr _ _ (hK 1 (.slice (some ⟨w.heap.size,0,none⟩) 0 0) _ _ ⟨?_,?_,fun k p hp=>?_,oz,fun _ q d hq hqd=>?_,fun hf q d hq hqd=>?_⟩)
   · simp only[Zfz,Nat.one_ne_zero,if_false]
     refine hinv.step2 hu hN hi hd _ (hinv.keep.trans hk) hk (fun k hk hs=>⟨trivial,hsub k hk hs⟩) (fun k hk hs=>⟨trivial,hsub k hk hs⟩) (fun _ h=>h) hx' hc (by rw[hav];simp only[Rel])
   · simp[Ye]
   · have h1:=h.rest k p hp
     have h2:=(hR.ne k p hp).1
     simp only[Ye,if_neg h2]
     rw[h1];simp
   · have:XG i ch 1=i:=by simp[XG]
     rw[this,hi]at hq;cases hq
     rw[hqd,XM _ _ _ (by rw[hinv.size];exact Z7 hN hi hqd)]
   · simp only[Ye,if_neg hR.fol0]at hf
     have:b i=true:=by
      obtain⟨o2,x2,d2,q2,g1,_,_,_,_,g6,g7,g8,_⟩:=hR.follow
      have hlast:=hinv.closed fol o2 g1 hf _ g8
      by_cases hl0:ch.length=0
      · have:XG i ch (ch.length+1)=i:=by simp[XG,hl0]
        rwa [this]at hlast
      · obtain⟨m,hm⟩:∃ m,ch.length=m+1:=⟨ch.length-1,oz⟩
        have hget:ch[m]?=some (ch[m]'(by omega)):=List.getElem?_eq_getElem _
        rw[hm,X2 hget,h.rest m _ hget]at hlast
        simp at hlast
     rw[hb]at this;cases this
 · by_cases hf:i=fol
   · subst hf
     obtain⟨o',x,d,q,ho',hop,hg,hav,hc,hq,hqx,hmem,hod⟩:=hR.follow
     rw[hi]at ho';cases ho'
     have hlast:=hd _ hmem
     have hj:j=ch.length+1:=by
      by_cases hl0:ch.length=0
      · have:XG i0 ch (ch.length+1)=i0:=by simp[XG,hl0]
        rw[this,h.first]at hlast
        have:=h.le
        have:0<j:=by simpa using hlast
        omega
      · obtain⟨m,hm⟩:∃ m,ch.length=m+1:=⟨ch.length-1,oz⟩
        have hget:ch[m]?=some (ch[m]'(by omega)):=List.getElem?_eq_getElem _
        rw[hm,X2 hget,h.rest m _ hget]at hlast
        have h1:m+1<j:=by simpa using hlast
        have:=h.le
        omega
     have hval:=h.slot oz q x (by rw[hj];exact hq) hqx
     refine wpListIn_plain hg fun K' hKr=>?_
     have hdo:Does n P o a w fun u w2=>u=v∧w2=w:=by
      refine ZS (v:=a.eval (.tmp x)) (by simp only[execOp,hop];rfl) ⟨hval,rfl⟩
     refine hdo K' Q fun u w2 hu2=>?_
     obtain⟨rfl,rfl⟩:=hu2
     refine hKr _ _ (hK j u _ _ ⟨h.inv.step hu hN hi hb hd u (Keeps.refl _ _) h.inv.x (fun _=>by rw[hav];simp only[Rel]) (fun e=>by rw[hc]at e;cases e),?_,fun k p hp=>?_,h.le,fun hj' q' d' hq' hqd'=>?_,fun _ q' d' hq' hqd'=>?_⟩)
     · simp only[Ye,if_neg (fun e:i0=i=>h0 e.symm)];exact h.first
     · simp only[Ye,if_neg (hR.ne k p hp).2];exact h.rest k p hp
     · refine ZpQ _ _ (fun e'=>?_) (h.slot hj' q' d' hq' hqd')
       rw[hj]at hq'
       have:=Yg hu hi hq' e' hqd'
       rw[←this]at hlast
       rw[hb]at hlast;cases hlast
     · rw[hi]at hq';cases hq'
       rw[hqd',XM _ _ _ (by rw[h.inv.size];exact Z7 hN hi hqd')]
   · by_cases hch:∃(k:Nat) (p:Nat×List (List CD)),ch[k]?=some p∧p.1=i
     · obtain⟨k,p,hp,rfl⟩:=hch
       obtain⟨o',x,y,q,d,ho',hop,hg,hav,hc,hq,hqd,rfl,hmem,hlen,h63,hbytes,hy⟩:=hR.next k p hp
       rw[hi]at ho';cases ho'
       have hprev:=hd _ hmem
       have hkl:k<ch.length:=(List.getElem?_eq_some_iff.1 hp).1
       have hnot:=h.rest k p hp
       rw[hb]at hnot
       have hjle:j≤k+1:=by
        have:¬ k+1<j:=by simpa using hnot.symm
        omega
       have hj:j=k+1:=by
        by_cases hk0:k=0
        · subst hk0
          have:XG i0 ch (0+1)=i0:=by simp[XG]
          rw[this,h.first]at hprev
          have:0<j:=by simpa using hprev
          omega
        · obtain⟨m,hm⟩:∃ m,k=m+1:=⟨k-1,oz⟩
          have hget:ch[m]?=some (ch[m]'(by omega)):=List.getElem?_eq_getElem _
          rw[hm,X2 hget,h.rest m _ hget]at hprev
          have:m+1<j:=by simpa using hprev
          omega
       subst hj
       have hval:=h.slot oz q d hq hqd
       have hinv:=h.inv
       simp only[Zfz,Nat.succ_ne_zero,if_false]at hinv
       have hrel:=hy _ a w hinv.keep hinv.x (hinv.look hi hb hd)
       obtain⟨v',w',hrun,hx',hk',hkeep,hmove⟩:=Zef (ty:=o.type) hR.app hJ hJ0 hinv.keep hinv.x hrel hlen h63 hbytes
       refine wpListIn_plain hg fun K' hKr=>?_
       have hdo:Does n P o a w fun u w2=>u=v'∧w2=w':=by
        refine ZS ?_ ⟨rfl,rfl⟩
        have hev:a.eval (.tmp d)=v:=hval
        simp only[execOp,hop,resolve,invoke,builtin,Sem.run_bind,Sem.run_pure,List.map_toArray,List.map_cons,List.map_nil,hev,Result.andThen_ok]
        rw[hrun]
        rfl
       refine hdo K' Q fun u w2 hu2=>?_
       obtain⟨rfl,rfl⟩:=hu2
       have hsub:∀ b,b<w.heap.size→SO S (OB.row v e size (upto ch (k+1))::O) b→(v.ownBlock≠some b)∧SO S (OB.row u e size (upto ch (k+1)++p.2)::O) b:=fun b hb hs=>⟨hs.2 (OB.row v e size (upto ch (k+1))) yz,hmove b hb hs⟩
       refine hKr _ _ (hK (k+2) u _ _ ⟨?_,?_,fun m r hr=>?_,oz,fun _ q' d' hq' hqd'=>?_,fun hff q' d' hq' hqd'=>?_⟩)
       · simp only[Zfz,Nat.succ_ne_zero,if_false,Zoa hp]
         exact hinv.step2 hu hN hi hd _ hk' hkeep hsub hsub (fun _ h=>h) hx' hc (by rw[hav];simp only[Rel])
       · have hne:i0≠p.1:=fun e=>h0 e.symm
         simp only[Ye,if_neg hne]
         rw[h.first];simp
       · by_cases hm:m=k
         · subst hm
           rw[hp]at hr;cases hr
           simp[Ye]
         · have hne:r.1≠p.1:=fun e'=>hm (hR.nodup m k r p hr hp e')
           simp only[Ye,if_neg hne]
           rw[h.rest m r hr]
           congr 1
           apply propext
           constructor
           · intro h;omega
           · intro h;omega
       · rw[X2 hp,hi]at hq';cases hq'
         rw[hqd',XM _ _ _ (by rw[hinv.size];exact Z7 hN hi hqd')]
       · have hne:fol≠p.1:=fun e=>hf e.symm
         simp only[Ye,if_neg hne]at hff
         exfalso
         obtain⟨o2,x2,d2,q2,g1,_,_,_,_,g6,g7,g8,_⟩:=hR.follow
         have hl:=hinv.closed fol o2 g1 hff _ g8
         obtain⟨m,hm⟩:∃ m,ch.length=m+1:=⟨ch.length-1,oz⟩
         have hget:ch[m]?=some (ch[m]'(by omega)):=List.getElem?_eq_getElem _
         rw[hm,X2 hget,h.rest m _ hget]at hl
         have:m+1<k+1:=by simpa using hl
         omega
     · have hnot:(i==i0||i==fol|| (ch.map (·.1)).contains i)=false:=by
        simp only[Bool.or_eq_false_iff,beq_eq_false_iff_ne,ne_eq,h0,hf,not_false_eq_true,true_and,List.contains_eq_mem,decide_eq_false_iff_not]
        intro hm
        obtain⟨p,hp,rfl⟩:=List.mem_map.1 hm
        obtain⟨k,hk,rfl⟩:=List.getElem_of_mem hp
        exact hch ⟨k,_,List.getElem?_eq_getElem hk,rfl⟩
       have hgu:∀ q d,l[XG i0 ch j]?=some q→q.dst=some d→0<j→o.dst≠some d:=fun q d hq hqd hj e'=>by
        have:=Yg hu hi hq e' hqd
        by_cases hj1:j≤1
        · simp only[XG,if_pos hj1]at this;exact h0 this
        · obtain⟨m,hm⟩:∃ m,j=m+2:=⟨j-2,oz⟩
          have hle:=h.le
          have hget:ch[m]?=some (ch[m]'(by omega)):=List.getElem?_eq_getElem _
          rw[hm,X2 hget]at this
          exact hch ⟨m,_,hget,this.symm⟩
       have hfu:∀ q d,l[fol]?=some q→q.dst=some d→o.dst≠some d:=fun q d hq hqd e'=>hf (Yg hu hi hq e' hqd)
       refine h.inv.does2 hu hN hi hb hd (ob hnot _) fun a' w' h' hs=>?_
       refine hK j v a' w' ⟨h',?_,fun k p hp=>?_,h.le,fun hj q d hq hqd=>?_,fun hff q d hq hqd=>?_⟩
       · simp only[Ye,if_neg (fun e:i0=i=>h0 e.symm)];exact h.first
       · simp only[Ye,if_neg (fun e:p.1=i=>hch ⟨k,p,hp,e⟩)];exact h.rest k p hp
       · rw[hs d (hgu q d hq hqd hj)];exact h.slot hj q d hq hqd
       · simp only[Ye,if_neg (fun e:fol=i=>hf e.symm)]at hff
         rw[hs d (hfu q d hq hqd)];exact h.fol hff q d hq hqd
theorem ZkS (hR:Row n P J S w0 env l avs conds t e size bytes i0 ch fol) (hJ:Stab J) (hJ0:J w0) (hu:Y4 l=true) (hN:Q9 l N=true) (hback:Zbm l=true) (ob:Obs (ObR n P J S w0 env l avs conds i0 ch fol) 0 l) (hq:∀ j v a w,CInv S J w0 N env l avs conds T e size i0 ch fol O j v (fun i=>decide (i<l.length)) a w→Q .normal a w):
 ∀(r:List Oper) (k:Nat) (j:Nat) (v:Value) (a:Act) (w:World),k+r.length=l.length→l.drop k=r→CInv S J w0 N env l avs conds T e size i0 ch fol O j v (fun i=>decide (i<k)) a w→wpListIn n.F n.d P l.toArray Q r a w
 | [],k,j,v,a,w,hl,_,h=>by
  simp only[List.length_nil,Nat.add_zero]at hl
  subst hl
  exact wpListIn_nil (hq _ _ _ _ h)
 | o::r,k,j,v,a,w,hl,hr,h=>by
  simp only[List.length_cons]at hl
  have hi:l[k]?=some o:=by
   have:(l.drop k)[0]?=some o:=by rw[hr];rfl
   simpa [List.getElem?_drop]using this
  have hob:=Zbw l 0 ob k o hi
  rw[Nat.zero_add]at hob
  refine h.does hR hJ hJ0 hu hN hi yz (fun j hj=>by have:=Za1 hback hi hj;simpa using this) hob fun j' v' a' w' h'=>?_
  refine ZkS hR hJ hJ0 hu hN hback ob hq r (k+1) j' v' a' w' oz ?_ ?_
  · have:l.drop (k+1)=(l.drop k).drop 1:=by rw[List.drop_drop]
    rw[this,hr];rfl
  · have he:(fun i=>decide (i<k+1))=Ye (fun i=>decide (i<k)) k:=by
     funext i
     unfold Ye
     by_cases e:i=k
     · simp[e]
     · rw[if_neg e]
       congr 1
       apply propext
       omega
    rw[he];exact h'
theorem Zvm (hR:Row n P J S w0 env l avs conds t e size bytes i0 ch fol) (hJ:Stab J) (hJ0:J w0) (hu:Y4 l=true) (hN:Q9 l N=true) (hback:Zbm l=true) (ob:Obs (ObR n P J S w0 env l avs conds i0 ch fol) 0 l) (hq:∀ j v a w,CInv S J w0 N env l avs conds T e size i0 ch fol O j v (fun i=>decide (i<l.length)) a w→Q .normal a w):
 ∀(fuel:Nat) (d:Array Bool) (j:Nat) (v:Value) (a:Act) (w:World),d.size=l.length→ZeS d≤fuel→CInv S J w0 N env l avs conds T e size i0 ch fol O j v (fun i=>d.getD i false) a w→wpAnyIn n.F n.d P .any l.toArray Q fuel d a w:=by
 intro fuel
 have fin:∀(d:Array Bool) (j:Nat) (v:Value) (a:Act) (w:World),d.size=l.length→CInv S J w0 N env l avs conds T e size i0 ch fol O j v (fun i=>d.getD i false) a w→Region.ready .any l.toArray d=[]→Q .normal a w:=fun d j v a w hl h hnil=>by
  have hall:=ZbM hl hback hnil
  have he:(fun i=>d.getD i false)=fun i=>decide (i<l.length):=by
   funext i
   by_cases hi:i<l.length
   · simp[hall i hi,hi]
   · simp only[hi,decide_false]
     rw[Array.getD_eq_getD_getElem?,Array.getElem?_eq_none oz]
     rfl
  rw[he]at h
  exact hq _ _ _ _ h
 induction fuel with
 | zero=>
  intro d j v a w hl hf h
  have hnil:Region.ready .any l.toArray d=[]:=by
   cases hr:Region.ready .any l.toArray d with
   | nil=>rfl
   | cons x xs=>
    have hx:x∈Region.ready .any l.toArray d:=by rw[hr];simp
    have:=Qz (mem_ready.1 hx).1
    omega
  exact⟨hnil,fin d j v a w hl h hnil⟩
 | succ fuel ih=>
  intro d j v a w hl hf h
  refine⟨fun hnil=>fin d j v a w hl h hnil,fun i hr=>?_⟩
  obtain⟨h1,o,ho,h2⟩:=mem_ready.1 hr
  have ho':l[i]?=some o:=by simpa using ho
  have hil:i<d.size:=by rw[hl];exact(List.getElem?_eq_some_iff.1 ho').1
  have hob:=Zbw l 0 ob i o ho'
  rw[Nat.zero_add]at hob
  refine QJ ho (h.does hR hJ hJ0 hu hN ho' (by simpa [Array.getD,hil]using h1) (fun j hj=>?_) hob fun j' v' a' w' h'=>?_)
  · obtain⟨e,he,hb,rfl⟩:=mem_depsOf.1 hj
    exact h2 e he hb
  · refine wpListIn_nil ?_
    refine ih _ j' v' a' w' (by simpa using hl) (by have:=Qz h1;omega) ?_
    have he:(fun j=>(d.setIfInBounds i true).getD j false)=Ye (fun j=>d.getD j false) i:=by
     funext j
     by_cases hj:j=i
     · subst hj
       simp[Ye,Array.getD,hil]
     · simp only[Ye,if_neg hj,Array.getD_eq_getD_getElem?]
       rw[Array.getElem?_setIfInBounds_ne (fun e=>hj e.symm)]
    rw[he];exact h'
def Olds (env:List (Nat×AV)) (l:List Oper):List (Nat×Nat×AV)→Prop
 | []=>True
 | p::r=>env[p.1]?=some p.2∧(l.all fun o=>o.dst !=some p.2.1)=true∧Olds env l r
theorem Olds.mem {env:List (Nat×AV)} {l:List Oper}:∀ {ps:List (Nat×Nat×AV)},Olds env l ps→∀ p∈ps.map (·.2),p∈env∧(l.all fun o=>o.dst !=some p.1)=true
 | [],_,p,hp=>by cases hp
 | q::r,h,p,hp=>by
  rcases List.mem_cons.1 hp with rfl | hp
  · exact⟨List.mem_of_getElem? h.1,h.2.1⟩
  · exact h.2.2.mem p hp
theorem ZcB {id d:Nat} {draw:Bool} {a:Act} {w:World} (avs:Nat→AV) (conds:Nat→Bool) (env':List (Nat×Nat×AV)) (rows:List (List CD)) (hrows:(ch.map (·.2)).flatten=rows) (hR:Row n P J S w0 env l avs conds t e size bytes i0 ch fol) (hJ:Stab J) (hJ0:J w0)
 (h:So J S w0 N O env a w) (hm:P.follows .mixedOrders=true) (hu:Y4 l=true) (hN:Q9 l N=true) (hback:Zbm l=true) (hfd:(l[fol]?).bind (·.dst)=some d)
 (ob:Obs (ObR n P J S w0 env l avs conds i0 ch fol) 0 l) (hf:Olds env l env') (hq:∀ v a w,So J S w0 N (OB.row v e size rows::O) ((d,.lit v)::env'.map (·.2)) a w→Q .normal a w):(Code.region id l.toArray draw).wpIn n.F n.d P Q a w:=by
 subst hrows
 have hq':∀ j v a' w',CInv S J w0 N env l avs conds a.tmps e size i0 ch fol O j v (fun i=>decide (i<l.length)) a' w'→Q .normal a' w':=fun j v a' w' r=>by
  obtain⟨o2,x2,d2,q2,g1,_,_,_,_,g6,g7,g8,g9⟩:=hR.follow
  have hlt:fol<l.length:=(List.getElem?_eq_some_iff.1 g1).1
  have hlast:=r.inv.closed fol o2 g1 (by simpa using hlt) _ g8
  have hj:j=ch.length+1:=by
   by_cases hl0:ch.length=0
   · have:XG i0 ch (ch.length+1)=i0:=by simp[XG,hl0]
     rw[this,r.first]at hlast
     have:=r.le
     have:0<j:=by simpa using hlast
     omega
   · obtain⟨m,hm⟩:∃ m,ch.length=m+1:=⟨ch.length-1,oz⟩
     have hget:ch[m]?=some (ch[m]'(by omega)):=List.getElem?_eq_getElem _
     rw[hm,X2 hget,r.rest m _ hget]at hlast
     have h1:m+1<j:=by simpa using hlast
     have:=r.le
     omega
  subst hj
  have hup:upto ch (ch.length+1)=(ch.map (·.2)).flatten:=by simp[upto]
  have hi:=r.inv
  simp only[Zfz,Nat.succ_ne_zero,if_false,hup]at hi
  have hdd:o2.dst=some d:=by rw[g1]at hfd;exact hfd
  refine hq v a' w' ⟨hi.defs,hi.size,hi.keep,hi.x,fun p hp=>?_⟩
  rcases List.mem_cons.1 hp with rfl | hp
  · refine⟨Z7 hN g1 hdd,?_⟩
    have hval:=r.fol (by simpa using hlt) o2 d g1 hdd
    simp only
    rw[hval]
    refine Rel.of_lit _ ?_
    exact Zbr (hi.x.2.1 (OB.row v e size (ch.map (·.2)).flatten) yz)
  · obtain⟨h1,h2⟩:=hf.mem p hp
    have h3:=hi.env p h1
    refine⟨h3.1,?_⟩
    rw[hi.old p.1 fun i o hi' ho=>by
     have:=List.all_eq_true.1 h2 o (List.mem_of_getElem? hi')
     simp[ho]at this]
    exact h3.2
 have start:∀ w',Keeps All w w'→CInv S J w0 N env l avs conds a.tmps e size i0 ch fol O 0 undef (fun _=>false) a w':=fun w' hk=>
  ⟨by
   simp only[Zfz,if_true]
   exact⟨h.defs,h.size,h.keep.trans hk,Yw hJ _ _ hk h.x,fun _ _=>rfl,fun _ _ _ _ _ e _=>(by cases e),fun _ _ _ _ _ e _=>(by cases e),fun _ _ _ e=>(by cases e),fun _ h=>h,fun p hp=>⟨(h.env p hp).1,(h.env p hp).2.on hk⟩⟩,
   by simp,fun _ _ _=>by simp,oz,fun h=>by omega,fun h=>by cases h⟩
 cases draw with
 | false=>
  refine wpIn_region_lit (ZkS hR hJ hJ0 hu hN hback ob hq' l 0 0 undef a w yz rfl ?_)
  have he:(fun i=>decide (i<0))=fun _:Nat=>false:=by funext i;simp
  rw[he];exact start w (Keeps.refl _ _)
 | true=>
  refine wpIn_region_any hm (Zvm hR hJ hJ0 hu hN hback ob hq' _ _ 0 undef a _ yz ?_ ?_)
  · simp only[ZeS]
    exact Nat.le_trans List.countP_le_length yz
  · have he:(fun i=>(Array.replicate l.toArray.size false).getD i false)=fun _=>false:=by
     funext i
     simp[Array.getD]
    rw[he]
    exact start w.drew ((Keeps.refl _ _).drew)
def NextOk (J:WP) (S:Nat→Prop) (w0:World) (env:List (Nat×AV)) (l:List Oper) (avs:Nat→AV) (conds:Nat→Bool) (t:TypeId) (size bytes:Nat) (i0:Nat) (ch:List (Nat×List (List CD))) (k:Nat) (p:Nat×List (List CD)):Prop:=
 ∃ o x y q,l[p.1]?=some o∧o.op= .call { callee:=.builtin .append,args:= #[.tmp x,y],argTypes:= #[t,t] }∧o.guard=none∧avs p.1= .any∧conds p.1=true∧
  l[XG i0 ch (k+1)]?=some q∧q.dst=some x∧(ZL o).contains (XG i0 ch (k+1))=true∧(∀ r∈p.2,r.length=size)∧((upto ch (k+1)).length+p.2.length)≤maxLen∧((upto ch (k+1)).length+p.2.length)*bytes≤140737488355328∧
  ∀ O' a w,Keeps All w0 w→XO J S w0.heap.size O' w→Look (SO S O') w env l avs conds p.1 a→Rel (SO S O') w (.rd (.sl p.2)) (a.eval y)
def Nexts (p:Nat→Nat×List (List CD)→Prop):Nat→List (Nat×List (List CD))→Prop
 | _,[]=>True
 | k,x::r=>p k x∧Nexts p (k+1) r
theorem Nexts.get {p:Nat→Nat×List (List CD)→Prop}:∀ {c:List (Nat×List (List CD))} {k:Nat},Nexts p k c→∀(i:Nat) (x:Nat×List (List CD)),c[i]?=some x→p (k+i) x
 | [],_,_,i,x,h=>by simp at h
 | y::r,k,⟨h1,h2⟩,i,x,h=>by
  cases i with
  | zero=>simp at h;subst h;exact h1
  | succ i=>have:=h2.get i x (by simpa using h);rwa [Nat.add_assoc,Nat.add_comm 1 i]at this
theorem Row.mk' (app:Zjz P t e size bytes)
 (first:∃ o,l[i0]?=some o∧o.op= .buildSlice t 0 #[]∧o.guard=none∧avs i0= .any∧conds i0=true) (next:Nexts (NextOk J S w0 env l avs conds t size bytes i0 ch) 0 ch)
 (follow:∃ o x d q,l[fol]?=some o∧o.op= .assign (.tmp x)∧o.guard=none∧avs fol= .any∧conds fol=true∧l[XG i0 ch (ch.length+1)]?=some q∧q.dst=some x∧(ZL o).contains (XG i0 ch (ch.length+1))=true∧o.dst=some d)
 (hne:(ch.all fun p=>p.1 !=i0&&p.1 !=fol)=true) (hnd:(ch.zipIdx.all fun x=>ch.zipIdx.all fun y=>x.2==y.2||x.1.1 !=y.1.1)=true) (hf:(fol !=i0)=true):Row n P J S w0 env l avs conds t e size bytes i0 ch fol where
 app:=app
 first:=first
 next:=fun k p hp=>by
  have:=next.get k p hp
  rw[Nat.zero_add]at this
  obtain⟨o,x,y,q,h1,h2,h3,h4,h5,h6,h7,h8,h9,h10,h11,h12⟩:=this
  exact⟨o,x,y,q,x,h1,h2,h3,h4,h5,h6,h7,rfl,by simpa using h8,h9,h10,h11,h12⟩
 follow:=by
  obtain⟨o,x,d,q,h1,h2,h3,h4,h5,h6,h7,h8,h9⟩:=follow
  exact⟨o,x,d,q,h1,h2,h3,h4,h5,h6,h7,by simpa using h8,h9⟩
 ne:=fun k p hp=>by
  have:=List.all_eq_true.1 hne p (List.mem_of_getElem? hp)
  simpa using this
 nodup:=fun k m p q hp hq e=>by
  have h1:=List.all_eq_true.1 hnd (p,k) (by rw[List.mem_zipIdx_iff_getElem?];simpa using hp)
  have h2:=List.all_eq_true.1 h1 (q,m) (by rw[List.mem_zipIdx_iff_getElem?];simpa using hq)
  simpa [e]using h2
 fol0:=by simpa using hf
theorem Zh {p:Prop} {b:Bool} (hb:b=true) (h:b=false):p:=by rw[hb]at h;cases h
end
end Go.Proofs.YtdfadihhfppjaaaGreatDoor
