/-
  Part of the proof that MinimizeChecks returns true. Conditions: none.
-/
import Derived.Test.YtdfadihhfppjaaaGreatDoorBED
import Derived.RangeFuncCalls
open List (all_eq_true append_nil length_map map_toArray mem_cons mem_cons_of_mem mem_filter mem_map mem_of_getElem? range_succ)
namespace Go.Proofs.YtdfadihhfppjaaaGreatDoor
open Go.RowKit
def bG (S:Nat->Prop) (X:WP) (av:AV) (w:World):Value->WP:=λv w'=>Rel S w' av v/\Keeps All w w'/\X w'
section
variable {n:Rn} {P:Program} {S:Nat->Prop} {X:WP} {o:Oper} {a:Act} {w:World}
theorem en {post:Value->WP} {v:Value} {w':World} (hrun:(execOp a.eval o).run P w= .ok (.value v) w') (hp:post v w'):Does n P o a w post:=
 λK Q hK=>⟨λ_ _=>trivial,by
  show o.uponIn n.F n.d P a K Q ((o.semAt n.r a.eval).run P w)
  rw[xN hrun λ_ e=>(by cases e)];exact hK _ _ hp⟩
theorem td {post:Value->WP} {w':World} (hrun:(execOp a.eval o).run P w= .ok .skip w') (hp:post undef w'):Does n P o a w post:=
 λK Q hK=>⟨λ_ _=>trivial,by
  show o.uponIn n.F n.d P a K Q ((o.semAt n.r a.eval).run P w)
  rw[xN hrun λ_ e=>(by cases e)];exact hK _ _ hp⟩
theorem Dz {k:Nat} {f:FuncId} {args:Array Value} {R:Ending->WP} (h:CallsIn Fence.wide k P f args w R):CallsIn n.F k P f args w R:=by
 obtain⟨d,r⟩:=n
 cases r with
 | none=>exact h
 | some l=>exact h.inRound l
theorem zf {post:Value->WP} {f:FuncId} {args:Array Value} {w1:World} (hrun:(execOp a.eval o).run P w= .ok (.enter f args) w1) (hc:Calls P f args w1 λe w'=>∃ v,e= .returned v/\post v w'):Does n P o a w post:=
 λK Q hK=>⟨λ_ _=>trivial,by
  show o.uponIn n.F n.d P a K Q ((o.semAt n.r a.eval).run P w)
  rw[xN hrun λ_ e=>(by cases e)]
  refine⟨λh=>(by cases h),(Dz (callsIn_wide.2 hc)).mono λe w' h=>?_⟩
  obtain⟨v,rfl,hv⟩:=h
  exact hK _ _ hv⟩
theorem bD {post post':Value->WP} (h:Does n P o a w post) (hp:∀ v w',post v w'->post' v w'):Does n P o a w post':=
 λK Q hK=>h K Q λv w' hv=>hK v w' (hp v w' hv)
theorem cN {av:AV} {v:Value} (hrun:(execOp a.eval o).run P w= .ok (.value v) w) (hr:Rel S w av v) (Z:X w):Does n P o a w (bG S X av w):=
 en hrun ⟨hr,Keeps.refl _ _,Z⟩

def eu (P:Program) (t:TypeId):Prop:=∀ w,(isAgg t).run P w= .ok false w
def fY (P:Program) (t:TypeId) (k:Nat):Prop:=(∀ w,(isAgg t).run P w= .ok true w)/\∀ w,(sizeOf t).run P w= .ok k w
def db (P:Program) (s:TypeId) (k o:Nat):Prop:=∀ b off w,(Instr.fieldAt s (.pointer (some ⟨b,off,none⟩)) k).run P w= .ok (.pointer (some ⟨b,off+o,none⟩)) w
def dA (P:Program) (t e:TypeId) (k:Nat):Prop:=P.underlying t=some (.slice e)/\∀ w,(sizeOf e).run P w= .ok k w
def dy (P:Program) (f:FuncId):Prop:=∀ args w,(callFunc f args).run P w= .ok (.enter f args) w
theorem Dy {f:FuncId} {fn:Func} {c:Code} (hf:P.funcs[f]?=some fn) (hb:fn.body=some c) (hn:(fn.name== "runtime.NumGoroutine")=false):dy P f:=by
 intro args w
 have hn':¬ fn.name= "runtime.NumGoroutine" :=by simpa using hn
 simp[callFunc,Sem.run_bind,program,Sem.run,hf,hb,hn']

theorem b9 {x:Operand} {av:AV} (hop:o.op= .move x) (h:Rel S w av (a.eval x)) (Z:X w):Does n P o a w (bG S X av w):=
 cN (v:=a.eval x) (by simp[execOp,hop]) h Z
theorem gY {x:Operand} {av:AV} (hop:o.op= .assign x) (h:Rel S w av (a.eval x)) (Z:X w):Does n P o a w (bG S X av w):=
 cN (v:=a.eval x) (by simp[execOp,hop]) h Z
theorem H6 {c x y:Operand} {g:Bool} {av:AV} (hop:o.op= .pick c x y) (hc:Rel S w (.bool g) (a.eval c)) (ht:g=true->Rel S w av (a.eval x)) (hf:g=false->Rel S w av (a.eval y)) (Z:X w):Does n P o a w (bG S X av w):=by
 have hv:=hc.lit
 cases g with
 | true=>exact cN (v:=a.eval x) (by simp[execOp,hop,hv,asBool]) (ht rfl) Z
 | false=>exact cN (v:=a.eval y) (by simp[execOp,hop,hv,asBool]) (hf rfl) Z
theorem BF {x:Operand} {t:TypeId} {g:Bool} (hop:o.op= .unOp .not t x) (hc:Rel S w (.bool g) (a.eval x)) (Z:X w):Does n P o a w (bG S X (.bool !g) w):=by
 have hv:=hc.lit
 exact cN (v:=.bool !g) (by simp[execOp,hop,hv,Op.unary]) (Rel.aH _) Z
theorem bU {x:Operand} {t:TypeId} {c:CD} {cs:List CD} (h1:eu P t) (hop:o.op= .load t x) (h:Rel S w (.ptr (c::cs)) (a.eval x)) (Z:X w):Does n P o a w (bG S X (.rd c) w):=by
 simp only[Rel]at h
 obtain⟨b,off,us,hv,hb,hS,hr,hc⟩:=h
 match us,hr with
 | u::us,hr=>
  have h0:=hc 0 u rfl
  refine cN (v:=u) ?_ (by simp only[Rel];exact hr.1) Z
  simp[execOp,hop,hv,Instr.loadAt,Instr.sureAddr,loadVar,Sem.run_bind,h1 w]
  simp at h0
  simp[h0]
theorem mq (b off:Nat) (w:World):∀(us:List Value) (i:Nat) (acc:Array Value),(∀ j u,us[j]?=some u->w.cell? ⟨b,off+(i+j),none⟩=some u)->
 (loadCellsFrom ⟨b,off,none⟩ i us.length acc).run P w= .ok (acc++us.toArray) w
 | [],i,acc,_=>by simp[loadCellsFrom]
 | u::us,i,acc,h=>by
  have h0:=h 0 u rfl
  have ih:=mq b off w us (i+1) (acc.push u) λj v hj=>by
   have:=h (j+1) v (by simpa using hj)
   rw[show i+1+j=i+(j+1) by omega];exact this
  have tH:(⟨b,off,none⟩:Addr).add i=⟨b,off+i,none⟩:=by
   unfold Addr.add
   split
   ·rename_i h;subst h;rfl
   ·rfl
  simp only[Nat.add_zero]at h0
  simp only[List.length_cons,loadCellsFrom,Sem.run_bind,tH,load,Sem.run,h0,Result.andThen_ok]
  rw[ih]
  simp
theorem j4 {x:Operand} {t:TypeId} {k:Nat} {cs:List CD} (h1:fY P t k) (hop:o.op= .load t x) (h:Rel S w (.ptr cs) (a.eval x)) (hk:k<=cs.length) (Z:X w):Does n P o a w (bG S X (.agg (cs.take k)) w):=by
 simp only[Rel]at h
 obtain⟨b,off,us,hv,hb,hS,hr,hc⟩:=h
 have hl:=hr.length
 have hrun:=mq (P:=P) b off w (us.take k) 0 #[] λj u hj=>by
  rw[List.getElem?_take]at hj
  split at hj
  ·rw[Nat.zero_add];exact hc j u hj
  ·cases hj
 rw[List.length_take,Nat.min_eq_left oz]at hrun
 refine cN (v:=.agg (us.take k).toArray) ?_ ?_ Z
 ·simp[execOp,hop,hv,Instr.loadAt,Instr.sureAddr,loadVar,loadCells,Sem.run_bind,h1.1 w,h1.2 w,hrun]
 ·simp only[Rel]
  refine⟨_,rfl,bE.kp (by simp[hl]) λi c v h1 h2=>?_⟩
  rw[List.getElem?_take]at h1 h2
  split at h1
  ·rename_i hi
   rw[if_pos hi]at h2
   exact hr.get h1 h2
  ·cases h1
theorem cd {x:Operand} {s:TypeId} {k d:Nat} {cs:List CD} (h1:db P s k d) (hop:o.op= .fieldAddr s x k) (h:Rel S w (.ptr cs) (a.eval x)) (Z:X w):Does n P o a w (bG S X (.ptr (cs.drop d)) w):=by
 simp only[Rel]at h
 obtain⟨b,off,us,hv,hb,hS,hr,hc⟩:=h
 refine cN (v:=.pointer (some ⟨b,off+d,none⟩)) ?_ ?_ Z
 ·simp[execOp,hop,hv,h1 b off w]
 ·simp only[Rel]
  refine⟨b,off+d,us.drop d,rfl,hb,hS,bE.kp (by simp[hr.length]) λi c v h1 h2=>?_,λj u hj=>?_⟩
  ·rw[List.getElem?_drop]at h1 h2
   exact hr.get h1 h2
  ·rw[List.getElem?_drop]at hj
   rw[Nat.add_assoc];exact hc _ _ hj
theorem cb {x y:Operand} {t e:TypeId} {k:Nat} {rows:List (List CD)} {i:Int} {row:List CD} (h1:dA P t e k) (hop:o.op= .indexAddr t x y) (h:Rel S w (.rd (.sl rows)) (a.eval x)) (hy:Rel S w (.int i) (a.eval y)) (h0:0<=i) (hrow:rows[i.toNat]?=some row) (hk:row.length=k) (Z:X w):
 Does n P o a w (bG S X (.ptr row) w):=by
 simp only[Rel]at h
 have P0:=hy.lit
 obtain⟨ad,cap,hv,_,_⟩:=h.form
 rw[hv]at h
 obtain⟨b,off,rfl,hb,hS,us,hr,hc⟩:=h.at hrow
 have hlt:i.toNat<rows.length:=(List.getElem?_eq_some_iff.1 hrow).1
 refine cN (v:=.pointer (some ⟨b,off+i.toNat*k,none⟩)) ?_ ?_ Z
 ·have tH:(⟨b,off,none⟩:Addr).add (i.toNat*k)=⟨b,off+i.toNat*k,none⟩:=by
   unfold Addr.add
   split
   ·rename_i h;rw[h];rfl
   ·rfl
  have hi:0<=i/\i< (rows.length:Int):=⟨h0,oz⟩
  simp[execOp,hop,hv,P0,Instr.indexAt,asIntOf,Sem.run_bind,run_underlying h1.1,h1.2 w,hi.1,hi.2,tH]
 ·simp only[Rel]
  rw[hk]at hc
  exact⟨b,off+i.toNat*k,us,rfl,hb,hS,hr,λj u hj=>hc j u hj⟩
theorem Ud {x:Operand} {t e:TypeId} {rows:List (List CD)} (h1:P.underlying t=some (.slice e)) (hop:o.op= .call { callee:=.builtin .len,args:= #[x],argTypes:= #[t] }) (h:Rel S w (.rd (.sl rows)) (a.eval x)) (Z:X w):
 Does n P o a w (bG S X (.int rows.length) w):=by
 simp only[Rel]at h
 obtain⟨ad,cap,hv,_,_⟩:=h.form
 refine cN (v:=.int .i64 rows.length) ?_ (Rel.aH _) Z
 simp[execOp,hop,hv,resolve,invoke,builtin,Builtin.len_,Sem.run_bind,run_underlying h1,goInt]
theorem Uf {x:Operand} {t:TypeId} {s:BA} (h1:P.underlying t=some .string) (hop:o.op= .call { callee:=.builtin .len,args:= #[x],argTypes:= #[t] }) (h:Rel S w (.str s) (a.eval x)) (Z:X w):
 Does n P o a w (bG S X (.int s.size) w):=by
 have hv:=h.lit
 refine cN (v:=.int .i64 s.size) ?_ (Rel.aH _) Z
 simp[execOp,hop,hv,resolve,invoke,builtin,Builtin.len_,Sem.run_bind,run_underlying h1,goInt]
theorem gt {x:Operand} {l:List AV} {i:Nat} {av:AV} (hop:o.op= .extract x i) (h:Rel S w (.bF l) (a.eval x)) (hi:l[i]?=some av) (Z:X w):Does n P o a w (bG S X av w):=by
 simp only[Rel]at h
 obtain⟨us,hv,hr⟩:=h
 have key:∀(l:List AV) (us:List Value) (i:Nat) (av:AV),bi S w l us->l[i]?=some av->∃ u,us[i]?=some u/\Rel S w av u:=by
  intro l
  induction l with
  | nil=>intro us i av _ h;simp at h
  | cons b l ih=>
   intro us i av hr hi
   simp only[bi]at hr
   obtain⟨u,us',rfl,h1,h2⟩:=hr
   cases i with
   | zero=>simp at hi;subst hi;exact⟨u,rfl,h1⟩
   | succ i=>obtain⟨u',h3,h4⟩:=ih us' i av h2 (by simpa using hi);exact⟨u',by simpa using h3,h4⟩
 obtain⟨u,hu,PB⟩:=key l us i av hr hi
 exact cN (v:=u) (by simp[execOp,hop,hv,Instr.extract,hu]) PB Z
theorem fk {x:Operand} {t:TypeId} {cs:List CD} (hop:o.op= .box t x) (h:Rel S w (.agg cs) (a.eval x)) (hS:S w.heap.size) (Z:∀ w',Keeps All w w'->X w'):Does n P o a w (bG S X (.ptr cs) w):=by
 simp only[Rel]at h
 obtain⟨us,hv,hr⟩:=h
 have hk:Keeps All w (w.alloc (.cells us.toArray t)):=(Keeps.refl _ _).alloc _
 refine en (v:=.pointer (some ⟨w.heap.size,0,none⟩)) (w':=w.alloc (.cells us.toArray t)) ?_ ⟨?_,hk,Z _ hk⟩
 ·simp[execOp,hop,hv,Instr.box,newVar,newRow,newObj,Sem.run,Value.cells]
 ·simp only[Rel]
  refine⟨w.heap.size,0,us,rfl,by simp,hS,hr.keep hk λ_ _ _=>trivial,λj u hj=>?_⟩
  have:(w.alloc (.cells us.toArray t)).heap[w.heap.size]?=some (.cells us.toArray t):=by
   show(w.heap.push _)[w.heap.size]?=_
   simp
  unfold World.cell?
  simp only[this]
  simpa using hj
theorem xy {f:FuncId} {args:Array Operand} {ts:Array TypeId} {av:AV} (h1:dy P f) (hop:o.op= .call { callee:=.value (.func f),args:=args,argTypes:=ts })
 (hc:Calls P f (args.map a.eval) w λe w'=>∃ v,e= .returned v/\Rel S w' av v/\Keeps All w w'/\X w'):Does n P o a w (bG S X av w):=by
 refine zf (f:=f) (args:=args.map a.eval) (w1:=w) ?_ hc
 have h2:=h1 (args.map a.eval++ #[]) w
 simp only[Array.append_empty]at h2
 simp[execOp,hop,resolve,Act.eval,Deferred.ofValue,invoke]
 exact h2

theorem j3 {op:BinOp} {x y:Operand} {t u:TypeId} {v1 v2 v:Value} (bw:io v) (hg:(eqGuard op t x y v1 v2).run P w= .ok () w) (hrun:(binOp op t v1 v2).run P w= .ok v w) (hop:o.op= .binOp op t x y u) (h1:Rel S w (.lit v1) (a.eval x)) (h2:Rel S w (.lit v2) (a.eval y)) (Z:X w):Does n P o a w (bG S X (.lit v) w):=by
 refine cN (v:=v) ?_ (Rel.aH _ bw) Z
 rw[execOp,hop]
 simp only[h1.lit,h2.lit,Sem.run_bind,hg,Result.andThen_ok,hrun]
 rfl
theorem nR (op:BinOp) (t:TypeId) (x y:Operand) (k:IntKind) (i j:Int) (w:World):(eqGuard op t x y (.int k i) (.int k j)).run P w= .ok () w:=by
 cases op<;>rfl
theorem rI (op:BinOp) (t:TypeId) (x y:Operand) (i j:BA) (w:World):(eqGuard op t x y (.string i) (.string j)).run P w= .ok () w:=by
 cases op<;>rfl
theorem Oo (op:BinOp) (t:TypeId) (x y:Operand) (i j:Bool) (w:World):(eqGuard op t x y (.bool i) (.bool j)).run P w= .ok () w:=by
 cases op<;>rfl
variable {x y:Operand} {t u:TypeId}
theorem BD {k:IntKind} {i j:Int} (hop:o.op= .binOp .lss t x y u) (h1:Rel S w (.lit (.int k i)) (a.eval x)) (h2:Rel S w (.lit (.int k j)) (a.eval y)) (Z:X w):Does n P o a w (bG S X (.bool (decide (i<j))) w):=
 j3 True.intro (nR ..) (by simp[binOp,Op.intCmp]) hop h1 h2 Z
theorem H2 {k:IntKind} {i j:Int} (hop:o.op= .binOp .leq t x y u) (h1:Rel S w (.lit (.int k i)) (a.eval x)) (h2:Rel S w (.lit (.int k j)) (a.eval y)) (Z:X w):Does n P o a w (bG S X (.bool (decide (i<=j))) w):=
 j3 True.intro (nR ..) (by simp[binOp,Op.intCmp]) hop h1 h2 Z
theorem H0 {k:IntKind} {i j:Int} (hop:o.op= .binOp .gtr t x y u) (h1:Rel S w (.lit (.int k i)) (a.eval x)) (h2:Rel S w (.lit (.int k j)) (a.eval y)) (Z:X w):Does n P o a w (bG S X (.bool (decide (j<i))) w):=
 j3 True.intro (nR ..) (by simp[binOp,Op.intCmp]) hop h1 h2 Z
theorem HZ {k:IntKind} {i j:Int} (hop:o.op= .binOp .geq t x y u) (h1:Rel S w (.lit (.int k i)) (a.eval x)) (h2:Rel S w (.lit (.int k j)) (a.eval y)) (Z:X w):Does n P o a w (bG S X (.bool (decide (j<=i))) w):=
 j3 True.intro (nR ..) (by simp[binOp,Op.intCmp]) hop h1 h2 Z
theorem HT {k:IntKind} {i j:Int} (hop:o.op= .binOp .eql t x y u) (h1:Rel S w (.lit (.int k i)) (a.eval x)) (h2:Rel S w (.lit (.int k j)) (a.eval y)) (Z:X w):Does n P o a w (bG S X (.bool (decide (i=j))) w):=
 j3 True.intro (nR ..) (by simp[binOp,Op.intCmp];rfl) hop h1 h2 Z
theorem H4 {k:IntKind} {i j:Int} (hop:o.op= .binOp .neq t x y u) (h1:Rel S w (.lit (.int k i)) (a.eval x)) (h2:Rel S w (.lit (.int k j)) (a.eval y)) (Z:X w):Does n P o a w (bG S X (.bool (!decide (i=j))) w):=
 j3 True.intro (nR ..) (by simp[binOp,Op.intCmp];rfl) hop h1 h2 Z
theorem qE {i j:Int} (hop:o.op= .binOp .add t x y u) (h1:Rel S w (.int i) (a.eval x)) (h2:Rel S w (.int j) (a.eval y)) (m6: -9223372036854775808<=i+j) (hhi:i+j<=9223372036854775807) (Z:X w):Does n P o a w (bG S X (.int (i+j)) w):=
 j3 True.intro (nR ..) (by simp only[binOp,ne_eq,not_true,if_false,Op.intArith,IntWalk.i64_in _ ⟨m6,hhi⟩];rfl) hop h1 h2 Z
theorem BH {i j:Int} (hop:o.op= .binOp .sub t x y u) (h1:Rel S w (.int i) (a.eval x)) (h2:Rel S w (.int j) (a.eval y)) (m6: -9223372036854775808<=i-j) (hhi:i-j<=9223372036854775807) (Z:X w):Does n P o a w (bG S X (.int (i-j)) w):=
 j3 True.intro (nR ..) (by simp only[binOp,ne_eq,not_true,if_false,Op.intArith,IntWalk.i64_in _ ⟨m6,hhi⟩];rfl) hop h1 h2 Z
theorem rn (a b:BA):(a.toList==b.toList)=decide (a=b):=by
 by_cases h:a=b
 ·subst h;simp
 ·simp only[h,decide_false]
  rw[beq_eq_false_iff_ne]
  intro e
  apply h
  rw[ByteArray.toList_eq,ByteArray.toList_eq]at e
  exact ByteArray.ext (Array.toList_inj.1 e)
theorem T8 {i j:BA} (hop:o.op= .binOp .eql t x y u) (h1:Rel S w (.str i) (a.eval x)) (h2:Rel S w (.str j) (a.eval y)) (Z:X w):Does n P o a w (bG S X (.bool (decide (i=j))) w):=
 j3 True.intro (rI ..) (by simp only[binOp,Op.stringOp,rn];rfl) hop h1 h2 Z
theorem Ui {i j:BA} (hop:o.op= .binOp .neq t x y u) (h1:Rel S w (.str i) (a.eval x)) (h2:Rel S w (.str j) (a.eval y)) (Z:X w):Does n P o a w (bG S X (.bool (!decide (i=j))) w):=
 j3 True.intro (rI ..) (by simp only[binOp,Op.stringOp,rn];rfl) hop h1 h2 Z
theorem Uh {i j:BA} (hop:o.op= .binOp .lss t x y u) (h1:Rel S w (.str i) (a.eval x)) (h2:Rel S w (.str j) (a.eval y)) (Z:X w):Does n P o a w (bG S X (.bool (Op.bytesLess i.toList j.toList)) w):=
 j3 True.intro (rI ..) (by simp only[binOp,Op.stringOp];rfl) hop h1 h2 Z
theorem T9 {i j:BA} (hop:o.op= .binOp .geq t x y u) (h1:Rel S w (.str i) (a.eval x)) (h2:Rel S w (.str j) (a.eval y)) (Z:X w):Does n P o a w (bG S X (.bool (!Op.bytesLess i.toList j.toList)) w):=
 j3 True.intro (rI ..) (by simp only[binOp,Op.stringOp];rfl) hop h1 h2 Z
theorem uE {s:BA} {i:Int} {b:UInt8} (ht:P.underlying t=some .string) (hop:o.op= .index t x y) (h1:Rel S w (.str s) (a.eval x)) (h2:Rel S w (.int i) (a.eval y)) (h0:0<=i) (hb:s.data.toList[i.toNat]?=some b) (Z:X w):Does n P o a w (bG S X (.lit (.int .u8 b.toNat)) w):=by
 refine cN (v:=.int .u8 b.toNat) ?_ (Rel.aH _) Z
 have hb':s[i.toNat]?=some b:=by
  obtain⟨hlt,hv⟩:=List.getElem?_eq_some_iff.1 hb
  have:i.toNat<s.size:=by simpa using hlt
  rw[getElem?_pos s i.toNat this]
  exact congrArg some hv
 simp[execOp,hop,h1.lit,h2.lit,Instr.index,asIntOf,Sem.run_bind,run_underlying ht,h0,hb']
end

section
variable {n:Rn} {P:Program} {K S:Nat->Prop} {w0:World} {N:Nat} {env:List (Nat×AV)} {X:WP}
theorem St.get {a:Act} {w:World} (h:St K S w0 N env X a w) (m:Nat) {s:Nat} {av:AV} (he:env[m]?=some (s,av)):Rel S w av (a.eval (.tmp s)):=(h.env (s,av) (mem_of_getElem? he)).2
def dP (d:Nat) (env:List (Nat×AV)):List (Nat×AV):=env.filter λp=>p.1 !=d
theorem St.put {a:Act} {w w':World} (h:St K S w0 N env X a w) {d:Nat} (hd:d<N) {v:Value} {av:AV} (hp:bG S X av w v w'):St K S w0 N ((d,av)::dP d env) X (a.put (some d) v) w' where
 defs:=by rw[uB];exact h.defs
 size:=by rw[uC];exact h.size
 keep:=h.keep.trans (hp.2.1.sub λ_ _ _=>trivial)
 x:=hp.2.2
 env:=λp hm=>by
  rcases mem_cons.1 hm with rfl | hm
  ·exact⟨hd,by rw[la _ _ _ (by rw[h.size];exact hd)];exact hp.1⟩
  ·obtain⟨h1,h2⟩:=mem_filter.1 hm
   obtain⟨h3,h4⟩:=h.env p h1
   refine⟨h3,?_⟩
   rw[ju _ _ _ _ (λe=>by cases e;simp at h2)]
   exact h4.on hp.2.1
theorem sq {ops:Array Oper} {Q:Exit->Act->WP} {o:Oper} {rest:List Oper} {d:Nat} (av:AV) (hg:o.guard=none) (hd:o.dst=some d) (hN:d<N)
 (ob:∀ a w,St K S w0 N env X a w->Does n P o a w (bG S X av w)) (next:∀ a w,St K S w0 N ((d,av)::dP d env) X a w->wpListIn n.F n.d P ops Q rest a w):
 ∀ a w,St K S w0 N env X a w->wpListIn n.F n.d P ops Q (o::rest) a w:=λa w h=>by
 refine wpListIn_plain hg λK' hK=>ob a w h K' Q λv w' hp=>?_
 rw[hd]
 exact hK _ _ (next _ _ (h.put hN hp))
theorem sy {ops:Array Oper} {Q:Exit->Act->WP} {o:Oper} {rest:List Oper} {d:Nat} (av:AV) (ob:∀ {a w},St K S w0 N env X a w->Does n P o a w (bG S X av w)) (next:∀ a w,St K S w0 N ((d,av)::dP d env) X a w->wpListIn n.F n.d P ops Q rest a w)
 (hg:o.guard=none:=by exact rfl) (hd:o.dst=some d:=by exact rfl) (hN:d<N:=by exact Nat.le_of_ble_eq_true rfl):∀ a w,St K S w0 N env X a w->wpListIn n.F n.d P ops Q (o::rest) a w:=sq av hg hd hN (λ_ _ h=>ob h) next
theorem VE {ops:Array Oper} {Q:Exit->Act->WP} (h:∀ a w,St K S w0 N env X a w->Q .normal a w):∀ a w,St K S w0 N env X a w->wpListIn n.F n.d P ops Q [] a w:=λa w hs=>wpListIn_nil (h a w hs)

variable {Q:Exit->Act->WP}
def Tr (n:Rn) (P:Program) (A:Act->WP) (c:Code) (Q:Exit->Act->WP):Prop:=∀ a w,A a w->c.wpIn n.F n.d P Q a w
variable {A B:Act->WP}
theorem g5 {c:Code} (h:Tr n P B c Q) (lZ:∀ a w,A a w->B a w):Tr n P A c Q:=λa w ha=>h a w (lZ a w ha)
theorem cC {id:Nat} {l:List Oper} (h:∀ a w,A a w->wpListIn n.F n.d P l.toArray Q l a w):Tr n P A (.region id l.toArray false) Q:=λa w ha=>wpIn_region_lit (h a w ha)
theorem ak (h:∀ a w,A a w->Q .normal a w):Tr n P A .skip Q:=λa w ha=>wpIn_skip (h a w ha)
theorem aW {id:Nat} (h:∀ a w,A a w->Q (.exit id) a w):Tr n P A (.exit id) Q:=λa w ha=>wpIn_exit (h a w ha)
theorem aX (h:∀ a w,A a w->Q .ret a w):Tr n P A .ret Q:=λa w ha=>wpIn_ret (h a w ha)
theorem ax {id:Nat} {c:Code} (h:Tr n P A c (Exit.inBlock id Q)):Tr n P A (.block id c) Q:=λa w ha=>wpIn_block (h a w ha)
theorem I7 {c:Operand} {x y:Code} {s m:Nat} (g:Bool) (he:env[m]?=some (s,.bool g)) (hc:c= .tmp s) (ht:g=true->Tr n P (St K S w0 N env X) x Q) (hf:g=false->Tr n P (St K S w0 N env X) y Q):Tr n P (St K S w0 N env X) (.cond c x y) Q:=λa w ha=>
 wpIn_cond_split (t:=g) (by rw[hc];exact(ha.get m he).lit) (λh=>ht h a w ha) λh=>hf h a w ha
theorem AP (p:Nat->Prop) (h:∃ k,p k):∃ m,p m/\∀ k,p k->m<=k:=by
 classical
 obtain⟨k,hk⟩:=h
 induction k using Nat.strongRecOn with
 | ind k ih=>
  by_cases Z:∃ j,j<k/\p j
  ·obtain⟨j,hj,hp⟩:=Z
   exact ih j hj hp
  ·exact⟨k,hk,λj hj=>Nat.le_of_not_lt λhlt=>Z ⟨j,hlt,hj⟩⟩
theorem I8 {ι:Type} {c:Code} (I:ι->Act->WP) (μ:ι->Nat) (h0:∀ a w,A a w->∃ i,I i a w) (h:∀ i,Tr n P (I i) c (Exit.then (λa w=>∃ j,I j a w/\μ j<μ i) Q)):Tr n P A (.loop c) Q:=λa w ha=>by
 classical
 have hex:=h0 a w ha
 let p:Act->World->Nat->Prop:=λa w k=>∃ i,I i a w/\μ i=k
 let m:Act->World->Nat:=λa w=>if Z:∃ k,p a w k then Classical.choose (AP (p a w) Z)else 0
 have hm:∀ a w,(∃ i,I i a w)->∃ i,I i a w/\μ i=m a w:=λa w ⟨i,hi⟩=>by
  have Z:∃ k,p a w k:=⟨_,i,hi,rfl⟩
  have:=(Classical.choose_spec (AP (p a w) Z)).1
  simp only[m,dif_pos Z]
  exact this
 have hle:∀ a w i,I i a w->m a w<=μ i:=λa w i hi=>by
  have Z:∃ k,p a w k:=⟨_,i,hi,rfl⟩
  have:=(Classical.choose_spec (AP (p a w) Z)).2 (μ i) ⟨i,hi,rfl⟩
  simp only[m,dif_pos Z]
  exact this
 refine wpIn_loop (λa w=>∃ i,I i a w) m hex λa w hi=>?_
 obtain⟨i,hi,rO⟩:=hm a w hi
 refine wpIn_mono (h i a w hi) λe a' w' hq=>?_
 cases e with
 | normal=>
  obtain⟨j,hj,hlt⟩:=hq
  exact⟨⟨j,hj⟩,Nat.lt_of_le_of_lt (hle a' w' j hj) (by rw[<-rO];exact hlt)⟩
 | _=>exact hq

def Fn (P:Program) (J:WP) (f:FuncId) (args:List AV) (res:AV):Prop:=
 ∀(S:Nat->Prop) (w:World) (vs:List Value),(∀ b,w.heap.size<=b->S b)->J w->bi S w args vs->Calls P f vs.toArray w λe w'=>∃ v,e= .returned v/\Rel S w' res v/\Keeps All w w'/\J w'
theorem cV {S:Nat->Prop} {X J:WP} {o:Oper} {a:Act} {w:World} {f:FuncId} {args:List Operand} {ts:Array TypeId} {am:List AV} {av:AV} (hF:Fn P J f am av) (h1:dy P f) (hop:o.op= .call { callee:=.value (.func f),args:=args.toArray,argTypes:=ts })
 (hS:∀ b,w.heap.size<=b->S b) (V:J w) (ha:bi S w am (args.map a.eval)) (Z:∀ w',Keeps All w w'->X w'):Does n P o a w (bG S X av w):=by
 refine xy h1 hop ?_
 have:=hF S w _ hS V ha
 rw[map_toArray]
 exact Calls.mono this λe w' ⟨v,h1,h2,h3,_⟩=>⟨v,h1,h2,h3,Z w' h3⟩
def jq {α:Type}:Nat->List α->List (Nat×α)
 | _,[]=>[]
 | i,x::r=>(i,x)::jq (i+1) r
theorem N0 {J:WP} {f:FuncId} {fn:Func} {c:Code} {args:List AV} {res:AV} (hf:P.funcs[f]?=some fn) (hb:fn.body=some c) (hN:fn.ntmps=N) (hl:args.length<=N)
 (h:∀(S:Nat->Prop) (w0:World),(∀ b,w0.heap.size<=b->S b)->J w0->Tr 5 P (St All S w0 N (jq 0 args) J) c (bodyPost P fn λe w'=>∃ v,e= .returned v/\Rel S w' res v/\Keeps All w0 w'/\J w')):Fn P J f args res:=by
 intro S w vs hS V ha
 refine(callsIn_wide (n:=5)).1 (callsIn_of_wp hf hb trivial (h S w hS V _ _ ?_) rfl)
 have hlen:vs.length=args.length:=by
  clear h hl
  induction args generalizing vs with
  | nil=>simp only[bi]at ha;subst ha;rfl
  | cons a l ih=>simp only[bi]at ha;obtain⟨u,us',rfl,_,h2⟩:=ha;simp[ih us' h2]
 have hsz:(vs.toArray++Array.replicate (fn.ntmps-vs.toArray.size) undef).size=N:=by
  simp;omega
 refine⟨rfl,hsz,Keeps.refl _ _,V,?_⟩
 have key:∀(args:List AV) (us pre:List Value) (i:Nat),pre.length=i->vs=pre++us->bi S w args us->∀ p∈jq i args,p.1<N/\Rel S w p.2 ((vs.toArray++Array.replicate (fn.ntmps-vs.toArray.size) undef).getD p.1 undef):=by
  intro args
  induction args with
  | nil=>intro us pre i _ _ _ p hp;cases hp
  | cons x l ih=>
   intro us pre i hi hv hr p hp
   simp only[bi]at hr
   obtain⟨u,us',rfl,h1,h2⟩:=hr
   rcases mem_cons.1 hp with rfl | hp
   ·have hlt:i<vs.length:=by rw[hv];simp;omega
    refine⟨oz,?_⟩
    have:(vs.toArray++Array.replicate (fn.ntmps-vs.toArray.size) undef).getD i undef=u:=by
     rw[Array.getD_eq_getD_getElem?,Array.getElem?_append_left (by simpa using hlt)]
     simp[hv,<-hi]
    rw[this];exact h1
   ·exact ih us' (pre++[u]) (i+1) (by simp[hi]) (by simp[hv]) h2 p hp
 exact key args vs [] 0 rfl rfl ha
theorem fE {J:WP} {f:FuncId} {fn:Func} {c:Code} {args:List AV} {res:AV} (hf:P.funcs[f]?=some fn)
 (h:∀(S:Nat->Prop) (w0:World),(∀ b,w0.heap.size<=b->S b)->J w0->Tr 5 P (St All S w0 N (jq 0 args) J) c (bodyPost P fn λe w'=>∃ v,e= .returned v/\Rel S w' res v/\Keeps All w0 w'/\J w')) (hb:fn.body=some c:=by exact rfl) (hN:fn.ntmps=N:=by exact rfl) (hl:args.length<=N:=by exact Nat.le_of_ble_eq_true rfl):Fn P J f args res:=N0 hf hb hN hl h
theorem QC {J:WP} {fn:Func} {t m:Nat} {res:AV} {a:Act} {w:World} (hr:fn.results= #[.tmp t]) (h:St All S w0 N env J a w) (he:env[m]?=some (t,res)):bodyPost P fn (λe w'=>∃ v,e= .returned v/\Rel S w' res v/\Keeps All w0 w'/\J w') .ret a w:=
 ⟨h.defs,a.tmps.getD t undef,by simp[results,hr,Sem.run_pure],_,rfl,h.get m he,h.keep,h.x⟩
theorem QD {J:WP} {fn:Func} {t u m k:Nat} {r1 r2:AV} {a:Act} {w:World} (hr:fn.results= #[.tmp t,.tmp u]) (h:St All S w0 N env J a w) (he:env[m]?=some (t,r1)) (k4:env[k]?=some (u,r2)):bodyPost P fn (λe w'=>∃ v,e= .returned v/\Rel S w' (.bF [r1,r2]) v/\Keeps All w0 w'/\J w') .ret a w:=
 ⟨h.defs,.tuple #[a.tmps.getD t undef,a.tmps.getD u undef],by simp[results,hr,Sem.run_pure],_,rfl,by simp only[Rel,bi];exact⟨_,rfl,_,_,rfl,h.get m he,_,_,rfl,h.get k k4,rfl⟩,h.keep,h.x⟩
end
theorem cO {P:Program} {f:FuncId} {fn:Func} (hf:P.funcs[f]?=some fn) (hb:fn.body.isSome=true:=by exact rfl) (hn:(fn.name== "runtime.NumGoroutine")=false:=by exact rfl):dy P f:=by
  obtain⟨c,hc⟩:=Option.isSome_iff_exists.1 hb
  exact Dy hf hc hn
def G {α:Type} [Inhabited α] (xs:List α) (k:Nat):α:=xs.getD k default
theorem cF {α:Type} [Inhabited α] {xs:List α} {k:Nat} (h:k<xs.length):G xs k=xs[k]:=by simp[G,List.getD,h]
theorem mU {α:Type} [Inhabited α] {xs:List α} {k:Nat} (h:k<xs.length):xs[k]?=some (G xs k):=by rw[cF h,List.getElem?_eq_getElem h]
theorem aE {α:Type} [Inhabited α] {xs:List α} {k:Nat} (h:k<xs.length):G xs k∈xs:=by rw[cF h];exact List.getElem_mem h
theorem ej {α:Type} [Inhabited α] {xs:List α} {x:α} (h:x∈xs):∃ k,k<xs.length/\G xs k=x:=by
 obtain⟨k,hk,rfl⟩:=List.getElem_of_mem h
 exact⟨k,hk,cF hk⟩
theorem dF {α:Type} [Inhabited α] {xs:List α} {k:Nat} (h:k<xs.length):xs.take (k+1)=xs.take k++[G xs k]:=by rw[List.take_succ_eq_append_getElem h,cF h]
theorem ib {α:Type} [Inhabited α] {xs ys:List α} (h1:xs.length=ys.length) (h2:∀ j,j<xs.length->G xs j=G ys j):xs=ys:=
 List.ext_getElem h1 λi a b=>by have:=h2 i a;rwa [cF a,cF b]at this
theorem cl {α:Type} [Inhabited α] {f:α->List CD} {xs:List α} {k:Nat} (h:k<xs.length):(xs.map f)[((k:Nat):Int).toNat]?=some (f (G xs k)):=by
 rw[Int.toNat_natCast,List.getElem?_map,mU h];rfl
theorem ol {α:Type} [Inhabited α] {f:α->List CD} {xs:List α} {i:Int} (h0:0<=i) (h:i< (xs.length:Int)):(xs.map f)[i.toNat]?=some (f (G xs i.toNat)):=by
 rw[List.getElem?_map,mU oz];rfl
section
variable {n:Rn} {P:Program} {S:Nat->Prop} {X:WP} {o:Oper} {a:Act} {w:World} {x y z:Operand} {t u e:TypeId}
theorem kq {α:Type} {f:α->List CD} {xs:List α} (h1:P.underlying t=some (.slice e)) (hop:o.op= .call { callee:=.builtin .len,args:= #[x],argTypes:= #[t] }) (h:Rel S w (.rd (.sl (xs.map f))) (a.eval x)) (Z:X w):
 Does n P o a w (bG S X (.int xs.length) w):=by
 have:=Ud (n:=n) h1 hop h Z
 rwa [length_map]at this
theorem T0 {g b:Bool} (hop:o.op= .pick z x (.const (.bool false))) (hc:Rel S w (.bool g) (a.eval z)) (ht:g=true->Rel S w (.bool b) (a.eval x)) (Z:X w):Does n P o a w (bG S X (.bool (g&&b)) w):=by
 refine H6 hop hc (λhg=>?_) (λhg=>?_) Z
 ·have:=ht hg;rw[hg];exact this
 ·rw[hg];exact Rel.aH _
theorem BG {g b:Bool} (hop:o.op= .pick z (.const (.bool true)) y) (hc:Rel S w (.bool g) (a.eval z)) (hf:g=false->Rel S w (.bool b) (a.eval y)) (Z:X w):Does n P o a w (bG S X (.bool (g||b)) w):=by
 refine H6 hop hc (λhg=>?_) (λhg=>?_) Z
 ·rw[hg];exact Rel.aH _
 ·have:=hf hg;rw[hg];exact this
theorem HU {g b:Bool} (ht:P.underlying t=some .bool) (hop:o.op= .binOp .eql t x y u) (h1:Rel S w (.bool g) (a.eval x)) (h2:Rel S w (.bool b) (a.eval y)) (Z:X w):Does n P o a w (bG S X (.bool (g==b)) w):=by
 refine j3 True.intro (Oo ..) ?_ hop h1 h2 Z
 simp only[binOp,Op.equal,Op.maxDepth,Sem.run_bind]
 have:(Op.equalIn 10000 t (.bool g) (.bool b)).run P w= .ok (g==b) w:=by
  show(Op.equalIn (9999+1) t (.bool g) (.bool b)).run P w=_
  unfold Op.equalIn
  simp[Sem.run_bind,run_underlying ht]
 rw[this]
 rfl
def yw (P:Program) (t:TypeId):Prop:=∀(a b c d:BA) (w:World) (x y:Operand),(eqGuard .eql t x y (.agg #[.string a,.string b]) (.agg #[.string c,.string d])).run P w= .ok () w/\(eqGuard .neq t x y (.agg #[.string a,.string b]) (.agg #[.string c,.string d])).run P w= .ok () w/\
 (Op.equal t (.agg #[.string a,.string b]) (.agg #[.string c,.string d])).run P w= .ok (decide (a=c)&&decide (b=d)) w
theorem vg {c d:BA} {v:Value} (h:Rel S w (.agg [.lit (.string c),.lit (.string d)]) v):v= .agg #[.string c,.string d]:=by
 simp only[Rel]at h
 obtain⟨us,rfl,hr⟩:=h
 match us,hr with
 | [p,q],hr=>
  obtain rfl:=hr.1.aH
  obtain rfl:=hr.2.1.aH
  rfl
theorem BB {c d c' d':BA} (ht:yw P t) (hop:o.op= .binOp .eql t x y u) (h1:Rel S w (.agg [.lit (.string c),.lit (.string d)]) (a.eval x)) (h2:Rel S w (.agg [.lit (.string c'),.lit (.string d')]) (a.eval y)) (Z:X w):
 Does n P o a w (bG S X (.bool (decide (c=c')&&decide (d=d'))) w):=by
 obtain⟨g1,_,g3⟩:=ht c d c' d' w x y
 refine cN (v:=.bool (decide (c=c')&&decide (d=d'))) ?_ (Rel.aH _) Z
 rw[execOp,hop]
 simp only[vg h1,vg h2,Sem.run_bind,g1,Result.andThen_ok,binOp,g3]
 rfl
theorem BE {c d c' d':BA} (ht:yw P t) (hop:o.op= .binOp .neq t x y u) (h1:Rel S w (.agg [.lit (.string c),.lit (.string d)]) (a.eval x)) (h2:Rel S w (.agg [.lit (.string c'),.lit (.string d')]) (a.eval y)) (Z:X w):
 Does n P o a w (bG S X (.bool (!(decide (c=c')&&decide (d=d')))) w):=by
 obtain⟨_,g1,g3⟩:=ht c d c' d' w x y
 refine cN (v:=.bool (!(decide (c=c')&&decide (d=d')))) ?_ (Rel.aH _) Z
 rw[execOp,hop]
 simp only[vg h1,vg h2,Sem.run_bind,g1,Result.andThen_ok,binOp,g3]
 rfl
theorem xh {v:Value} (h:Rel S w (.lit (.slice none 0 0)) v):Rel S w (.rd (.sl [])) v:=by
 rw[h.lit];simp only[Rel];exact .nil _ _ aI
theorem Uk {k:Nat} {rows:List (List CD)} {v1 v2:Option Operand} {lo hi:Nat} (h1:dA P t e k) (hk:∀ r∈rows,r.length=k) (hop:o.op= .slice t x v1 v2 none) (h:Rel S w (.rd (.sl rows)) (a.eval x))
 (hl:match v1 with | some q=>Rel S w (.int lo) (a.eval q) | none=>lo=0) (hh:match v2 with | some q=>Rel S w (.int hi) (a.eval q) | none=>hi=rows.length) (h2:lo<=hi) (h3:hi<=rows.length) (Z:X w):
 Does n P o a w (bG S X (.rd (.sl ((rows.take hi).drop lo))) w):=by
 simp only[Rel]at h
 obtain⟨ad,cap,hv,l7,dg⟩:=h.form
 have hrun:(execOp a.eval o).run P w= .ok (.value (.slice (if cap=lo then ad else ad.map (·.add (lo*k))) (hi-lo) (cap-lo))) w:=by
  have e1:∀ q,v1=some q->a.eval q= .int .i64 lo:=λq hq=>by subst hq;exact hl.lit
  have e2:∀ q,v2=some q->a.eval q= .int .i64 hi:=λq hq=>by subst hq;exact hh.lit
  have g2:hi<=cap:=by omega
  rw[execOp,hop]
  cases v1 with
  | none=>
   simp only at hl
   subst hl
   cases v2 with
   | none=>
    simp only at hh
    subst hh
    simp[hv,Instr.sliceAt,Instr.slice,Instr.sliceBounds,Sem.run_bind,run_underlying h1.1,h1.2 w]
   | some q2=>
    simp[hv,e2 q2 rfl,Instr.sliceAt,Instr.slice,Instr.sliceBounds,Instr.sliceBound,asIntOf,Sem.run_bind,run_underlying h1.1,h1.2 w,g2]
  | some q1=>
   cases v2 with
   | none=>
    simp only at hh
    subst hh
    simp[hv,e1 q1 rfl,Instr.sliceAt,Instr.slice,Instr.sliceBounds,Instr.sliceBound,asIntOf,Sem.run_bind,run_underlying h1.1,h1.2 w,h2]
   | some q2=>
    simp[hv,e1 q1 rfl,e2 q2 rfl,Instr.sliceAt,Instr.slice,Instr.sliceBounds,Instr.sliceBound,asIntOf,Sem.run_bind,run_underlying h1.1,h1.2 w,h2,g2]
 refine cN hrun ?_ Z
 simp only[Rel]
 have hlen:((rows.take hi).drop lo).length=hi-lo:=by rw[List.length_drop,List.length_take];omega
 by_cases h0:hi=lo
 ·have:(rows.take hi).drop lo=[]:=List.eq_nil_of_length_eq_zero oz
  rw[this,h0,Nat.sub_self]
  exact .nil _ _ oz
 ·rw[if_neg oz]
  rw[hv]at h
  have m8:0<rows.length:=by omega
  obtain⟨b,off,rfl,_⟩:=h.at (List.getElem?_eq_getElem m8)
  have tH:(⟨b,off,none⟩:Addr).add (lo*k)=⟨b,off+lo*k,none⟩:=by
   unfold Addr.add
   split
   ·rename_i h;rw[h];rfl
   ·rfl
  simp only[Option.map_some,tH]
  exact h.part hk h2 h3 m8
theorem jm {α:Type} {f:α->List CD} {k:Nat} (hf:∀ x,(f x).length=k) {xs:List α}:∀ r∈xs.map f,r.length=k:=λr hr=>by
 obtain⟨x,_,rfl⟩:=mem_map.1 hr
 exact hf x
theorem Um {α:Type} {f:α->List CD} {xs:List α} {k:Nat} {v1 v2:Option Operand} {lo hi:Nat} (h1:dA P t e k) (hf:∀ x,(f x).length=k) (hop:o.op= .slice t x v1 v2 none) (h:Rel S w (.rd (.sl (xs.map f))) (a.eval x))
 (hl:match v1 with | some q=>Rel S w (.int lo) (a.eval q) | none=>lo=0) (hh:match v2 with | some q=>Rel S w (.int hi) (a.eval q) | none=>hi=xs.length) (h2:lo<=hi) (h3:hi<=xs.length) (Z:X w):
 Does n P o a w (bG S X (.rd (.sl (((xs.take hi).drop lo).map f))) w):=by
 have:=Uk (n:=n) h1 (jm hf) hop h hl (by cases v2<;>simp_all) h2 (by simpa using h3) Z
 rwa [<-List.map_take,<-List.map_drop]at this
theorem Un {s:BA} {v1 v2:Option Operand} {lo hi:Nat} (h1:P.underlying t=some .string) (hop:o.op= .slice t x v1 v2 none) (h:Rel S w (.str s) (a.eval x))
 (hl:match v1 with | some q=>Rel S w (.int lo) (a.eval q) | none=>lo=0) (hh:match v2 with | some q=>Rel S w (.int hi) (a.eval q) | none=>hi=s.size) (h2:lo<=hi) (h3:hi<=s.size) (Z:X w):
 Does n P o a w (bG S X (.str (s.extract lo hi)) w):=by
 have bw:(s.extract lo hi).size<=maxLen:=by
  have h4:s.size<=maxLen:=h.sf
  have h5:(s.extract lo hi).size<=s.size:=by rw[ByteArray.size_extract];omega
  omega
 refine cN (v:=.string (s.extract lo hi)) ?_ (Rel.aH _ bw) Z
 have hv:=h.lit
 have e1:∀ q,v1=some q->a.eval q= .int .i64 lo:=λq hq=>by subst hq;exact hl.lit
 have e2:∀ q,v2=some q->a.eval q= .int .i64 hi:=λq hq=>by subst hq;exact hh.lit
 rw[execOp,hop]
 cases v1 with
 | none=>
  simp only at hl
  subst hl
  cases v2 with
  | none=>
   simp only at hh
   subst hh
   simp[hv,Instr.sliceAt,Instr.slice,Instr.sliceBounds,Sem.run_bind,run_underlying h1]
  | some q2=>
   simp[hv,e2 q2 rfl,Instr.sliceAt,Instr.slice,Instr.sliceBounds,Instr.sliceBound,asIntOf,Sem.run_bind,run_underlying h1,h3]
 | some q1=>
  cases v2 with
  | none=>
   simp only at hh
   subst hh
   simp[hv,e1 q1 rfl,Instr.sliceAt,Instr.slice,Instr.sliceBounds,Instr.sliceBound,asIntOf,Sem.run_bind,run_underlying h1,h2]
  | some q2=>
   simp[hv,e1 q1 rfl,e2 q2 rfl,Instr.sliceAt,Instr.slice,Instr.sliceBounds,Instr.sliceBound,asIntOf,Sem.run_bind,run_underlying h1,h2,h3]
end
section
variable {n:Rn} {N:Nat} {P:Program} {K S:Nat->Prop} {w0:World} {env:List (Nat×AV)} {X J:WP} {Q:Exit->Act->WP} {A:Act->WP}
theorem af {x y:Code} (h:Tr n P A x (Exit.then (λa w=>y.wpIn n.F n.d P Q a w) Q)):Tr n P A (.seq x y) Q:=λa w ha=>wpIn_seq (h a w ha)
theorem I6 {F:Prop} {c:Code} (h:F->Tr n P A c Q):Tr n P (λa w=>F/\A a w) c Q:=λa w ha=>h ha.1 a w ha.2
theorem Cd {F:Prop} {c:Code} (hf:∀ a w,A a w->F) (h:F->Tr n P A c Q):Tr n P A c Q:=λa w ha=>h (hf a w ha) a w ha
theorem AR {α:Type} {f:α->List CD} {xs:List α} {s:Nat} {a:Act} {w:World} (h:St K S w0 N env X a w) (m:Nat) (he:env[m]?=some (s,.rd (.sl (xs.map f)))):xs.length<=9223372036854775807:=by
 have h1:=h.get m he
 simp only[Rel]at h1
 obtain⟨ad,cap,_,h2,h3⟩:=h1.form
 rw[length_map]at h2
 simp only[maxLen]at h3
 omega
theorem gu {s m:Nat} {a:Act} {w:World} (h:St K S w0 N env X a w) (he:env[m]?=some (s,.lit (.slice none 0 0))):St K S w0 N ((s,.rd (.sl []))::dP s env) X a w:=
 ⟨h.defs,h.size,h.keep,h.x,λp hp=>by
  rcases mem_cons.1 hp with rfl | hp
  ·exact⟨(h.env _ (mem_of_getElem? he)).1,xh (h.get m he)⟩
  ·exact h.env p (mem_filter.1 hp).1⟩
theorem V0 {x:BA} {s:Nat} {a:Act} {w:World} (h:St K S w0 N env X a w) (m:Nat) (he:env[m]?=some (s,.str x)):x.size<=9223372036854775807:=(h.get m he).sf
theorem F2 {fn:Func} {t m:Nat} {av res:AV} {a:Act} {w:World} (hr:fn.results= #[.tmp t]) (h:St All S w0 N env J a w) (he:env[m]?=some (t,av)) (hE:av=res):bodyPost P fn (λe w'=>∃ v,e= .returned v/\Rel S w' res v/\Keeps All w0 w'/\J w') .ret a w:=by
 subst hE;exact QC hr h he
theorem di {fn:Func} {t u m k:Nat} {a1 a2 r1 r2:AV} {a:Act} {w:World} (hr:fn.results= #[.tmp t,.tmp u]) (h:St All S w0 N env J a w) (he:env[m]?=some (t,a1)) (k4:env[k]?=some (u,a2)) (hE:a1=r1) (nS:a2=r2):bodyPost P fn (λe w'=>∃ v,e= .returned v/\Rel S w' (.bF [r1,r2]) v/\Keeps All w0 w'/\J w') .ret a w:=by
 subst hE;subst nS;exact QD hr h he k4
def aR (J:WP):Prop:=∀ w w',Keeps All w w'->J w->J w'
theorem aR.drew (h:aR J):∀ w,J w->J w.drew:=λw hw=>h w w.drew ((Keeps.refl _ _).drew) hw
theorem aN {w:World}:bi S w [] []:=by simp only[bi]
theorem aq {w:World} {a:AV} {l:List AV} {u:Value} {us:List Value} (h:Rel S w a u) (k:bi S w l us):bi S w (a::l) (u::us):=by simp only[bi];exact⟨u,us,rfl,h,k⟩
theorem sV {s:BA} {k:Nat} (h:k<s.size):s.data.toList[((k:Nat):Int).toNat]?=some (G s.data.toList k):=by
 rw[Int.toNat_natCast];exact mU (by simpa using h)
end
theorem ay {P:Prop} (h:P:=by first | omega | (simp;omega) | grind[aE]):P:=h
def jA (P:Program) (t e:TypeId) (size bytes:Nat):Prop:=
 P.underlying t=some (.slice e)/\(∃ i z,P.info? e=some i/\i.zero=some z/\i.size=size/\i.bytes=bytes/\z.cells.size=size)/\0<size/\∀ w,(sizeOf e).run P w= .ok size w
structure OB where
 blk:Nat->Prop
 inv:Nat->(Nat->Prop)->WP
 mv:∀ {lo:Nat} {S S' T:Nat->Prop} {w w':World},inv lo S w->Keeps T w w'->(∀ k,blk k->T k)->(∀ k,k<w.heap.size->S k->T k/\S' k)->inv lo S' w'
 lt:∀ {lo:Nat} {S:Nat->Prop} {w:World},inv lo S w->∀ k,blk k->lo<=k/\k<w.heap.size
theorem Keeps.ownsRow {S:Nat->Prop} {w w':World} {lo:Nat} {e:TypeId} {size n:Nat} {v:Value} {xs:List Value} (h:w.ownsRow lo e size v n xs) (hk:Keeps S w w') (hs:∀ k,v.ownBlock=some k->S k):w'.ownsRow lo e size v n xs:=by
 refine⟨h.1,?_⟩
 rcases h.2 with hn | ⟨g,cap,cur,rfl,hb,hg,rest⟩
 ·exact .inl hn
 ·exact .inr ⟨g,cap,cur,rfl,hb,(hk.block g (Array.getElem?_eq_some_iff.1 hg).1 (hs g rfl)).trans hg,rest⟩
def OB.row (v:Value) (e:TypeId) (size:Nat) (rows:List (List CD)):OB where
 blk:=λk=>v.ownBlock=some k
 inv:=λlo S w=>∃ us,w.ownsRow lo e size v rows.length us/\bE S w rows.flatten us/\∀ r∈rows,r.length=size
 mv:=λ⟨us,h1,h2,h3⟩ hk hb hs=>⟨us,Keeps.ownsRow h1 hk hb,h2.move hk hs,h3⟩
 lt:=λ⟨_,h1,_,_⟩ k hk=>h1.lt k hk
def SO (S:Nat->Prop) (O:List OB):Nat->Prop:=λb=>S b/\∀ o∈O,¬ o.blk b
def XO (J:WP) (S:Nat->Prop) (lo:Nat) (O:List OB) (w:World):Prop:=
 J w/\(∀ o∈O,o.inv lo (SO S O) w)/\O.Pairwise λa b=>∀ k,a.blk k->¬ b.blk k
@[reducible] def So (J:WP) (S:Nat->Prop) (w0:World) (N:Nat) (O:List OB) (env:List (Nat×AV)):Act->WP:=St All (SO S O) w0 N env (XO J S w0.heap.size O)
theorem SO.drop {S:Nat->Prop} {o:OB} {O:List OB} {b:Nat} (h:SO S (o::O) b):SO S O b:=⟨h.1,λp hp=>h.2 p (mem_cons_of_mem _ hp)⟩
section
variable {J:WP} {S:Nat->Prop} {lo:Nat} {O:List OB}
theorem OB.sub {o:OB} {S T:Nat->Prop} {w:World} (h:o.inv lo S w) (hs:∀ k,k<w.heap.size->S k->T k):o.inv lo T w:=o.mv h (Keeps.refl All w) (λ_ _=>trivial) λk hk h=>⟨trivial,hs k hk h⟩
theorem fo (V:aR J):aR (XO J S lo O):=λw w' hk h=>
 ⟨V w w' hk h.1,λo ho=>o.mv (h.2.1 o ho) hk (λ_ _=>trivial) λ_ _ h=>⟨trivial,h⟩,h.2.2⟩
theorem aK {w0:World} (hS:∀ b,w0.heap.size<=b->S b):∀ w,Keeps All w0 w->XO J S w0.heap.size O w->∀ b,w.heap.size<=b->SO S O b:=λw hk h b hb=>
 ⟨hS b (Nat.le_trans hk.size hb),λo ho e=>by
  have:=(o.lt (h.2.1 o ho) b e).2
  omega⟩
theorem yr {w:World} (h:J w):XO J S lo [] w:=⟨h,λo ho=>(by cases ho),.nil⟩
theorem uX {w w':World} {o:OB} (V:aR J) (h:XO J S lo O w) (hk:Keeps All w w') (hb:∀ k,o.blk k->w.heap.size<=k) (hi:o.inv lo (SO S (o::O)) w'):XO J S lo (o::O) w'/\∀ k,k<w.heap.size->SO S O k->SO S (o::O) k:=by
 have hsub:∀ k,k<w.heap.size->SO S O k->SO S (o::O) k:=λk hlt hk=>⟨hk.1,λp hp=>by
  rcases mem_cons.1 hp with rfl | hp
  ·exact λe=>by have:=hb k e;omega
  ·exact hk.2 p hp⟩
 refine⟨⟨V w w' hk h.1,λp hp=>?_,.cons (λp hp k hk e=>?_) h.2.2⟩,hsub⟩
 ·rcases mem_cons.1 hp with rfl | hp
  ·exact hi
  ·exact p.mv (h.2.1 p hp) hk (λ_ _=>trivial) λk hlt hs=>⟨trivial,hsub k hlt hs⟩
 ·have h1:=hb k hk
  have:=(p.lt (h.2.1 p hp) k e).2
  omega
theorem uY {w w':World} {o o':OB} (h:XO J S lo (o::O) w) (hJ':J w') (hk:Keeps (λb=>¬ o.blk b) w w') (hb:∀ k,o'.blk k->o.blk k∨w.heap.size<=k) (hi:o'.inv lo (SO S (o'::O)) w'):
 XO J S lo (o'::O) w'/\∀ k,k<w.heap.size->SO S (o::O) k->(¬ o.blk k)/\SO S (o'::O) k:=by
 have hsub:∀ k,k<w.heap.size->SO S (o::O) k->(¬ o.blk k)/\SO S (o'::O) k:=λk hlt hk=>⟨hk.2 o yz,hk.1,λp hp=>by
  rcases mem_cons.1 hp with rfl | hp
  ·intro e
   rcases hb k e with e | e
   ·exact hk.2 o yz e
   ·omega
  ·exact hk.2 p (mem_cons_of_mem _ hp)⟩
 have jY:=List.pairwise_cons.1 h.2.2
 refine⟨⟨hJ',λp hp=>?_,.cons (λp hp k hk e=>?_) jY.2⟩,hsub⟩
 ·rcases mem_cons.1 hp with rfl | hp
  ·exact hi
  ·exact p.mv (h.2.1 p (mem_cons_of_mem _ hp)) hk (λk hk e=>jY.1 p hp k e hk) hsub
 ·rcases hb k hk with e' | e'
  ·exact jY.1 p hp k e' e
  ·have:=(p.lt (h.2.1 p (mem_cons_of_mem _ hp)) k e).2
   omega
theorem SO.perm {S:Nat->Prop} {O O':List OB} (h:O.Perm O') {b:Nat} (hs:SO S O b):SO S O' b:=⟨hs.1,λo ho=>hs.2 o (h.mem_iff.2 ho)⟩
theorem fR {w:World} {O':List OB} (hp:O.Perm O') (h:XO J S lo O w):XO J S lo O' w:=
 ⟨h.1,λo ho=>OB.sub (h.2.1 o (hp.mem_iff.2 ho)) λ_ _ hs=>hs.perm hp,hp.pairwise_iff (λ{_ _} h k hb ha=>h k ha hb) |>.1 h.2.2⟩
theorem Xt {w:World} (V:aR J) (h:XO J S lo O w) (e:TypeId) (size:Nat):XO J S lo (OB.row (.slice none 0 0) e size []::O) w:=
 (uX (o:=OB.row (.slice none 0 0) e size []) V h (Keeps.refl _ _) (λk hk=>by simp[OB.row,Value.ownBlock]at hk) ⟨[],World.ownsRow_nil w lo e size,trivial,λr hr=>by cases hr⟩).1
theorem VA {e:TypeId} {size:Nat} {b:Nat} (h:SO S O b):SO S (OB.row (.slice none 0 0) e size []::O) b:=⟨h.1,λp hp=>by
 rcases mem_cons.1 hp with rfl | hp
 ·simp[OB.row,Value.ownBlock]
 ·exact h.2 p hp⟩
theorem qK {w:World} {v:Value} {e:TypeId} {size:Nat} {rows:List (List CD)} {S:Nat->Prop} (hS:∀ k,v.ownBlock=some k->S k) (h:(OB.row v e size rows).inv lo S w):Rel S w (.rd (.sl rows)) v:=by
 obtain⟨us,h1,h2,h3⟩:=h
 simp only[Rel]
 rcases h1.2 with⟨hv,h0⟩ | ⟨g,cap,cur,hv,hb,hg,er,dg,iP,htake⟩
 ·have:rows=[]:=List.eq_nil_of_length_eq_zero h0
  rw[this,hv]
  exact .nil _ _ aI
 ·rw[hv]
  refine Rd.of_cells er dg (Array.getElem?_eq_some_iff.1 hg).1 (hS g (by rw[hv];rfl)) h3 h2 λj u hj=>?_
  have:=h1.cells (g:=g) (by rw[hv];rfl) j u hj
  rw[show(⟨g,0,none⟩:Addr).add j=⟨g,0+j,none⟩ by unfold Addr.add;split<;>simp_all]at this
  exact this
theorem Sc {w:World} (hS:∀ b,lo<=b->S b) (h:XO J S lo O w) {v:Value} {e:TypeId} {size:Nat} {rows:List (List CD)} (ho:OB.row v e size rows∈O):Rel S w (.rd (.sl rows)) v:=by
 have hi:=h.2.1 _ ho
 exact qK (λk hk=>hS k ((OB.row v e size rows).lt hi k hk).1) (OB.sub hi λk _ hk=>hk.1)
theorem kI {S':Nat->Prop} {w:World} (hS:∀ b,lo<=b->S b) (h:XO J S lo O w) {v:Value} {e:TypeId} {size:Nat} {rows:List (List CD)} (ho:OB.row v e size rows∈O) {u:Value} (hu:Rel S' w (.lit v) u):Rel S w (.rd (.sl rows)) u:=by
 rw[hu.lit];exact Sc hS h ho
theorem nq {lo:Nat} {S:Nat->Prop} {w:World} {v:Value} {e:TypeId} {size:Nat} {rows:List (List CD)} (h:(OB.row v e size rows).inv lo S w):io v:=by
 obtain⟨us,g1,_⟩:=h
 rcases g1.2 with⟨h',_⟩ | ⟨g,cap,cur,h',_⟩<;>(rw[h'];exact True.intro)
theorem oF {P:Program} {t e:TypeId} {size bytes:Nat} (z:Value) (h1:P.underlying t=some (.slice e)) (hinfo:(P.info? e).map (λi=>(i.zero,i.size,i.bytes))=some (some z,size,bytes)) (hz:z.cells.size=size) (hs:0<size) (h4:∀ w,(sizeOf e).run P w= .ok size w):jA P t e size bytes:=by
 refine⟨h1,?_,hs,h4⟩
 cases hi:P.info? e with
 | none=>rw[hi]at hinfo;cases hinfo
 | some i=>
  rw[hi]at hinfo
  simp only[Option.map_some,Option.some.injEq,Prod.mk.injEq]at hinfo
  exact⟨i,z,rfl,hinfo.1,hinfo.2.1,hinfo.2.2,hz⟩
theorem UU {P:Program} (w:World) (t ty e:TypeId) (ht:P.underlying t=some (.slice e)) (hsz:∃ k,∀ w,(sizeOf e).run P w= .ok k w) (ad:Option Addr) (n cap:Nat) (hn:n<=cap) (a:Option Addr) (c:Nat):
 (Builtin.append_ #[t,t] ty #[.slice ad n cap,.slice a 0 c]).run P w= .ok (.slice ad n cap) w:=by
 obtain⟨k,hk⟩:=hsz
 unfold Builtin.append_
 cases a with
 | none=>cases ad<;>simp[Sem.run_bind,run_underlying ht,hk w,Builtin.lenOf,Builtin.firstCells,hn,storeCells]
 | some a=>cases ad<;>simp[Sem.run_bind,run_underlying ht,hk w,Builtin.lenOf,Builtin.firstCells,hn,storeCells,loadCells,loadCellsFrom]
end
theorem Keeps.yk {S:Nat->Prop} {w A B:World} (h:Keeps All w A) (hk:Keeps S A B) (hs:∀ k,k<w.heap.size->S k):Keeps All w B:=
 ⟨hk.os.trans h.os,hk.tape.trans h.tape,hk.output.trans h.output,Nat.le_trans h.size hk.size,λk hlt _=>(hk.block k (Nat.lt_of_lt_of_le hlt h.size) (hs k hlt)).trans (h.block k hlt trivial)⟩
theorem UV {P:Program} (w:World) (base:Nat) (t ty e:TypeId) (i:TypeInfo) (z:Value) (size bytes:Nat) (ht:P.underlying t=some (.slice e)) (hi:P.info? e=some i) (hz:i.zero=some z)
 (hsize:i.size=size) (Fa:i.bytes=bytes) (lD:z.cells.size=size) (hsz:0<size)
 (v:Value) (n:Nat) (xs:List Value) (wM:w.ownsRow base e size v n xs)
 (a:Addr) (m c:Nat) (news:List Value) (hl:news.length=m*size) (hnews:∀ j u,news[j]?=some u->w.cell? (a.add j)=some u) (h1:∀ u∈news,u.oneCell'=true)
 (h63:n+m<=maxLen) (hbytes:(n+m)*bytes<=140737488355328) (hbase:base<=w.heap.size):
 ∃ v' w',(Builtin.append_ #[t,t] ty #[v,.slice (some a) m c]).run P w= .ok v' w'/\w'.ownsRow base e size v' (n+m) (xs++news)/\w.grownBy w' v.ownBlock/\
  (v'.ownBlock=v.ownBlock∨v'.ownBlock=some w.heap.size):=by
 obtain⟨v',w',hr,h2,h3,h4⟩:=run_append_own (P:=P) w base t ty e i z size bytes ht hi hz hsize Fa lD hsz v n xs wM a m c news hl hnews h1 h63 hbytes hbase
 refine⟨v',w',hr,h2,h3,?_⟩
 subst hsize
 subst Fa
 have hsmall:n+m<=9223372036854775807:=by simp only[maxLen]at h63;omega
 rcases wM.2 with⟨rfl,rfl⟩ | ⟨g,cap,cur,rfl,XJ,hg,er,dg,iP,htake⟩
 ·by_cases hm:m=0
  ·have:=h4.2 ⟨rfl,hm⟩
   subst this
   exact Or.inl rfl
  ·have ff:=run_append_nil (P:=P) w t ty e i z ht hi hz a m c news hl hnews oz oz (by have hb:=hbytes;simp only[Nat.zero_add]at hb;omega)
   rw[hr]at ff
   cases ff
   exact Or.inr rfl
 ·by_cases hroom:n+m<=cap
  ·have O5:n*i.size+news.length<=cur.size:=by rw[hl,iP,<-Nat.add_mul];exact Nat.mul_le_mul_right _ hroom
   have ff:=run_append_room (P:=P) w t ty e i ht hi g n cap cur hg a m c news hl hnews h1 hroom O5
   rw[hr]at ff
   cases ff
   exact Or.inl rfl
  ·have holds:∀ j u,xs[j]?=some u->w.cell? ((⟨g,0,none⟩:Addr).add j)=some u:=wM.cells (g:=g) rfl
   have ff:=run_append_grow (P:=P) w t ty e i z ht hi hz ⟨g,0,none⟩ n cap xs wM.1 holds a m c news hl hnews oz oz (growslice_fits oz hbytes)
   rw[hr]at ff
   cases ff
   exact Or.inr rfl
section
variable {P:Program} {J:WP} {S:Nat->Prop} {O:List OB} {w0:World}
def dc (J:WP) (S:Nat->Prop) (w0:World) (O1:List OB) (w:World) (O2:List OB) (w':World):Prop:=
 Keeps All w0 w'/\XO J S w0.heap.size O2 w'/\∀ av v,Rel (SO S O1) w av v->Rel (SO S O2) w' av v
theorem qV {w w':World} (V:aR J) (h0:Keeps All w0 w) (h:XO J S w0.heap.size O w) (hk:Keeps All w w'):dc J S w0 O w O w':=
 ⟨h0.trans hk,fo V w w' hk h,λ_ _ hr=>hr.on hk⟩
theorem lh {w w':World} {o:OB} (V:aR J) (h0:Keeps All w0 w) (h:XO J S w0.heap.size O w) (hk:Keeps All w w') (hb:∀ k,o.blk k->w.heap.size<=k) (hi:o.inv w0.heap.size (SO S (o::O)) w'):dc J S w0 O w (o::O) w':=by
 obtain⟨h1,h2⟩:=uX V h hk hb hi
 exact⟨h0.trans hk,h1,λ_ _ hr=>Rel.move hk (λk hlt hs=>⟨trivial,h2 k hlt hs⟩) hr⟩
theorem pu {w w':World} {o o':OB} (V:aR J) (hJ0:J w0) (h0:Keeps All w0 w) (h:XO J S w0.heap.size (o::O) w) (hk:Keeps (λb=>¬ o.blk b) w w') (hb:∀ k,o'.blk k->o.blk k∨w.heap.size<=k) (hi:o'.inv w0.heap.size (SO S (o'::O)) w'):dc J S w0 (o::O) w (o'::O) w':=by
 have hk':Keeps All w0 w':=h0.yk hk λk hk0 e=>by have:=(o.lt (h.2.1 o yz) k e).1;omega
 obtain⟨h1,h2⟩:=uY h (V w0 w' hk' hJ0) hk hb hi
 exact⟨hk',h1,λ_ _ hr=>Rel.move hk h2 hr⟩
theorem Cp {t e ty:TypeId} {size bytes:Nat} (ht:jA P t e size bytes) (V:aR J) (hJ0:J w0) {w:World} (hk:Keeps All w0 w) {v:Value} {rows news:List (List CD)} {y:Value} (h:XO J S w0.heap.size (OB.row v e size rows::O) w)
 (hy:Rel (SO S (OB.row v e size rows::O)) w (.rd (.sl news)) y) (hn:∀ r∈news,r.length=size) (h63:rows.length+news.length<=maxLen) (hb:(rows.length+news.length)*bytes<=140737488355328):
 ∃ v' w',(Builtin.append_ #[t,t] ty #[v,y]).run P w= .ok v' w'/\XO J S w0.heap.size (OB.row v' e size (rows++news)::O) w'/\Keeps All w0 w'/\Keeps (λb=>v.ownBlock≠some b) w w'/\
  ∀ k,k<w.heap.size->SO S (OB.row v e size rows::O) k->SO S (OB.row v' e size (rows++news)::O) k:=by
 obtain⟨ht,⟨i,z,hi,hz,Aj,Ai,lD⟩,hsz,hs⟩:=ht
 simp only[Rel]at hy
 obtain⟨us,h1,h2,h3⟩:=h.2.1 (OB.row v e size rows) yz
 obtain⟨ad,cap,rfl,l7,dg⟩:=hy.form
 by_cases h0:news=[]
 ·subst h0
  have hv:∃ ad n cap,v= .slice ad n cap/\n<=cap:=by
   rcases h1.2 with⟨rfl,h0⟩ | ⟨g,cap,cur,rfl,hb,hg,er,rest⟩
   ·exact⟨_,_,_,rfl,Nat.le_refl _⟩
   ·exact⟨_,_,_,rfl,er⟩
  obtain⟨ri,n',cap',rfl,er⟩:=hv
  refine⟨_,w,UU w t ty e ht ⟨size,hs⟩ _ _ _ er _ _,?_,hk,Keeps.refl _ _,λk _ hk=>?_⟩
  ·rw[append_nil];exact h
  ·rw[append_nil];exact hk
 ·have hpos:0<news.length:=by
   rcases Nat.eq_zero_or_pos news.length with h | h
   ·exact absurd (List.eq_nil_of_length_eq_zero h) h0
   ·exact h
  obtain⟨b,off,rfl,_⟩:=hy.at (List.getElem?_eq_getElem hpos)
  obtain⟨nu,rQ,Ar,er⟩:=hy.flat hn hpos
  have Au:∀ u∈nu,u.oneCell'=true:=λu hu=>by
   obtain⟨j,hj,rfl⟩:=List.getElem_of_mem hu
   have rN:j<news.flatten.length:=by rw[<-Ar.length];exact hj
   exact(Ar.get (List.getElem?_eq_getElem rN) (List.getElem?_eq_getElem hj)).one
  obtain⟨v',w',hrun,ho',hg,PM⟩:=UV (P:=P) w w0.heap.size t ty e i z size bytes ht hi hz Aj Ai lD hsz v rows.length us h1 ⟨b,off,none⟩ news.length cap nu rQ
   (λj u hj=>by rw[Go.WideShapes.add_plain];exact er j u hj) Au h63 hb hk.size
  have hkeep:Keeps (λb=>¬ (OB.row v e size rows).blk b) w w':=⟨hg.os,hg.tape,hg.output,hg.size,λk hk hs=>hg.block k hk λe=>hs e.symm⟩
  have hk':Keeps All w0 w':=hk.yk hkeep λk hk0 e=>by have:=(h1.lt k e).1;omega
  have nV:∀ k,(OB.row v' e size (rows++news)).blk k->(OB.row v e size rows).blk k∨w.heap.size<=k:=λk hk=>by
   have hk:v'.ownBlock=some k:=hk
   rcases PM with h | h
   ·rw[h]at hk;exact .inl hk
   ·rw[h]at hk;injection hk with hk;exact .inr (Nat.le_of_eq hk)
  have n2:∀ k,k<w.heap.size->SO S (OB.row v e size rows::O) k->(¬ (OB.row v e size rows).blk k)/\SO S (OB.row v' e size (rows++news)::O) k:=λk hlt hk=>⟨hk.2 (OB.row v e size rows) yz,hk.1,λp hp=>by
   rcases mem_cons.1 hp with rfl | hp
   ·intro e'
    rcases nV k e' with e' | e'
    ·exact hk.2 (OB.row v e size rows) yz e'
    ·omega
   ·exact hk.2 p (mem_cons_of_mem _ hp)⟩
  obtain⟨g1,g2⟩:=uY (o':=OB.row v' e size (rows++news)) h (V w0 w' hk' hJ0) hkeep nV
   ⟨us++nu,by simp only[List.length_append];exact ho',by
    simp only[List.flatten_append]
    exact(h2.move hkeep n2).append (Ar.move hkeep n2),λr hr=>by
    rcases List.mem_append.1 hr with hr | hr
    ·exact h3 r hr
    ·exact hn r hr⟩
  exact⟨v',w',hrun,g1,hk',hkeep,λk hlt hs=>(n2 k hlt hs).2⟩
variable {n:Rn} {N:Nat} {env:List (Nat×AV)} {Q:Exit->Act->WP}
theorem St.step {a:Act} {w w':World} {O':List OB} {d:Nat} {v:Value} {av:AV} (h:So J S w0 N O env a w) (hs:dc J S w0 O w O' w') (hN:d<N) (hv:Rel (SO S O') w' av v):St All (SO S O') w0 N ((d,av)::dP d env) (XO J S w0.heap.size O') (a.put (some d) v) w':=
 ⟨by rw[uB];exact h.defs,by rw[uC];exact h.size,hs.1,hs.2.1,λp hp=>by
  rcases mem_cons.1 hp with rfl | hp
  ·exact⟨hN,by rw[la _ _ _ (by rw[h.size];exact hN)];exact hv⟩
  ·obtain⟨h1,h2⟩:=mem_filter.1 hp
   obtain⟨h3,h4⟩:=h.env p h1
   refine⟨h3,?_⟩
   rw[ju _ _ _ _ (λe=>by cases e;simp at h2)]
   exact hs.2.2 _ _ h4⟩
theorem St.step0 {a:Act} {w w':World} {O':List OB} (h:So J S w0 N O env a w) (hs:dc J S w0 O w O' w') (v:Value):St All (SO S O') w0 N env (XO J S w0.heap.size O') (a.put none v) w':=
 ⟨h.defs,h.size,hs.1,hs.2.1,λp hp=>⟨(h.env p hp).1,hs.2.2 _ _ (h.env p hp).2⟩⟩
theorem kK {ι:Type} {ops:Array Oper} {o:Oper} {rest:List Oper} {d:Nat} {O2:ι->List OB} {av:ι->AV} (hg:o.guard=none) (hd:o.dst=some d) (hN:d<N)
 (ob:∀ a w,So J S w0 N O env a w->Does n P o a w λv w'=>∃ i,dc J S w0 O w (O2 i) w'/\Rel (SO S (O2 i)) w' (av i) v)
 (next:∀ i a w,So J S w0 N (O2 i) ((d,av i)::dP d env) a w->wpListIn n.F n.d P ops Q rest a w):
 ∀ a w,So J S w0 N O env a w->wpListIn n.F n.d P ops Q (o::rest) a w:=λa w h=>by
 refine wpListIn_plain hg λK' hK=>ob a w h K' Q λu w2 ⟨i,hs,hv⟩=>?_
 rw[hd]
 exact hK _ _ (next i _ _ (h.step hs hN hv))
theorem qU {ι:Type} {ops:Array Oper} {o:Oper} {rest:List Oper} {O2:ι->List OB} (hg:o.guard=none) (hd:o.dst=none)
 (ob:∀ a w,So J S w0 N O env a w->Does n P o a w λ_ w'=>∃ i,dc J S w0 O w (O2 i) w')
 (next:∀ i a w,So J S w0 N (O2 i) env a w->wpListIn n.F n.d P ops Q rest a w):
 ∀ a w,So J S w0 N O env a w->wpListIn n.F n.d P ops Q (o::rest) a w:=λa w h=>by
 refine wpListIn_plain hg λK' hK=>ob a w h K' Q λu w2 ⟨i,hs⟩=>?_
 rw[hd]
 exact hK _ _ (next i _ _ (h.step0 hs _))
theorem ot {a:Act} {w:World} {O':List OB} (hp:O.Perm O') (h:So J S w0 N O env a w):St All (SO S O') w0 N env (XO J S w0.heap.size O') a w:=
 ⟨h.defs,h.size,h.keep,fR hp h.x,λp hm=>⟨(h.env p hm).1,(h.env p hm).2.sub λ_ _ hs=>hs.perm hp⟩⟩
theorem VC {ops:Array Oper} {o:Oper} {rest:List Oper} {t e:TypeId} {size bytes:Nat} {x y:Operand} {d m s:Nat} {v:Value} {rows news:List (List CD)} (ht:jA P t e size bytes) (V:aR J) (hJ0:J w0)
 (hg:o.guard=none) (hop:o.op= .call { callee:=.builtin .append,args:= #[x,y],argTypes:= #[t,t] }) (hd:o.dst=some d) (hN:d<N) (Z:x= .tmp s) (he:env[m]?=some (s,.lit v))
 (hy:∀ a w,So J S w0 N (OB.row v e size rows::O) env a w->Rel (SO S (OB.row v e size rows::O)) w (.rd (.sl news)) (a.eval y)) (hn:∀ r∈news,r.length=size) (h63:rows.length+news.length<=maxLen) (hb:(rows.length+news.length)*bytes<=140737488355328)
 (next:∀ v' a w,So J S w0 N (OB.row v' e size (rows++news)::O) ((d,.lit v')::dP d env) a w->wpListIn n.F n.d P ops Q rest a w):
 ∀ a w,So J S w0 N (OB.row v e size rows::O) env a w->wpListIn n.F n.d P ops Q (o::rest) a w:=by
 refine kK (O2:=λv'=>OB.row v' e size (rows++news)::O) (av:=λv'=>.lit v') hg hd hN (λa w h=>?_) next
 obtain⟨v',w',hrun,hx',hk',hkeep,n2⟩:=Cp (ty:=o.type) ht V hJ0 h.keep h.x (hy a w h) hn h63 hb
 have hv:a.eval x=v:=by rw[Z];exact(h.get m he).lit
 refine en (v:=v') (w':=w') ?_ ⟨v',⟨hk',hx',λav u hr=>Rel.move hkeep (λk hlt hs=>⟨hs.2 (OB.row v e size rows) yz,n2 k hlt hs⟩) hr⟩,Rel.aH _ (nq (hx'.2.1 (OB.row v' e size (rows++news)) yz))⟩
 simp[execOp,hop,resolve,invoke,builtin,hv,hrun,Result.andThen]
theorem fN {α:Type} {f:α->List CD} {ops:Array Oper} {o:Oper} {rest:List Oper} {t e:TypeId} {size bytes:Nat} {x y:Operand} {d m s:Nat} {v:Value} (xs ys:List α) (hf:∀ x,(f x).length=size) (ht:jA P t e size bytes) (V:aR J) (hJ0:J w0)
 (hg:o.guard=none) (hop:o.op= .call { callee:=.builtin .append,args:= #[x,y],argTypes:= #[t,t] }) (hd:o.dst=some d) (hN:d<N) (Z:x= .tmp s) (he:env[m]?=some (s,.lit v))
 (hy:∀ a w,So J S w0 N (OB.row v e size (xs.map f)::O) env a w->Rel (SO S (OB.row v e size (xs.map f)::O)) w (.rd (.sl (ys.map f))) (a.eval y)) (hb:(xs.length+ys.length)*bytes<=140737488355328) (h63:xs.length+ys.length<=9223372036854775807)
 (next:∀ v' a w,So J S w0 N (OB.row v' e size ((xs++ys).map f)::O) ((d,.lit v')::dP d env) a w->wpListIn n.F n.d P ops Q rest a w):
 ∀ a w,So J S w0 N (OB.row v e size (xs.map f)::O) env a w->wpListIn n.F n.d P ops Q (o::rest) a w:=by
 refine VC (m:=m) (s:=s) (d:=d) ht V hJ0 hg hop hd hN Z he hy (jm hf) (by simp only[length_map,maxLen];exact h63) (by simp only[length_map];exact hb) λv' a w h=>next v' a w ?_
 rw[List.map_append];exact h

theorem Us (g:Nat->Value):(Array.range 0).map g= #[]:=by apply Array.toList_inj.1;simp
theorem Ut (g:Nat->Value):(Array.range 1).map g= #[g 0]:=by apply Array.toList_inj.1;simp[range_succ]
theorem Uu (g:Nat->Value):(Array.range 2).map g= #[g 0,g 1]:=by apply Array.toList_inj.1;simp[range_succ]
theorem Uv (g:Nat->Value):(Array.range 3).map g= #[g 0,g 1,g 2]:=by apply Array.toList_inj.1;simp[range_succ]
theorem BQ {t e:TypeId} {size:Nat} (ht:dA P t e size) (w:World):(Instr.buildSlice t 0 #[]).run P w= .ok (.slice (some ⟨w.heap.size,0,none⟩) 0 0) (w.alloc (.cells #[] e)):=by
 unfold Instr.buildSlice
 simp[Sem.run_bind,run_underlying ht.1,ht.2 w,Instr.fill,newRow,newObj,Sem.run,Us]
theorem Ix {t e:TypeId} {z:Value} (ht:dA P t e 1) (hz:∀ w,(zeroValue e).run P w= .ok z w) (v:Value) (hv:v.oneCell'=true) (w:World):
 (Instr.buildSlice t 1 #[(0,v)]).run P w= .ok (.slice (some ⟨w.heap.size,0,none⟩) 1 1) (w.alloc (.cells #[v] e)):=by
 have hc:v.cells= #[v]:=by cases v<;>simp_all[Value.cells,Value.oneCell']
 unfold Instr.buildSlice
 simp[Sem.run_bind,run_underlying ht.1,ht.2 w,hz w,Instr.fill,hc,newRow,newObj,Sem.run,Ut]
theorem UW {t e:TypeId} {k:Nat} {z:Value} (ht:dA P t e k) (hz:∀ w,(zeroValue e).run P w= .ok z w) (us:List Value) (hk:k=2∨k=3) (hu:us.length=k) (w:World):
 (Instr.buildSlice t 1 #[(0,.agg us.toArray)]).run P w= .ok (.slice (some ⟨w.heap.size,0,none⟩) 1 1) (w.alloc (.cells us.toArray e)):=by
 unfold Instr.buildSlice
 rcases hk with rfl | rfl
 ·match us,hu with
  | [a,b],_=>
   have hc:(Value.agg [a,b].toArray).cells= #[a,b]:=rfl
   simp[Sem.run_bind,run_underlying ht.1,ht.2 w,hz w,Instr.fill,hc,newRow,newObj,Sem.run,Uu]
 ·match us,hu with
  | [a,b,c],_=>
   have hc:(Value.agg [a,b,c].toArray).cells= #[a,b,c]:=rfl
   simp[Sem.run_bind,run_underlying ht.1,ht.2 w,hz w,Instr.fill,hc,newRow,newObj,Sem.run,Uv]
def kb (P:Program) (e:TypeId):Prop:=∃ z,∀ w,(zeroValue e).run P w= .ok z w
variable {X:WP} {o:Oper} {a:Act} {w:World} {x:Operand} {t e:TypeId}
theorem nJ {w:World} {us:List Value} {e:TypeId} (j:Nat) (u:Value) (hj:us[j]?=some u):(w.alloc (.cells us.toArray e)).cell? ⟨w.heap.size,0+j,none⟩=some u:=by
 have:(w.alloc (.cells us.toArray e)).heap[w.heap.size]?=some (.cells us.toArray e):=by
  show(w.heap.push _)[w.heap.size]?=_
  simp
 unfold World.cell?
 simp only[this]
 simpa using hj
theorem fz {c:CD} (ht:dA P t e 1) (hz:kb P e) (hop:o.op= .buildSlice t 1 #[(0,x)]) (h:Rel S w (.rd c) (a.eval x)) (hS:S w.heap.size) (Z:∀ w',Keeps All w w'->X w'):Does n P o a w (bG S X (.rd (.sl [[c]])) w):=by
 obtain⟨z,f9⟩:=hz
 simp only[Rel]at h
 have hk:Keeps All w (w.alloc (.cells [a.eval x].toArray e)):=(Keeps.refl _ _).alloc _
 refine en (v:=.slice (some ⟨w.heap.size,0,none⟩) 1 1) (w':=w.alloc (.cells [a.eval x].toArray e)) ?_ ⟨?_,hk,Z _ hk⟩
 ·have:=Ix ht f9 (a.eval x) h.one w
  rw[execOp,hop]
  simp only[map_toArray,List.map_cons,List.map_nil,Sem.run_bind,this]
  rfl
 ·simp only[Rel]
  refine Rd.of_cells (n:=1) (us:=[a.eval x]) aV dz yz hS yz ⟨h.keep hk λ_ _ _=>trivial,trivial⟩ λj u hj=>nJ j u hj
theorem nl {cs:List CD} {k:Nat} (ht:dA P t e k) (hz:kb P e) (hk:k=2∨k=3) (hc:cs.length=k) (hop:o.op= .buildSlice t 1 #[(0,x)]) (h:Rel S w (.agg cs) (a.eval x)) (hS:S w.heap.size) (Z:∀ w',Keeps All w w'->X w'):Does n P o a w (bG S X (.rd (.sl [cs])) w):=by
 obtain⟨z,f9⟩:=hz
 simp only[Rel]at h
 obtain⟨us,hv,hr⟩:=h
 have hk':Keeps All w (w.alloc (.cells us.toArray e)):=(Keeps.refl _ _).alloc _
 refine en (v:=.slice (some ⟨w.heap.size,0,none⟩) 1 1) (w':=w.alloc (.cells us.toArray e)) ?_ ⟨?_,hk',Z _ hk'⟩
 ·have:=UW ht f9 us hk (by rw[hr.length,hc]) w
  rw[execOp,hop]
  simp only[map_toArray,List.map_cons,List.map_nil,Sem.run_bind,hv,this]
  rfl
 ·simp only[Rel]
  refine Rd.of_cells (n:=k) (us:=us) aV dz yz hS (λr hr=>by simp at hr;subst hr;exact hc) (by simp only[List.flatten_cons,List.flatten_nil,append_nil];exact hr.keep hk' λ_ _ _=>trivial) λj u hj=>nJ j u hj
theorem kz {ops:Array Oper} {rest:List Oper} {t e:TypeId} {k d:Nat} (ht:dA P t e k) (V:aR J)
 (hg:o.guard=none) (hop:o.op= .buildSlice t 0 #[]) (hd:o.dst=some d) (hN:d<N)
 (next:∀ v' a w,So J S w0 N (OB.row v' e k []::O) ((d,.lit v')::dP d env) a w->wpListIn n.F n.d P ops Q rest a w):
 ∀ a w,So J S w0 N O env a w->wpListIn n.F n.d P ops Q (o::rest) a w:=by
 refine kK (O2:=λv'=>OB.row v' e k []::O) (av:=λv'=>.lit v') hg hd hN (λa w h=>?_) next
 have hk:Keeps All w (w.alloc (.cells #[] e)):=(Keeps.refl _ _).alloc _
 refine en (v:=.slice (some ⟨w.heap.size,0,none⟩) 0 0) (w':=w.alloc (.cells #[] e)) ?_ ⟨.slice (some ⟨w.heap.size,0,none⟩) 0 0,lh V h.keep h.x hk (λb hb=>?_) ⟨[],World.ownsRow_made w #[] 0 h.keep.size aI yz,trivial,λr hr=>by cases hr⟩,Rel.aH _⟩
 ·have:=BQ ht w
  rw[execOp,hop]
  simp only[map_toArray,List.map_nil,Sem.run_bind,this]
  rfl
 ·simp[OB.row,Value.ownBlock]at hb;omega
theorem IR {ops:Array Oper} {rest:List Oper} {t e:TypeId} {d:Nat} {c:CD} (ht:dA P t e 1) (hz:kb P e) (V:aR J)
 (hg:o.guard=none) (hop:o.op= .buildSlice t 1 #[(0,x)]) (hd:o.dst=some d) (hN:d<N) (hx1:∀ a w,So J S w0 N O env a w->Rel (SO S O) w (.rd c) (a.eval x))
 (next:∀ v' a w,So J S w0 N (OB.row v' e 1 [[c]]::O) ((d,.lit v')::dP d env) a w->wpListIn n.F n.d P ops Q rest a w):
 ∀ a w,So J S w0 N O env a w->wpListIn n.F n.d P ops Q (o::rest) a w:=by
 refine kK (O2:=λv'=>OB.row v' e 1 [[c]]::O) (av:=λv'=>.lit v') hg hd hN (λa w h=>?_) next
 obtain⟨z,f9⟩:=hz
 have hv:=hx1 a w h
 simp only[Rel]at hv
 have hk:Keeps All w (w.alloc (.cells [a.eval x].toArray e)):=(Keeps.refl _ _).alloc _
 have nV:∀ b,(OB.row (.slice (some ⟨w.heap.size,0,none⟩) 1 1) e 1 [[c]]).blk b->w.heap.size<=b:=λb hb=>by simp[OB.row,Value.ownBlock]at hb;omega
 have hsub:∀ b,b<w.heap.size->SO S O b->SO S (OB.row (.slice (some ⟨w.heap.size,0,none⟩) 1 1) e 1 [[c]]::O) b:=λb hb hS=>⟨hS.1,λp hp=>by
  rcases mem_cons.1 hp with rfl | hp
  ·exact λe=>by have:=nV b e;omega
  ·exact hS.2 p hp⟩
 refine en (v:=.slice (some ⟨w.heap.size,0,none⟩) 1 1) (w':=w.alloc (.cells [a.eval x].toArray e)) ?_ ⟨.slice (some ⟨w.heap.size,0,none⟩) 1 1,lh V h.keep h.x hk nV ⟨[a.eval x],⟨rfl,.inr ⟨w.heap.size,1, #[a.eval x],rfl,h.keep.size,heap_alloc_new w _,Nat.le_refl _,by decide,rfl,rfl⟩⟩,⟨hv.move hk λb hb hs=>⟨trivial,hsub b hb hs⟩,trivial⟩,λr hr=>by simp at hr;subst hr;rfl⟩,Rel.aH _⟩
 have:=Ix ht f9 (a.eval x) hv.one w
 rw[execOp,hop]
 simp only[map_toArray,List.map_cons,List.map_nil,Sem.run_bind,this]
 rfl
theorem iJ {a:Act} {w:World} (e:TypeId) (size:Nat) (V:aR J) (h:So J S w0 N O env a w):So J S w0 N (OB.row (.slice none 0 0) e size []::O) env a w:=
 ⟨h.defs,h.size,h.keep,Xt V h.x e size,λp hp=>⟨(h.env p hp).1,(h.env p hp).2.sub λ_ _ hk=>VA hk⟩⟩
theorem cK {a:Act} {w:World} {o:OB} (h:So J S w0 N (o::O) env a w):So J S w0 N O env a w:=
 ⟨h.defs,h.size,h.keep,⟨h.x.1,λp hp=>OB.sub (h.x.2.1 p (mem_cons_of_mem _ hp)) λ_ _ hk=>hk.drop,(List.pairwise_cons.1 h.x.2.2).2⟩,λp hp=>⟨(h.env p hp).1,(h.env p hp).2.sub λ_ _ hk=>hk.drop⟩⟩
theorem vY {a:Act} {w:World} {o:OB} (hS:∀ b,w0.heap.size<=b->S b) (h:So J S w0 N (o::O) env a w):∀ k,o.blk k->SO S O k:=λk hk=>
 ⟨hS k (o.lt (h.x.2.1 o yz) k hk).1,λp hp=>(List.pairwise_cons.1 h.x.2.2).1 p hp k hk⟩
theorem dU {a:Act} {w:World} {v:Value} {e:TypeId} {size:Nat} {rows:List (List CD)} {s m:Nat} (hS:∀ b,w0.heap.size<=b->S b) (h:So J S w0 N (OB.row v e size rows::O) env a w) (he:env[m]?=some (s,.lit v)):
 So J S w0 N O ((s,.rd (.sl rows))::dP s env) a w:=by
 have h':=cK h
 refine⟨h.defs,h.size,h.keep,h'.x,λp hp=>?_⟩
 rcases mem_cons.1 hp with rfl | hp
 ·refine⟨(h.env _ (mem_of_getElem? he)).1,?_⟩
  have ei:a.tmps.getD s undef=v:=(h.get m he).lit
  simp only
  rw[ei]
  exact qK (vY hS h) (OB.sub (h.x.2.1 (OB.row v e size rows) yz) λk _ hk=>hk.drop)
 ·exact h'.env p (mem_filter.1 hp).1
theorem cc {a:Act} {w:World} (h:St All S w0 N env J a w):So J S w0 N [] env a w:=
 ⟨h.defs,h.size,h.keep,yr h.x,λp hp=>⟨(h.env p hp).1,(h.env p hp).2.sub λ_ _ hk=>⟨hk,λq hq=>(by cases hq)⟩⟩⟩
theorem dw {a:Act} {w:World} (h:So J S w0 N O env a w):St All S w0 N env J a w:=
 ⟨h.defs,h.size,h.keep,h.x.1,λp hp=>⟨(h.env p hp).1,(h.env p hp).2.sub λ_ _ hk=>hk.1⟩⟩
end
section
variable {n:Rn} {N:Nat} {P:Program} {J:WP} {S:Nat->Prop} {O:List OB} {w0:World} {env:List (Nat×AV)} {l:List Oper} {am:Nat->AV} {conds:Nat->Bool} {T:Array Value} {Q:Exit->Act->WP}
def upto (ch:List (Nat×List (List CD))) (j:Nat):List (List CD):=((ch.take (j-1)).map (·.2)).flatten
def ni (e:TypeId) (size:Nat) (ch:List (Nat×List (List CD))) (O:List OB) (j:Nat) (v:Value):List OB:=if j=0 then O else OB.row v e size (upto ch j)::O
def gV (i0:Nat) (ch:List (Nat×List (List CD))) (j:Nat):Nat:=if j<=1 then i0 else(ch.getD (j-2) (i0,[])).1
structure rb (S:Nat->Prop) (J:WP) (w0:World) (N:Nat) (env:List (Nat×AV)) (l:List Oper) (am:Nat->AV) (conds:Nat->Bool) (T:Array Value) (e:TypeId) (size:Nat) (i0:Nat) (ch:List (Nat×List (List CD))) (dj:Nat) (O:List OB) (j:Nat) (v:Value) (b:Nat->Bool) (a:Act) (w:World):Prop where
 inv:RInv All (SO S (ni e size ch O j v)) (SO S (ni e size ch O j v)) w0 N env (XO J S w0.heap.size (ni e size ch O j v)) l am conds T b a w
 first:b i0=decide (0<j)
 rest:∀(k:Nat) (p:Nat×List (List CD)),ch[k]?=some p->b p.1=decide (k+1<j)
 le:j<=ch.length+1
 slot:0<j->∀ o d,l[gV i0 ch j]?=some o->o.dst=some d->a.tmps.getD d undef=v
 dj:b dj=true->∀ o d,l[dj]?=some o->o.dst=some d->a.tmps.getD d undef=v
structure Row (n:Rn) (P:Program) (J:WP) (S:Nat->Prop) (w0:World) (env:List (Nat×AV)) (l:List Oper) (am:Nat->AV) (conds:Nat->Bool) (t e:TypeId) (size bytes:Nat) (i0:Nat) (ch:List (Nat×List (List CD))) (dj:Nat):Prop where
 app:jA P t e size bytes
 first:∃ o,l[i0]?=some o/\o.op= .buildSlice t 0 #[]/\o.guard=none/\am i0= .any/\conds i0=true
 next:∀(k:Nat) (p:Nat×List (List CD)),ch[k]?=some p->∃ o x y q d,l[p.1]?=some o/\o.op= .call { callee:=.builtin .append,args:= #[.tmp x,y],argTypes:= #[t,t] }/\o.guard=none/\am p.1= .any/\conds p.1=true/\
  l[gV i0 ch (k+1)]?=some q/\q.dst=some d/\d=x/\gV i0 ch (k+1)∈cp o/\(∀ r∈p.2,r.length=size)/\((upto ch (k+1)).length+p.2.length)<=maxLen/\((upto ch (k+1)).length+p.2.length)*bytes<=140737488355328/\
  ∀ O' a w,Keeps All w0 w->XO J S w0.heap.size O' w->Look (SO S O') w env l am conds p.1 a->Rel (SO S O') w (.rd (.sl p.2)) (a.eval y)
 follow:∃ o x d q,l[dj]?=some o/\o.op= .assign (.tmp x)/\o.guard=none/\am dj= .any/\conds dj=true/\l[gV i0 ch (ch.length+1)]?=some q/\q.dst=some x/\gV i0 ch (ch.length+1)∈cp o/\o.dst=some d
 ne:∀(k:Nat) (p:Nat×List (List CD)),ch[k]?=some p->p.1≠i0/\p.1≠dj
 nodup:∀(k m:Nat) (p q:Nat×List (List CD)),ch[k]?=some p->ch[m]?=some q->p.1=q.1->k=m
 EJ:dj≠i0
def CL (n:Rn) (P:Program) (J:WP) (S:Nat->Prop) (w0:World) (env:List (Nat×AV)) (l:List Oper) (am:Nat->AV) (conds:Nat->Bool) (i0:Nat) (ch:List (Nat×List (List CD))) (dj:Nat) (i:Nat) (o:Oper):Prop:=
 (i==i0||i==dj|| (ch.map (·.1)).contains i)=false->∀ O',Ob n P All (SO S O') w0 env (XO J S w0.heap.size O') l am conds i o
theorem WI {ch:List (Nat×List (List CD))} {k:Nat} {p:Nat×List (List CD)} (h:ch[k]?=some p):upto ch (k+2)=upto ch (k+1)++p.2:=by
 have hlt:k<ch.length:=(List.getElem?_eq_some_iff.1 h).1
 have hp:ch[k]=p:=(List.getElem?_eq_some_iff.1 h).2
 unfold upto
 simp only[Nat.add_sub_cancel,show k+2-1=k+1 by omega]
 rw[List.take_succ_eq_append_getElem hlt,hp]
 simp
theorem qt {i0:Nat} {ch:List (Nat×List (List CD))} {k:Nat} {p:Nat×List (List CD)} (h:ch[k]?=some p):gV i0 ch (k+2)=p.1:=by
 have hlt:k<ch.length:=(List.getElem?_eq_some_iff.1 h).1
 have hp:ch[k]=p:=(List.getElem?_eq_some_iff.1 h).2
 simp[gV,List.getD,h]
variable {t e:TypeId} {size bytes i0 dj:Nat} {ch:List (Nat×List (List CD))}
theorem Qj {a:Act} {d:Nat} {o:Oper} (v u:Value) (h:o.dst≠some d) (hv:a.tmps.getD d undef=v):(a.put o.dst u).tmps.getD d undef=v:=by
 rw[ju _ _ _ _ h];exact hv
theorem rb.does {b:Nat->Bool} {a:Act} {w:World} {rest:List Oper} {j:Nat} {v:Value} (hR:Row n P J S w0 env l am conds t e size bytes i0 ch dj) (V:aR J) (hJ0:J w0) (h:rb S J w0 N env l am conds T e size i0 ch dj O j v b a w) (hu:jP l=true) (hN:jg l N=true) {i:Nat} {o:Oper} (hi:l[i]?=some o) (hb:b i=false) (hd:∀ j∈cp o,b j=true)
 (ob:CL n P J S w0 env l am conds i0 ch dj i o) (hK:∀ j' v' a' w',rb S J w0 N env l am conds T e size i0 ch dj O j' v' (cP b i) a' w'->wpListIn n.F n.d P l.toArray Q rest a' w'):wpListIn n.F n.d P l.toArray Q (o::rest) a w:=by
 by_cases h0:i=i0
 ·subst h0
  obtain⟨o',ho',hop,hg,cR,hc⟩:=hR.first
  rw[hi]at ho';cases ho'
  have hj:j=0:=by have:=h.first;rw[hb]at this;simpa using this.symm
  subst hj
  refine wpListIn_plain hg λK' hKr=>?_
  have hk:Keeps All w (w.alloc (.cells #[] e)):=(Keeps.refl _ _).alloc _
  have qh:Does n P o a w λu w2=>u= .slice (some ⟨w.heap.size,0,none⟩) 0 0/\w2=w.alloc (.cells #[] e):=by
   refine en ?_ ⟨rfl,rfl⟩
   have:=BQ (P:=P) (t:=t) (e:=e) (size:=size) ⟨hR.app.1,hR.app.2.2.2⟩ w
   rw[execOp,hop]
   simp only[map_toArray,List.map_nil,Sem.run_bind,this]
   rfl
  refine qh K' Q λu w2 tW=>?_
  obtain⟨rfl,rfl⟩:=tW
  have Z:=h.inv.x
  simp only[ni,if_true]at Z
  have AA:upto ch 1=[]:=by simp[upto]
  obtain⟨hx',hsub⟩:=uX (o:=OB.row (.slice (some ⟨w.heap.size,0,none⟩) 0 0) e size (upto ch 1)) V Z hk (λb hb=>by simp[OB.row,Value.ownBlock]at hb;omega) (by
   rw[AA]
   exact⟨[],World.ownsRow_made w #[] 0 h.inv.keep.size aI yz,trivial,λr hr=>by cases hr⟩)
  have hinv:=h.inv
  simp only[ni,if_true]at hinv
  refine hKr _ _ (hK 1 (.slice (some ⟨w.heap.size,0,none⟩) 0 0) _ _ ⟨?_,?_,λk p hp=>?_,oz,λ_ q d hq ko=>?_,λhf q d hq ko=>?_⟩)
  ·simp only[ni,Nat.one_ne_zero,if_false]
   refine hinv.step2 hu hN hi hd _ (hinv.keep.trans hk) hk (λk hk hs=>⟨trivial,hsub k hk hs⟩) (λk hk hs=>⟨trivial,hsub k hk hs⟩) (λ_ h=>h) hx' hc (by rw[cR];simp only[Rel])
  ·simp[cP]
  ·have h1:=h.rest k p hp
   have h2:=(hR.ne k p hp).1
   simp only[cP,if_neg h2]
   rw[h1];simp
  ·have:gV i ch 1=i:=by simp[gV]
   rw[this,hi]at hq;cases hq
   rw[ko,la _ _ _ (by rw[hinv.size];exact ix hN hi ko)]
  ·simp only[cP,if_neg hR.EJ]at hf
   have:b i=true:=by
    obtain⟨o2,x2,d2,q2,g1,_,_,_,_,g6,g7,g8,_⟩:=hR.follow
    have hlast:=hinv.closed dj o2 g1 hf _ g8
    by_cases jX:ch.length=0
    ·have:gV i ch (ch.length+1)=i:=by simp[gV,jX]
     rwa [this]at hlast
    ·obtain⟨m,hm⟩:∃ m,ch.length=m+1:=⟨ch.length-1,oz⟩
     have dD:ch[m]?=some (ch[m]'(by omega)):=List.getElem?_eq_getElem _
     rw[hm,qt dD,h.rest m _ dD]at hlast
     simp at hlast
   rw[hb]at this;cases this
 ·by_cases hf:i=dj
  ·subst hf
   obtain⟨o',x,d,q,ho',hop,hg,cR,hc,hq,Pz,kl,XT⟩:=hR.follow
   rw[hi]at ho';cases ho'
   have hlast:=hd _ kl
   have hj:j=ch.length+1:=by
    by_cases jX:ch.length=0
    ·have:gV i0 ch (ch.length+1)=i0:=by simp[gV,jX]
     rw[this,h.first]at hlast
     have:=h.le
     have:0<j:=by simpa using hlast
     omega
    ·obtain⟨m,hm⟩:∃ m,ch.length=m+1:=⟨ch.length-1,oz⟩
     have dD:ch[m]?=some (ch[m]'(by omega)):=List.getElem?_eq_getElem _
     rw[hm,qt dD,h.rest m _ dD]at hlast
     have h1:m+1<j:=by simpa using hlast
     have:=h.le
     omega
   have ei:=h.slot oz q x (by rw[hj];exact hq) Pz
   refine wpListIn_plain hg λK' hKr=>?_
   have qh:Does n P o a w λu w2=>u=v/\w2=w:=by
    refine en (v:=a.eval (.tmp x)) (by simp only[execOp,hop];rfl) ⟨ei,rfl⟩
   refine qh K' Q λu w2 tW=>?_
   obtain⟨rfl,rfl⟩:=tW
   refine hKr _ _ (hK j u _ _ ⟨h.inv.step hu hN hi hb hd u (Keeps.refl _ _) h.inv.x (λ_=>by rw[cR];simp only[Rel]) (λe=>by rw[hc]at e;cases e),?_,λk p hp=>?_,h.le,λhj' q' d' hq' n7=>?_,λ_ q' d' hq' n7=>?_⟩)
   ·simp only[cP,if_neg (λe:i0=i=>h0 e.symm)];exact h.first
   ·simp only[cP,if_neg (hR.ne k p hp).2];exact h.rest k p hp
   ·refine Qj _ _ (λe'=>?_) (h.slot hj' q' d' hq' n7)
    rw[hj]at hq'
    have:=kA hu hi hq' e' n7
    rw[<-this]at hlast
    rw[hb]at hlast;cases hlast
   ·rw[hi]at hq';cases hq'
    rw[n7,la _ _ _ (by rw[h.inv.size];exact ix hN hi n7)]
  ·by_cases oQ:∃(k:Nat) (p:Nat×List (List CD)),ch[k]?=some p/\p.1=i
   ·obtain⟨k,p,hp,rfl⟩:=oQ
    obtain⟨o',x,y,q,d,ho',hop,hg,cR,hc,hq,ko,rfl,kl,hlen,h63,hbytes,hy⟩:=hR.next k p hp
    rw[hi]at ho';cases ho'
    have wO:=hd _ kl
    have k6:k<ch.length:=(List.getElem?_eq_some_iff.1 hp).1
    have rR:=h.rest k p hp
    rw[hb]at rR
    have XM:j<=k+1:=by
     have:¬ k+1<j:=by simpa using rR.symm
     omega
    have hj:j=k+1:=by
     by_cases hk0:k=0
     ·subst hk0
      have:gV i0 ch (0+1)=i0:=by simp[gV]
      rw[this,h.first]at wO
      have:0<j:=by simpa using wO
      omega
     ·obtain⟨m,hm⟩:∃ m,k=m+1:=⟨k-1,oz⟩
      have dD:ch[m]?=some (ch[m]'(by omega)):=List.getElem?_eq_getElem _
      rw[hm,qt dD,h.rest m _ dD]at wO
      have:m+1<j:=by simpa using wO
      omega
    subst hj
    have ei:=h.slot oz q d hq ko
    have hinv:=h.inv
    simp only[ni,Nat.succ_ne_zero,if_false]at hinv
    have hrel:=hy _ a w hinv.keep hinv.x (hinv.look hi hb hd)
    obtain⟨v',w',hrun,hx',hk',hkeep,n2⟩:=Cp (ty:=o.type) hR.app V hJ0 hinv.keep hinv.x hrel hlen h63 hbytes
    refine wpListIn_plain hg λK' hKr=>?_
    have qh:Does n P o a w λu w2=>u=v'/\w2=w':=by
     refine en ?_ ⟨rfl,rfl⟩
     have nX:a.eval (.tmp d)=v:=ei
     simp only[execOp,hop,resolve,invoke,builtin,Sem.run_bind,Sem.run_pure,map_toArray,List.map_cons,List.map_nil,nX,Result.andThen_ok]
     rw[hrun]
     rfl
    refine qh K' Q λu w2 tW=>?_
    obtain⟨rfl,rfl⟩:=tW
    have hsub:∀ b,b<w.heap.size->SO S (OB.row v e size (upto ch (k+1))::O) b->(v.ownBlock≠some b)/\SO S (OB.row u e size (upto ch (k+1)++p.2)::O) b:=λb hb hs=>⟨hs.2 (OB.row v e size (upto ch (k+1))) yz,n2 b hb hs⟩
    refine hKr _ _ (hK (k+2) u _ _ ⟨?_,?_,λm r hr=>?_,oz,λ_ q' d' hq' n7=>?_,λtN q' d' hq' n7=>?_⟩)
    ·simp only[ni,Nat.succ_ne_zero,if_false,WI hp]
     exact hinv.step2 hu hN hi hd _ hk' hkeep hsub hsub (λ_ h=>h) hx' hc (by rw[cR];simp only[Rel])
    ·have hne:i0≠p.1:=λe=>h0 e.symm
     simp only[cP,if_neg hne]
     rw[h.first];simp
    ·by_cases hm:m=k
     ·subst hm
      rw[hp]at hr;cases hr
      simp[cP]
     ·have hne:r.1≠p.1:=λe'=>hm (hR.nodup m k r p hr hp e')
      simp only[cP,if_neg hne]
      rw[h.rest m r hr]
      congr 1
      apply propext
      constructor
      ·intro h;omega
      ·intro h;omega
    ·rw[qt hp,hi]at hq';cases hq'
     rw[n7,la _ _ _ (by rw[hinv.size];exact ix hN hi n7)]
    ·have hne:dj≠p.1:=λe=>hf e.symm
     simp only[cP,if_neg hne]at tN
     exfalso
     obtain⟨o2,x2,d2,q2,g1,_,_,_,_,g6,g7,g8,_⟩:=hR.follow
     have hl:=hinv.closed dj o2 g1 tN _ g8
     obtain⟨m,hm⟩:∃ m,ch.length=m+1:=⟨ch.length-1,oz⟩
     have dD:ch[m]?=some (ch[m]'(by omega)):=List.getElem?_eq_getElem _
     rw[hm,qt dD,h.rest m _ dD]at hl
     have:m+1<k+1:=by simpa using hl
     omega
   ·have rR:(i==i0||i==dj|| (ch.map (·.1)).contains i)=false:=by
     simp only[Bool.or_eq_false_iff,beq_eq_false_iff_ne,ne_eq,h0,hf,not_false_eq_true,true_and,List.contains_eq_mem,decide_eq_false_iff_not]
     intro hm
     obtain⟨p,hp,rfl⟩:=mem_map.1 hm
     obtain⟨k,hk,rfl⟩:=List.getElem_of_mem hp
     exact oQ ⟨k,_,List.getElem?_eq_getElem hk,rfl⟩
    have Pa:∀ q d,l[gV i0 ch j]?=some q->q.dst=some d->0<j->o.dst≠some d:=λq d hq ko hj e'=>by
     have:=kA hu hi hq e' ko
     by_cases Pf:j<=1
     ·simp only[gV,if_pos Pf]at this;exact h0 this
     ·obtain⟨m,hm⟩:∃ m,j=m+2:=⟨j-2,oz⟩
      have hle:=h.le
      have dD:ch[m]?=some (ch[m]'(by omega)):=List.getElem?_eq_getElem _
      rw[hm,qt dD]at this
      exact oQ ⟨m,_,dD,this.symm⟩
    have O8:∀ q d,l[dj]?=some q->q.dst=some d->o.dst≠some d:=λq d hq ko e'=>hf (kA hu hi hq e' ko)
    refine h.inv.tc hu hN hi hb hd (ob rR _) λa' w' h' hs=>hK j v a' w' ⟨h',?_,λk p hp=>?_,h.le,λhj q d hq ko=>?_,λtN q d hq ko=>?_⟩
    ·simp only[cP,if_neg (λe:i0=i=>h0 e.symm)];exact h.first
    ·simp only[cP,if_neg (λe:p.1=i=>oQ ⟨k,p,hp,e⟩)];exact h.rest k p hp
    ·rw[hs d (Pa q d hq ko hj)];exact h.slot hj q d hq ko
    ·simp only[cP,if_neg (λe:dj=i=>hf e.symm)]at tN
     rw[hs d (O8 q d hq ko)];exact h.dj tN q d hq ko
def vc (env:List (Nat×AV)) (l:List Oper):List (Nat×Nat×AV)->Prop
 | []=>True
 | p::r=>env[p.1]?=some p.2/\(l.all λo=>o.dst !=some p.2.1)=true/\vc env l r
theorem vc.mem {env:List (Nat×AV)} {l:List Oper}:∀ {ps:List (Nat×Nat×AV)},vc env l ps->∀ p∈ps.map (·.2),p∈env/\(l.all λo=>o.dst !=some p.1)=true
 | [],_,p,hp=>by cases hp
 | q::r,h,p,hp=>by
  rcases mem_cons.1 hp with rfl | hp
  ·exact⟨mem_of_getElem? h.1,h.2.1⟩
  ·exact h.2.2.mem p hp
theorem oh {id d:Nat} {draw:Bool} {a:Act} {w:World} (am:Nat->AV) (conds:Nat->Bool) (env':List (Nat×Nat×AV)) (rows:List (List CD)) (hrows:(ch.map (·.2)).flatten=rows) (hR:Row n P J S w0 env l am conds t e size bytes i0 ch dj) (V:aR J) (hJ0:J w0)
 (h:So J S w0 N O env a w) (hm:P.follows .mixedOrders=true) (hu:jP l=true) (hN:jg l N=true) (hback:lq l=true) (Fh:(l[dj]?).bind (·.dst)=some d)
 (ob:lk (CL n P J S w0 env l am conds i0 ch dj) 0 l) (hf:vc env l env') (hq:∀ v a w,So J S w0 N (OB.row v e size rows::O) ((d,.lit v)::env'.map (·.2)) a w->Q .normal a w):(Code.region id l.toArray draw).wpIn n.F n.d P Q a w:=by
 subst hrows
 have hq':∀ j v a' w',rb S J w0 N env l am conds a.tmps e size i0 ch dj O j v (λi=>decide (i<l.length)) a' w'->Q .normal a' w':=λj v a' w' r=>by
  obtain⟨o2,x2,d2,q2,g1,_,_,_,_,g6,g7,g8,g9⟩:=hR.follow
  have hlt:dj<l.length:=(List.getElem?_eq_some_iff.1 g1).1
  have hlast:=r.inv.closed dj o2 g1 (by simpa using hlt) _ g8
  have hj:j=ch.length+1:=by
   by_cases jX:ch.length=0
   ·have:gV i0 ch (ch.length+1)=i0:=by simp[gV,jX]
    rw[this,r.first]at hlast
    have:=r.le
    have:0<j:=by simpa using hlast
    omega
   ·obtain⟨m,hm⟩:∃ m,ch.length=m+1:=⟨ch.length-1,oz⟩
    have dD:ch[m]?=some (ch[m]'(by omega)):=List.getElem?_eq_getElem _
    rw[hm,qt dD,r.rest m _ dD]at hlast
    have h1:m+1<j:=by simpa using hlast
    have:=r.le
    omega
  subst hj
  have AA:upto ch (ch.length+1)=(ch.map (·.2)).flatten:=by simp[upto]
  have hi:=r.inv
  simp only[ni,Nat.succ_ne_zero,if_false,AA]at hi
  have Fb:o2.dst=some d:=by rw[g1]at Fh;exact Fh
  refine hq v a' w' ⟨hi.defs,hi.size,hi.keep,hi.x,λp hp=>?_⟩
  rcases mem_cons.1 hp with rfl | hp
  ·refine⟨ix hN g1 Fb,?_⟩
   have ei:=r.dj (by simpa using hlt) o2 d g1 Fb
   simp only
   rw[ei]
   refine Rel.aH _ (nq (hi.x.2.1 (OB.row v e size (ch.map (·.2)).flatten) yz))
  ·obtain⟨h1,h2⟩:=hf.mem p hp
   have h3:=hi.env p h1
   refine⟨h3.1,?_⟩
   rw[hi.old p.1 λi o hi' ho=>by
    have:=all_eq_true.1 h2 o (mem_of_getElem? hi')
    simp[ho]at this]
   exact h3.2
 have start:∀ w',Keeps All w w'->rb S J w0 N env l am conds a.tmps e size i0 ch dj O 0 undef (λ_=>false) a w':=λw' hk=>
  ⟨by
   simp only[ni,if_true]
   exact⟨h.defs,h.size,h.keep.trans hk,fo V _ _ hk h.x,λ_ _=>rfl,λ_ _ _ _ _ e _=>(by cases e),λ_ _ _ _ _ e _=>(by cases e),λ_ _ _ e=>(by cases e),λ_ h=>h,λp hp=>⟨(h.env p hp).1,(h.env p hp).2.on hk⟩⟩,
   by simp,λ_ _ _=>by simp,oz,λh=>by omega,λh=>by cases h⟩
 exact xH (Pn:=λ_ _ _=>False) (I:=λb a' w'=>∃ j v,rb S J w0 N env l am conds a.tmps e size i0 ch dj O j v b a' w') (λ_ _ _ h=>h.elim) hm hback (λQ _ b a1 w1 i o rest hi hb hd ⟨j,v,h1⟩ hK=>by
  have gp:=se l 0 ob i o hi
  rw[Nat.zero_add]at gp
  exact h1.does hR V hJ0 hu hN hi hb hd gp λj' v' a' w' h'=>hK a' w' ⟨j',v',h'⟩) (λa1 w1 ⟨j,v,h1⟩=>hq' j v a1 w1 h1) ⟨0,undef,start w (Keeps.refl _ _)⟩ ⟨0,undef,start w.drew ((Keeps.refl _ _).drew)⟩
def JS (J:WP) (S:Nat->Prop) (w0:World) (env:List (Nat×AV)) (l:List Oper) (am:Nat->AV) (conds:Nat->Bool) (t:TypeId) (size bytes:Nat) (i0:Nat) (ch:List (Nat×List (List CD))) (k:Nat) (p:Nat×List (List CD)):Prop:=
 ∃ o x y q,l[p.1]?=some o/\o.op= .call { callee:=.builtin .append,args:= #[.tmp x,y],argTypes:= #[t,t] }/\o.guard=none/\am p.1= .any/\conds p.1=true/\
  l[gV i0 ch (k+1)]?=some q/\q.dst=some x/\(cp o).contains (gV i0 ch (k+1))=true/\(∀ r∈p.2,r.length=size)/\((upto ch (k+1)).length+p.2.length)<=maxLen/\((upto ch (k+1)).length+p.2.length)*bytes<=140737488355328/\
  ∀ O' a w,Keeps All w0 w->XO J S w0.heap.size O' w->Look (SO S O') w env l am conds p.1 a->Rel (SO S O') w (.rd (.sl p.2)) (a.eval y)
def u9 (p:Nat->Nat×List (List CD)->Prop):Nat->List (Nat×List (List CD))->Prop
 | _,[]=>True
 | k,x::r=>p k x/\u9 p (k+1) r
theorem u9.get {p:Nat->Nat×List (List CD)->Prop}:∀ {c:List (Nat×List (List CD))} {k:Nat},u9 p k c->∀(i:Nat) (x:Nat×List (List CD)),c[i]?=some x->p (k+i) x
 | [],_,_,i,x,h=>by simp at h
 | y::r,k,⟨h1,h2⟩,i,x,h=>by
  cases i with
  | zero=>simp at h;subst h;exact h1
  | succ i=>have:=h2.get i x (by simpa using h);rwa [Nat.add_assoc,Nat.add_comm 1 i]at this
theorem Row.mk' (app:jA P t e size bytes)
 (first:∃ o,l[i0]?=some o/\o.op= .buildSlice t 0 #[]/\o.guard=none/\am i0= .any/\conds i0=true) (next:u9 (JS J S w0 env l am conds t size bytes i0 ch) 0 ch)
 (follow:∃ o x d q,l[dj]?=some o/\o.op= .assign (.tmp x)/\o.guard=none/\am dj= .any/\conds dj=true/\l[gV i0 ch (ch.length+1)]?=some q/\q.dst=some x/\(cp o).contains (gV i0 ch (ch.length+1))=true/\o.dst=some d)
 (hne:(ch.all λp=>p.1 !=i0&&p.1 !=dj)=true) (d8:(ch.zipIdx.all λx=>ch.zipIdx.all λy=>x.2==y.2||x.1.1 !=y.1.1)=true) (hf:(dj !=i0)=true):Row n P J S w0 env l am conds t e size bytes i0 ch dj where
 app:=app
 first:=first
 next:=λk p hp=>by
  have:=next.get k p hp
  rw[Nat.zero_add]at this
  obtain⟨o,x,y,q,h1,h2,h3,h4,h5,h6,h7,h8,h9,h10,h11,h12⟩:=this
  exact⟨o,x,y,q,x,h1,h2,h3,h4,h5,h6,h7,rfl,by simpa using h8,h9,h10,h11,h12⟩
 follow:=by
  obtain⟨o,x,d,q,h1,h2,h3,h4,h5,h6,h7,h8,h9⟩:=follow
  exact⟨o,x,d,q,h1,h2,h3,h4,h5,h6,h7,by simpa using h8,h9⟩
 ne:=λk p hp=>by
  have:=all_eq_true.1 hne p (mem_of_getElem? hp)
  simpa using this
 nodup:=λk m p q hp hq e=>by
  have h1:=all_eq_true.1 d8 (p,k) (by rw[List.mem_zipIdx_iff_getElem?];simpa using hp)
  have h2:=all_eq_true.1 h1 (q,m) (by rw[List.mem_zipIdx_iff_getElem?];simpa using hq)
  simpa [e]using h2
 EJ:=by simpa using hf
theorem bC {p:Prop} {b:Bool} (hb:b=true) (h:b=false):p:=by rw[hb]at h;cases h
end
end Go.Proofs.YtdfadihhfppjaaaGreatDoor
