/-
  A MAP FROM KEYS OF TWO TEXTS TO NUMBERS, that the call itself has made: what a look-up finds, what a store of a new key leaves.
-/
import Derived.Test.YtaigaoflehfdcaaGreatDoorZGAE
import Derived.Laws.StructEq
namespace Go.Proofs.YtaigaoflehfdcaaGreatDoor
open Go.Proofs.Tryz (prog)
open Go.RowKit
def Zg0 (k:ByteArray×ByteArray):Value:=.agg #[.string k.1,.string k.2]
theorem Zh9 (a b:ByteArray):(a.toList==b.toList)=decide (a=b):=by
 by_cases h:a=b
 · subst h;simp
 · simp only[h,decide_false]
   rw[beq_eq_false_iff_ne]
   intro e
   apply h
   rw[ByteArray.toList_eq,ByteArray.toList_eq]at e
   exact ByteArray.ext (Array.toList_inj.1 e)
theorem Zlr:(prog.fieldsOf 188).toList=[{ name:= "label",type:=9,offset:=0,embedded:=false,tag:= "",pkgPath:= "apodixis/graph",byteOffset:=0 }, { name:= "args",type:=9,offset:=1,embedded:=false,tag:= "",pkgPath:= "apodixis/graph",byteOffset:=16 }]:=by kernel_rfl
theorem Zlq:prog.underlying 188=some (.struct (prog.fieldsOf 188)):=by kernel_rfl
theorem Za2 (c:Array Value) (i:Nat) (v:Value) (h:c[i]?=some v) (w:World):(part 9 c i).run prog w= .ok v w:=by
 simp[part,Tryz.isAgg9,h]
theorem Zgg (a b:ByteArray×ByteArray) (w:World):(Op.equal 188 (Zg0 a) (Zg0 b)).run prog w= .ok (decide (a=b)) w:=by
 unfold Op.equal Op.maxDepth Zg0
 rw[run_equalIn_struct w 9999 188 _ _ Zlq (by kernel_rfl),Zlr]
 have e1:=fun(c:Array Value) (v:Value) (i:Nat) (h:c[i]?=some v)=>Za2 c i v h
 have q1:=run_equalIn_string (P:=prog) w 9998 9 a.1 b.1 Tryz.underlying9
 have q2:=run_equalIn_string (P:=prog) w 9998 9 a.2 b.2 Tryz.underlying9
 rw[Zh9]at q1 q2
 simp only[Op.eqFields]
 rw[if_pos (by decide),if_pos (by decide)]
 simp only[Sem.run_bind]
 rw[e1 _ (.string a.1) 0 rfl w,Result.andThen_ok,e1 _ (.string b.1) 0 rfl w,Result.andThen_ok,q1,Result.andThen_ok]
 by_cases h1:a.1=b.1
 · simp only[h1,decide_true,Bool.not_true,Bool.false_eq_true,if_false,Sem.run_bind]
   rw[e1 _ (.string a.2) 1 rfl w,Result.andThen_ok,e1 _ (.string b.2) 1 rfl w,Result.andThen_ok,q2,Result.andThen_ok]
   by_cases h2:a.2=b.2
   · simp[h2,Sem.run_pure,Prod.ext_iff,h1]
   · simp[h2,Sem.run_pure,Prod.ext_iff]
 · simp[h1,Sem.run_pure,Prod.ext_iff]
theorem Zcj (em:Bool) (a:ByteArray×ByteArray) (w:World):(Instr.checkKey em 10000 188 (Zg0 a)).run prog w= .ok () w:=by
 have e1:=fun(c:Array Value) (v:Value) (i:Nat) (h:c[i]?=some v)=>Za2 c i v h
 have hs:∀(s:ByteArray) (n:Nat),(Instr.checkKey em (n+1) 9 (.string s)).run prog w= .ok () w:=fun s n=>by
  simp[Instr.checkKey,run_underlying Tryz.underlying9]
 show(Instr.checkKey em (9998+1+1) 188 (Zg0 a)).run prog w= .ok () w
 unfold Instr.checkKey Zg0
 simp only[Sem.run_bind,run_underlying Tryz.underlying188,Result.andThen_ok]
 simp[e1,hs,Sem.run_bind]
def Qt (k:ByteArray×ByteArray):List (ByteArray×ByteArray)→Nat→Option Nat
 | [],_=>none
 | x::r,i=>if k=x then some i else Qt k r (i+1)
def Numbered:List MapEntry→List (ByteArray×ByteArray)→Nat→Prop
 | [],[],_=>True
 | e::es,k::K,i=>e.key=Zg0 k∧e.val= .int .i64 (i:Int)∧Numbered es K (i+1)
 | _,_,_=>False
theorem Numbered.snoc:∀ {es:List MapEntry} {K:List (ByteArray×ByteArray)} {i:Nat} (k:ByteArray×ByteArray) (born:Nat),Numbered es K i→
 Numbered (es++[{ key:=Zg0 k,val:=.int .i64 ((i+K.length:Nat):Int),born:=born }]) (K++[k]) i
 | [],[],i,k,born,_=>⟨rfl,rfl,trivial⟩
 | e::es,x::K,i,k,born,h=>by
  have ih:=Numbered.snoc k born h.2.2
  refine⟨h.1,h.2.1,?_⟩
  rw[show i+(x::K).length=i+1+K.length by simp;omega]
  exact ih
theorem ZbI (k:ByteArray×ByteArray) (w:World):∀(es:List MapEntry) (K:List (ByteArray×ByteArray)) (i j:Nat),Numbered es K j→
 (Instr.findAsking 188 (Zg0 k) es i).run prog w= .ok ((Qt k K i).map fun n=>(n,.int .i64 ((n-i+j:Nat):Int))) w
 | [],[],i,j,_=>by simp[Instr.findAsking,Qt]
 | e::es,x::K,i,j,h=>by
  have ih:=ZbI k w es K (i+1) (j+1) h.2.2
  have hge:∀(K:List (ByteArray×ByteArray)) (i n:Nat),Qt k K i=some n→i≤n:=by
   intro K
   induction K with
   | nil=>intro i n h;simp[Qt]at h
   | cons x K ih=>
    intro i n h
    simp only[Qt]at h
    split at h
    · cases h;exact Nat.le_refl _
    · have:=ih _ _ h;omega
  simp only[Instr.findAsking,Sem.run_bind]
  rw[h.1,Zgg,Result.andThen_ok]
  by_cases hk:k=x
  · simp only[hk,decide_true,if_true,Sem.run_pure,Qt,Option.map_some,h.2.1,Nat.sub_self,Nat.zero_add]
  · simp only[hk,decide_false,Bool.false_eq_true,if_false,Qt]
    rw[ih]
    congr 1
    cases hf:Qt k K (i+1)with
    | none=>rfl
    | some n=>
     have:=hge _ _ _ hf
     simp only[Option.map_some]
     rw[show n-(i+1)+(j+1)=n-i+j by omega]
theorem Zef (k:ByteArray×ByteArray) (w:World) (es:List MapEntry) (K:List (ByteArray×ByteArray)) (h:Numbered es K 0):
 (Instr.findKey 188 (Zg0 k) es).run prog w= .ok ((Qt k K 0).map fun n=>(n,.int .i64 (n:Int))) w:=by
 have ha:=ZbI k w es K 0 0 h
 simp only[Nat.sub_zero,Nat.add_zero]at ha
 unfold Instr.findKey
 simp only[Sem.run_bind,run_underlying Tryz.underlying188,Result.andThen_ok]
 cases es with
 | nil=>
  cases K with
  | nil=>simp[Instr.findNow,Qt]
  | cons _ _=>exact h.elim
 | cons e es=>
  have:Instr.findNow (TypeDesc.struct (prog.fieldsOf 188)) (Zg0 k) (e::es) 0=none:=by
   simp[Instr.findNow,Instr.sameNow]
  first
   | (rw[show(Instr.findNow _ (Zg0 k) (e::es) 0)=none from by simp[Instr.findNow,Instr.sameNow]];exact ha)
   | exact ha
def MapIdx (w:World) (M:Nat) (K:List (ByteArray×ByteArray)):Prop:=∃ es clock,w.heap[M]?=some (.map es clock)∧Numbered es.toList K 0
theorem MapIdx.keep {S:Nat→Prop} {w w':World} {M:Nat} {K:List (ByteArray×ByteArray)} (h:MapIdx w M K) (hk:Keeps S w w') (hs:S M):MapIdx w' M K:=by
 obtain⟨es,clock,hm,hn⟩:=h
 exact⟨es,clock,(hk.block M (Array.getElem?_eq_some_iff.1 hm).1 hs).trans hm,hn⟩
theorem MapIdx.new (w:World):MapIdx (w.alloc (.map #[] 0)) w.heap.size []:=
 ⟨#[],0,by show(w.heap.push _)[w.heap.size]?=_;simp,trivial⟩
theorem Zpj (k:ByteArray×ByteArray) (w:World) (M:Nat) (K:List (ByteArray×ByteArray)) (h:MapIdx w M K):
 (Instr.lookup 134 (.map (some M)) (Zg0 k) true).run prog w= .ok (match Qt k K 0 with | some n=>.tuple #[.int .i64 (n:Int),.bool true] | none=>.tuple #[.int .i64 0,.bool false]) w:=by
 obtain⟨es,clock,hm,hn⟩:=h
 have hg:(getObj M).run prog w= .ok (.map es clock) w:=by simp[getObj,Sem.run,hm]
 have hf:=Zef k w es.toList K hn
 have hz:=Tryz.zeroValue3 w
 have hck:=Zcj es.isEmpty k w
 unfold Instr.lookup
 simp only[Sem.run_bind,run_underlying Tryz.underlying134,Result.andThen_ok,hg,Sem.run_pure,hck,hf]
 cases Qt k K 0 with
 | none=>simp[hz,Result.andThen_ok]
 | some n=>simp[Sem.run_pure]
theorem Zs8 (k:ByteArray×ByteArray) (w:World) (M:Nat) (K:List (ByteArray×ByteArray)) (h:MapIdx w M K) (hnew:Qt k K 0=none):
 ∃ w',(Instr.mapUpdate 134 (.map (some M)) (Zg0 k) (.int .i64 (K.length:Int))).run prog w= .ok () w'∧MapIdx w' M (K++[k])∧Keeps (· ≠M) w w':=by
 obtain⟨es,clock,hm,hn⟩:=h
 have hg:(getObj M).run prog w= .ok (.map es clock) w:=by simp[getObj,Sem.run,hm]
 have hf:=Zef k w es.toList K hn
 have hck:=Zcj false k w
 refine⟨{ w with heap:=w.heap.setIfInBounds M (.map (es.push { key:=Zg0 k,val:=.int .i64 (K.length:Int),born:=clock }) (clock+1)) },?_,?_,?_⟩
 · unfold Instr.mapUpdate
   simp only[Sem.run_bind,run_underlying Tryz.underlying134,Result.andThen_ok,hg,hck,hf,hnew,Option.map_none]
   simp[setObj,Sem.run,hm]
 · have hlt:M<w.heap.size:=(Array.getElem?_eq_some_iff.1 hm).1
   refine⟨es.push { key:=Zg0 k,val:=.int .i64 (K.length:Int),born:=clock },clock+1,by simp[hlt],?_⟩
   have:=hn.snoc k clock
   simpa using this
 · exact(Keeps.refl _ _).putObj (fun _ hn=>hn rfl) _
end Go.Proofs.YtaigaoflehfdcaaGreatDoor
