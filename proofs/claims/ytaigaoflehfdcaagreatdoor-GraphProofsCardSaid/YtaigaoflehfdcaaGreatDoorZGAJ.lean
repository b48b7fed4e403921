/-
  A REGION THAT DRAWS ITS ORDER, BY AN INVARIANT OVER THE OPERATIONS THAT HAVE COME UP: each operation is walked once.
-/
import Derived.Test.YtaigaoflehfdcaaGreatDoorZGB
import Derived.OrdersIn
import Derived.TacticsIn
namespace Go.Proofs.YtaigaoflehfdcaaGreatDoor
open Go.RowKit
def mark (b:Nat→Bool) (i:Nat):Nat→Bool:=fun j=>if j=i then true else b j
theorem Znh (b:Nat→Bool) (i:Nat):mark b i i=true:=by simp[mark]
theorem Zw {b:Nat→Bool} (i:Nat) {j:Nat} (h:b j=true):mark b i j=true:=by simp[mark,h]
theorem Zc1 {b:Nat→Bool} {i j:Nat} (h:mark b i j=false):b j=false:=by
 unfold mark at h
 split at h
 · cases h
 · exact h
theorem ZbZ {b:Nat→Bool} {i j:Nat} (hne:j≠i) (h:mark b i j=true):b j=true:=by rwa [mark,if_neg hne]at h
theorem Zn (b:Nat→Bool) {i j:Nat} (h:j≠i):mark b i j=b j:=by simp[mark,h]
theorem mixed:Tryz.prog.follows .mixedOrders=true:=by kernel_rfl
section
variable {F:Fence} {n:Nat} {P:Program} {ops:Array Oper} {Q:Exit→Act→World→Prop}
theorem Zim {o:Oper} {a:Act} {K:Act→World→Prop} {r:Result Next} (h:o.uponIn F n P a K (Exit.then K Q) r):o.uponIn F n P a K Q r:=by
 cases r with
 | ok x w'=>
  cases x<;>simp only[Oper.uponIn]at h ⊢ <;>
   first
    | exact h
    | exact⟨h.1,h.2.mono fun e w'' he=>by cases e<;>exact he⟩
    | exact⟨h.1,RoundIn.mono h.2 fun e w'' he=>by cases e<;>exact he⟩
    | exact⟨h.1,RowsIn.mono h.2 fun e w'' he=>he⟩
 | halt x w'=>cases x<;>simp only[Oper.uponIn]at h ⊢ <;>exact h
theorem Zfg {i:Nat} {o:Oper} (ho:ops[i]?=some o) {K:Act→World→Prop} {a:Act} {w:World}
 (h:wpListIn F n P ops (Exit.then K Q) [o] a w):wpOpIn F n P ops Q i K a w:=by
 unfold wpOpIn
 simp only[ho]
 simp only[wpListIn]at h
 split
 · rename_i hw
   rw[if_pos hw]at h
   exact⟨h.1,Zim h.2⟩
 · rename_i hw
   rw[if_neg hw]at h
   exact h
def left (l:Array Bool):Nat:=l.toList.countP (· ==false)
theorem Zj8 {l:Array Bool} {i:Nat} (h:l.getD i true=false):left (l.setIfInBounds i true)+1=left l:=by
 obtain⟨l⟩:=l
 have hi:i<l.length:=by
  rcases Nat.lt_or_ge i l.length with h' | h'
  · exact h'
  · rw[Array.getD_eq_getD_getElem?,Array.getElem?_eq_none (by simpa using h')]at h
    simp at h
 have hv:l[i]=false:=by simpa [Array.getD,hi]using h
 simp only[left,List.setIfInBounds_toArray]
 have h1:=List.countP_set (p:=(· ==false)) (l:=l) (i:=i) (a:=true) hi
 have h2:0<l.countP (· ==false):=List.countP_pos_iff.2 ⟨l[i],List.getElem_mem hi,by simp[hv]⟩
 rw[h1,hv,if_pos (by rfl),if_neg (by simp)]
 omega
theorem Zk8 {l:Array Bool} {i:Nat} (h:i∈Region.ready .any ops l):0<left l:=by
 have:=Zj8 (mem_ready.1 h).1
 omega
theorem Zhr {l:Array Bool} (hl:l.size=ops.size) (hs:∀ i o,ops[i]?=some o→∀ e∈o.after,Region.binds .any e=true→e.on<i) (h:Region.ready .any ops l=[]):
 ∀ i,i<ops.size→l.getD i false=true:=by
 intro i
 induction i using Nat.strongRecOn with
 | ind i ih=>
  intro hi
  have hil:i<l.size:=by omega
  cases hv:l.getD i false with
  | true=>rfl
  | false=>
   have hm:i∈Region.ready .any ops l:=mem_ready.2 ⟨by simpa [Array.getD,hil]using hv,ops[i],Array.getElem?_eq_getElem hi,fun e he hb=>by
    have h1:=hs i ops[i] (Array.getElem?_eq_getElem hi) e he hb
    exact ih e.on h1 (by omega)⟩
   rw[h]at hm
   cases hm
theorem Zfh (Inv:(Nat→Bool)→Act→World→Prop)
 (hs:∀ i o,ops[i]?=some o→∀ e∈o.after,Region.binds .any e=true→e.on<i)
 (step:∀ i o,ops[i]?=some o→∀(b:Nat→Bool) a w,b i=false→(∀ e∈o.after,Region.binds .any e=true→b e.on=true)→Inv b a w→wpListIn F n P ops (Exit.then (Inv (mark b i)) Q) [o] a w)
 (fin:∀ b a w,(∀ i,i<ops.size→b i=true)→Inv b a w→Q .normal a w):
 ∀ fuel (listed:Array Bool) a w,listed.size=ops.size→left listed≤fuel→Inv (fun i=>listed.getD i false) a w→wpAnyIn F n P .any ops Q fuel listed a w:=by
 intro fuel
 induction fuel with
 | zero=>
  intro listed a w hl hf hi
  have hnil:Region.ready .any ops listed=[]:=by
   cases hr:Region.ready .any ops listed with
   | nil=>rfl
   | cons x xs=>have:=Zk8 (ops:=ops) (l:=listed) (i:=x) (by rw[hr];simp);omega
  exact⟨hnil,fin _ a w (Zhr hl hs hnil) hi⟩
 | succ fuel ih=>
  intro listed a w hl hf hi
  refine⟨fun hnil=>fin _ a w (Zhr hl hs hnil) hi,fun i hr=>?_⟩
  obtain⟨h1,o,ho,h2⟩:=mem_ready.1 hr
  have hil:i<listed.size:=by rw[hl];exact(Array.getElem?_eq_some_iff.1 ho).1
  have h3:=step i o ho (fun i=>listed.getD i false) a w (by simpa [Array.getD,hil]using h1) h2 hi
  refine wpOpIn_mono (fun a' w' h=>?_) (Zfg ho h3)
  refine ih _ a' w' (by simpa using hl) (by have:=Zj8 h1;omega) ?_
  have he:(fun j=>(listed.setIfInBounds i true).getD j false)=mark (fun j=>listed.getD j false) i:=by
   funext j
   by_cases hj:j=i
   · subst hj
     simp[mark,Array.getD,hil]
   · simp only[mark,if_neg hj,Array.getD_eq_getD_getElem?]
     rw[Array.getElem?_setIfInBounds_ne (fun e=>hj e.symm)]
  rw[he];exact h
theorem Zlp (k:Nat):left (Array.replicate k false)≤k:=by
 simp only[left]
 exact Nat.le_trans List.countP_le_length (by simp)
def ZoP (p:Nat→Oper→Prop):Nat→List Oper→Prop
 | _,[]=>True
 | k,o::r=>p k o∧ZoP p (k+1) r
theorem ZoI {p:Nat→Oper→Prop}:∀(l:List Oper) (k:Nat),ZoP p k l→∀ i o,l[i]?=some o→p (k+i) o
 | [],_,_,i,o,h=>by simp at h
 | x::r,k,⟨h1,h2⟩,i,o,h=>by
  cases i with
  | zero=>simp at h;subst h;exact h1
  | succ i=>have:=ZoI r (k+1) h2 i o (by simpa using h);rwa [Nat.add_assoc,Nat.add_comm 1 i]at this
def Zmr (ops:Array Oper):Bool:=ops.toList.zipIdx.all fun(o,i)=>o.after.all fun e=>!Region.binds .any e||decide (e.on<i)
theorem Zhh (h:Zmr ops=true):∀ i o,ops[i]?=some o→∀ e∈o.after,Region.binds .any e=true→e.on<i:=by
 intro i o ho e he hb
 have h1:=List.all_eq_true.1 h (o,i) (by rw[List.mem_zipIdx_iff_getElem?];simpa using ho)
 have h2:=Array.all_eq_true_iff_forall_mem.1 h1 e he
 simpa [hb]using h2
def Ztx:List Value→Bool→Nat→Value→List Value
 | [],_,_,_=>[]
 | x::r,b,0,v=>cond b v x::r
 | x::r,b,d+1,v=>x::Ztx r b d v
def sI (T:Array Value) (b:Bool) (d:Nat) (v:Value):Array Value:=(Ztx T.toList b d v).toArray
theorem Zv (l:List Value) (b:Bool) (d:Nat) (v:Value):sI l.toArray b d v=(Ztx l b d v).toArray:=rfl
theorem Zg (x:Value) (r:List Value) (b:Bool) (v:Value):Ztx (x::r) b 0 v=cond b v x::r:=rfl
theorem Ze (x:Value) (r:List Value) (b:Bool) (d:Nat) (v:Value):Ztx (x::r) b (d+1) v=x::Ztx r b d v:=rfl
theorem ZfJ:∀(l:List Value) (d:Nat) (v:Value),Ztx l false d v=l
 | [],_,_=>rfl
 | _::_,0,_=>rfl
 | x::r,d+1,v=>by rw[Ze,ZfJ r d v]
theorem Zbo (T:Array Value) (d:Nat) (v:Value):sI T false d v=T:=by simp[sI,ZfJ]
def sIs:Array Value→List (Bool×Nat×Value)→Array Value
 | T,[]=>T
 | T,(b,d,v)::r=>sIs (sI T b d v) r
theorem Zm (T:Array Value):sIs T []=T:=rfl
theorem Zh (T:Array Value) (b:Bool) (d:Nat) (v:Value) (r:List (Bool×Nat×Value)):sIs T ((b,d,v)::r)=sIs (sI T b d v) r:=rfl
theorem Y9 (Inv:Array Value→World→(Nat→Bool)→Act→World→Prop) {id:Nat} {a:Act} {w:World} {l:List Oper} (hm:P.follows .mixedOrders=true)
 (hs:Zmr l.toArray=true)
 (h0:Inv a.tmps w (fun _=>false) a w.drew)
 (step:ZoP (fun i o=>∀(b:Nat→Bool) a' w',b i=false→(∀ e∈o.after,Region.binds .any e=true→b e.on=true)→Inv a.tmps w b a' w'→wpListIn F n P l.toArray (Exit.then (Inv a.tmps w (mark b i)) Q) [o] a' w') 0 l)
 (fin:∀ b a' w',(∀ i,i<l.length→b i=true)→Inv a.tmps w b a' w'→Q .normal a' w'):(Code.region id l.toArray true).wpIn F n P Q a w:=by
 refine wpIn_region_any hm ?_
 refine Zfh (Inv a.tmps w) (Zhh hs) (fun i o ho=>by have:=ZoI l 0 step i o (by simpa using ho);rwa [Nat.zero_add]at this) (fun b a' w' h=>fin b a' w' (by simpa using h)) _ _ _ _ (by simp) (Zlp _) ?_
 have:(fun i=>(Array.replicate l.toArray.size false).getD i false)=fun _=>false:=by
  funext i
  simp[Array.getD]
 rw[this];exact h0
end
end Go.Proofs.YtaigaoflehfdcaaGreatDoor
