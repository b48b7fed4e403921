/-
  A RANGE OVER A FUNCTION WHOSE BODY NEVER LEAVES, WHERE THE ITERATOR KEEPS STATE IN CELLS OF ITS OWN: the iterator's contract ('SeqAll') and the caller's law.
-/
import Derived.RangeFuncNested
import Derived.RangeFuncBound
import Derived.RangeFuncCalls
import Derived.RangeFuncLeaves
import Derived.Shelf.Abstract
import Derived.OwnWalkIn
import Derived.TacticsInMore
import Derived.LoopNIn
import Derived.LoopIn
import Derived.Test.YtaigaoflehfdcaaGreatDoorZGB
namespace Go.Proofs.YtaigaoflehfdcaaGreatDoor
open Go.RowKit
def ZoM {α:Type} (P:Program) (g:Nat) (lb:Array Value) (enc:α→Value) (Prot:Nat→Prop) (own:Nat) (xs:List α) (w:World):Prop:=
 ∀(n l:Nat) (J:List α→World→Prop) (W:World),Keeps All w W→
  (∀ pre A B,J pre A→W.heap.size≤A.heap.size→Keeps (fun k=>k<W.heap.size∨W.heap.size+own≤k) A B→J pre B)→
  (∀ m pre x W1,J pre W1→(pre++[x])<+:xs→W.heap.size+own≤W1.heap.size→YieldAt Fence.wide m P l #[enc x] W1 fun e W'=>
   e= .returned (.bool true)∧J (pre++[x]) W'∧Keeps (fun k=>Prot k∨(W.heap.size≤k∧k<W.heap.size+own)) W1 W')→
  J [] W→
  CallsIn Fence.wide n P g (#[.func (.yield l) #[] #[]]++lb) W fun e W'=>(∃ v,e= .returned v)∧J xs W'
def ZoJ {α:Type} (I:List α→World→Prop) (K:Nat→Prop) (xs:List α) (W:World):Exit→Act→World→Prop
 | .normal,_,W'=>I xs W'∧Keeps K W W'
 | _,_,_=>False
variable {P:Program} {w:World}
theorem QQ {K:Nat→Prop} {A B:World} (h:Keeps K A B) {l:Nat} (hl:¬ K l) (o:Obj):Keeps K A (B.putObj l o):=h.putObj (fun _=>hl) o
theorem Zb8 {α:Type} {n:Nat} {g:Operand} {ps:Array Tmp} {assign body:Code} {Q:Exit→Act→World→Prop} {a:Act}
 {gf:Nat} {lb:Array Value} (hg:a.eval g= .func (.func gf) #[] lb) (eg:∀ args w,(callFunc gf args).run P w= .ok (.enter gf args) w)
 {enc:α→Value} {Prot:Nat→Prop} {own:Nat} {xs:List α} (hseq:ZoM P gf lb enc Prot own xs w) (hps:ps.size=1)
 (I:List α→World→Prop)
 (hI:∀ pre A B,I pre A→w.heap.size≤A.heap.size→Keeps (fun k=>k<w.heap.size∨w.heap.size+2+own≤k) A B→I pre B) (h0:I [] w) (a₁:α→Act)
 (hassign:∀(m l:Nat) (x:α) (W:World) (K:Act→World→Prop),K (a₁ x) W→
  assign.wpIn (Fence.wide.inRound l) m P (Exit.then K (fun _ _ _=>False)) { tmps:=(ps.zip #[enc x]).foldl (fun t (p,v)=>t.setIfInBounds p v) a.tmps,defers:=[] } W)
 (hbody:∀(m l:Nat) (pre:List α) (x:α) (W:World),I pre W→(pre++[x])<+:xs→w.heap.size+2+own≤W.heap.size→
  body.wpIn (Fence.wide.inRound l) m P (ZoJ I (fun k=>Prot k∨(w.heap.size≤k∧k<w.heap.size+2+own)) (pre++[x]) W) (a₁ x) W)
 (hProt:∀ k,Prot k→k<w.heap.size)
 (hdone:∀(D:Nat) (W:World),D=w.heap.size→I xs W→W.heap[D]?=some (.deferred (some []))→Q .normal { a with defers:= { target:=.collected D,args:= #[] }::a.defers } W):
 (Code.rangeFunc g ps assign body).wpIn Fence.wide n P Q a w:=by
 refine wpIn_rangeFunc ?_
 intro fn hfn
 rw[show Fence.wide.round=none from rfl]
 obtain⟨rec,hrec⟩:∃ rec:LoopState→Option Code→Loop,rec=fun st pe=> { state:=st,pending:=pe,fn,tmps:=a.tmps,params:=ps,assign,body,defers:=w.heap.size }:=⟨_,rfl⟩
 obtain⟨W1,hW1⟩:∃ W1,(w.alloc (.deferred (some []))).alloc (.loop (rec .ready none))=W1:=⟨_,rfl⟩
 have hs1:W1.heap.size=w.heap.size+2:=by rw[←hW1];simp
 have hL1:W1.heap[w.heap.size+1]?=some (.loop (rec .ready none)):=by
  rw[←hW1];have:=World.alloc_heap_new (w.alloc (.deferred (some []))) (.loop (rec .ready none));rwa [World.size_alloc]at this
 have hK1:W1.heap[w.heap.size]?=some (.deferred (some [])):=by
  rw[←hW1];exact(Below.heap_alloc _ _ _ (by simp)).trans (World.alloc_heap_new w _)
 have hkw:Keeps All w W1:=by rw[←hW1];exact((Keeps.refl All w).alloc _).alloc _
 have hI1:I [] W1:=hI _ _ _ h0 (Nat.le_refl _) (hkw.sub fun _ _ _=>trivial)
 refine⟨w.heap.size+1,[{ target:=.collected w.heap.size,args:= #[] }],W1, { target:=.fn (.func gf) lb,args:= #[.func (.yield (w.heap.size+1)) #[] #[]] },W1,gf,
  #[.func (.yield (w.heap.size+1)) #[] #[]]++lb,W1,?_,?_,?_,?_,fun h=>by simp[Fence.wide]at h,?_⟩
 · rw[←hW1,hrec];exact run_enterLoop_outer _ _ _ _ _
 · simp only[resolve,hg]
   simp[go_sem]
 · intro f' _;trivial
 · simp[invoke,go_sem,eg]
 refine(hseq (n-1) (w.heap.size+1)
  (fun pre W=>I pre W∧w.heap.size+2≤W.heap.size∧W.heap[w.heap.size+1]?=some (.loop (rec .ready none))∧W.heap[w.heap.size]?=some (.deferred (some [])))
  W1 hkw ?_ ?_ ⟨hI1,by omega,hL1,hK1⟩).mono ?_
 · rintro pre A B ⟨hi,hsz,hl,hk⟩ hA hAB
   rw[hs1]at hAB
   exact⟨hI _ _ _ hi (by omega) (hAB.sub fun k _ hk=>by omega),by have:=hAB.size;omega,
    (hAB.block _ (by omega) (Or.inl (by omega))).trans hl,(hAB.block _ (by omega) (Or.inl (by omega))).trans hk⟩
 · -- ONE ROUND
   rintro m pre x W ⟨hi,hsz,hl,hk⟩ hpre hWs
   rw[hs1]at hWs ⊢
   have hy:=run_yield (P:=P) (args:= #[enc x]) hl (by rw[hrec];simp[hps])
   rw[hrec]at hy
   refine⟨fn,_,assign,body,hy,roundIn_of_wpIn hfn (hassign m _ x W _ ⟨_,run_beginRound hl (by rw[hrec]),?_⟩)⟩
   have hlt:w.heap.size+1<W.heap.size:=by omega
   have hl2:(W.putObj (w.heap.size+1) (.loop { rec .ready none with state:=.busy })).heap[w.heap.size+1]?=some (.loop { rec .ready none with state:=.busy }):=World.putObj_heap_same hlt
   have hk2:(W.putObj (w.heap.size+1) (.loop { rec .ready none with state:=.busy })).heap[w.heap.size]?=some (.deferred (some [])):=(World.putObj_heap_other (by omega)).trans hk
   have hput:∀(X:World) (o:Obj),Keeps (fun k=>k<w.heap.size∨w.heap.size+2+own≤k) X (X.putObj (w.heap.size+1) o):=fun X o=>QQ (Keeps.refl _ _) (by omega) o
   have hput2:∀(X:World) (o:Obj),Keeps (fun k=>Prot k∨(w.heap.size+2≤k∧k<w.heap.size+2+own)) X (X.putObj (w.heap.size+1) o):=fun X o=>by
    refine QQ (Keeps.refl _ _) ?_ o
    rintro(h | ⟨h,_⟩)
    · have:=hProt _ h;omega
    · omega
   refine wpIn_mono (hbody m _ pre x _ (hI _ _ _ hi (by omega) (hput _ _)) hpre (by simpa using hWs)) ?_
   rintro e a3 W3 hp
   cases e with
   | normal=>
    obtain⟨hi3,hk3⟩:=hp
    have hl3:W3.heap[w.heap.size+1]?=some (.loop { rec .ready none with state:=.busy }):=(hk3.block _ (by simpa using hlt) (Or.inr ⟨by omega,by omega⟩)).trans hl2
    have hk3':W3.heap[w.heap.size]?=some (.deferred (some [])):=(hk3.block _ (by simp;omega) (Or.inr ⟨by omega,by omega⟩)).trans hk2
    have hsz3:w.heap.size+2≤W3.heap.size:=by have:=hk3.size;simp at this;omega
    have hlt3:w.heap.size+1<W3.heap.size:=by omega
    have hr:=run_endRound (P:=P) none hl3
    rw[hrec]at hr
    refine⟨_,_,hr,rfl,⟨hI _ _ _ hi3 (by omega) (hput _ _),by simp;omega,?_,?_⟩,?_⟩
    · rw[hrec];exact World.putObj_heap_same hlt3
    · exact(World.putObj_heap_other (by omega)).trans hk3'
    · exact((hput2 _ _).trans (hk3.sub fun k _ h=>h.imp id (fun⟨h1,h2⟩=>⟨by omega,h2⟩))).trans (hput2 _ _)
   | ret=>exact hp.elim
   | exit id=>exact hp.elim
   | goto t=>exact hp.elim
   | panic ch=>exact hp.elim
   | outgrown=>exact hp.elim
 · -- BEHIND THE ITERATOR
   rintro e W2 ⟨⟨v,rfl⟩,hi,hsz,hl,hk⟩
   refine⟨none,_,by have:=run_endLoop (P:=P) hl (by rw[hrec];simp);rw[hrec]at this;exact this,hdone w.heap.size _ rfl ?_ ?_⟩
   · exact hI _ _ _ hi (by omega) (QQ (Keeps.refl _ _) (by omega) _)
   · exact(World.putObj_heap_other (by omega)).trans hk
theorem ZaL {α:Type} (f:Array Value→Value→Array Value) {n:Nat} {g:Operand} {ps:Array Tmp} {assign body:Code} {Q:Exit→Act→World→Prop} {a:Act}
 {gf:Nat} {lb:Array Value} (hg:a.eval g= .func (.func gf) #[] lb) (eg:∀ args w,(callFunc gf args).run P w= .ok (.enter gf args) w)
 {enc:α→Value} {Prot:Nat→Prop} {own:Nat} {xs:List α} (hseq:ZoM P gf lb enc Prot own xs w) (hps:ps.size=1)
 (I:List α→World→Prop)
 (hI:∀ pre A B,I pre A→w.heap.size≤A.heap.size→Keeps (fun k=>k<w.heap.size∨w.heap.size+2+own≤k) A B→I pre B) (h0:I [] w)
 (hassign:∀(m l:Nat) (x:α) (W:World) (K:Act→World→Prop),K { tmps:=f a.tmps (enc x),defers:=[] } W→
  assign.wpIn (Fence.wide.inRound l) m P (Exit.then K (fun _ _ _=>False)) { tmps:=(ps.zip #[enc x]).foldl (fun t (p,v)=>t.setIfInBounds p v) a.tmps,defers:=[] } W)
 (hbody:∀(m l:Nat) (pre:List α) (x:α) (W:World),I pre W→(pre++[x])<+:xs→w.heap.size+2+own≤W.heap.size→
  body.wpIn (Fence.wide.inRound l) m P (ZoJ I (fun k=>Prot k∨(w.heap.size≤k∧k<w.heap.size+2+own)) (pre++[x]) W) { tmps:=f a.tmps (enc x),defers:=[] } W)
 (hProt:∀ k,Prot k→k<w.heap.size)
 (hdone:∀(D:Nat) (W:World),D=w.heap.size→I xs W→W.heap[D]?=some (.deferred (some []))→Q .normal { a with defers:= { target:=.collected D,args:= #[] }::a.defers } W):
 (Code.rangeFunc g ps assign body).wpIn Fence.wide n P Q a w:=
 Zb8 hg eg hseq hps I hI h0 (fun x=> { tmps:=f a.tmps (enc x),defers:=[] }) hassign hbody hProt hdone
end Go.Proofs.YtaigaoflehfdcaaGreatDoor
