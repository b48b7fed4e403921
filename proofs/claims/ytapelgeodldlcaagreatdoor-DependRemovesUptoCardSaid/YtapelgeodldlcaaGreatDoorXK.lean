/-
  THE ENGINE: rows that are made; the greater of two numbers; rows of bools.
  THE ENGINE: a graph over a row of the call's own, built and boxed in a drawn region.
  THE ENGINE: frames, databases and rows of frames from given parts.
-/
import Derived.Test.YtapelgeodldlcaaGreatDoorXJ
import Derived.Laws.MakeOwn
namespace Go.Proofs.YtapelgeodldlcaaGreatDoor
open Go.RowKit
theorem tup2 {a b c d:AV} (h:a=c) (k:b=d):AV.tup [a,b]=AV.tup [c,d]:=by rw[h,k]
section
variable {n:Rn} {N:Nat} {P:Program} {J X:World→Prop} {S S' S'':Nat→Prop} {O:List OB} {w0:World} {env:List (Nat×AV)} {Q:Exit→Act→World→Prop}
end
section
variable {n:Rn} {N:Nat} {P:Program} {J X:World→Prop} {S S' S'':Nat→Prop} {O:List OB} {w0:World} {env:List (Nat×AV)} {Q:Exit→Act→World→Prop}
abbrev Zq2 (cs:List CD) (x:Value):OB:=OB.was fun av v=>av=AV.agg cs∧v=x
theorem ZjH {o:Oper} {a:Act} {w:World} {cs:List CD} (hk:Keeps All w0 w) (h:Z5 n P o a w (Yu (SO S O) (XO J S w0.heap.size O) (.agg cs) w)):
 Z5 n P o a w fun v w'=>ZaM J S w0 O w (Zq2 cs v::O) w':=by
 refine Zp h fun v w' ⟨h1,h2,h3⟩=>?_
 have hsub:∀ k,SO S O k→SO S (Zq2 cs v::O) k:=fun k hs=>⟨hs.1,fun p hp=>by
  rcases List.mem_cons.1 hp with rfl | hp
  · exact fun e=>e
  · exact hs.2 p hp⟩
 refine⟨hk.trans h2,⟨h3.1,fun p hp=>?_,.cons (fun _ _ _ e=>e.elim) h3.2.2⟩,fun av u hr=>(hr.on h2).sub fun k _=>hsub k⟩
 rcases List.mem_cons.1 hp with rfl | hp
 · rintro av u ⟨rfl,rfl⟩
   exact h1.sub fun k _=>hsub k
 · exact OB.sub (h3.2.1 p hp) fun k _=>hsub k
theorem ZrO {o:Oper} {a:Act} {w:World} {cs:List CD} {x:Operand} {v:Value} {t:TypeId} (hJ:Stab J) (hop:o.op= .box t x) (hv:a.eval x=v) (hk0:Keeps All w0 w) (hx:XO J S w0.heap.size (Zq2 cs v::O) w):
 Z5 n P o a w fun u w'=>∃ b:Nat,u= .pointer (some ⟨b,0,none⟩)∧ZaM J S w0 (Zq2 cs v::O) w (OB.var b cs::O) w':=by
 have hB:=hx.2.1 (Zq2 cs v) (by simp) (.agg cs) v ⟨rfl,rfl⟩
 have hdrop:∀ k,SO S (Zq2 cs v::O) k→SO S O k:=fun k hs=>hs.drop
 have hxO:XO J S w0.heap.size O w:=⟨hx.1,fun p hp=>OB.sub (hx.2.1 p (by simp[hp])) fun k _=>hdrop k,(List.pairwise_cons.1 hx.2.2).2⟩
 simp only[Rel]at hB
 obtain⟨us,hvu,hr⟩:=hB
 have hr':RdL (SO S O) w cs us:=hr.sub fun k _=>hdrop k
 have hk:Keeps All w (w.alloc (.cells us.toArray t)):=(Keeps.refl _ _).alloc _
 have hsub:∀ k,k<w.heap.size→SO S O k→SO S (OB.var w.heap.size cs::O) k:=fun k hlt hs=>⟨hs.1,fun p hp=>by
  rcases List.mem_cons.1 hp with rfl | hp
  · exact fun e=>by have:k=w.heap.size:=e;omega
  · exact hs.2 p hp⟩
 have hst:=XW (o:=OB.var w.heap.size cs) hJ hk0 hxO hk (fun b hb=>Nat.le_of_eq hb.symm) ⟨hk0.size,us,t,heap_alloc_new w _,hr'.move hk fun k hlt hs=>⟨trivial,hsub k hlt hs⟩⟩
 refine ZL (v:=.pointer (some ⟨w.heap.size,0,none⟩)) (w':=w.alloc (.cells us.toArray t)) ?_ ⟨w.heap.size,rfl,hst.1,hst.2.1,fun av u hu=>hst.2.2 av u (hu.sub fun k _=>hdrop k)⟩
 simp[execOp,hop,hv,hvu,Instr.box,newVar,newRow,newObj,Sem.run,Value.cells]
def Zoo (P:Program) (t:TypeId):Prop:=∀(x y z:Value) (ad:Option Addr) (k cap:Nat),P.built t [(0,.agg #[x,y,z]),(1,.slice ad k cap)]=some #[x,y,z,.slice ad k cap]
theorem Zl0 {lo:Nat} {w:World} {v:Value} {e:TypeId} {size:Nat} {rows:List (List CD)} (h:(OB.row v e size rows).inv lo S w):∃ ad k cap,v= .slice ad k cap:=by
 obtain⟨us,g1,_⟩:=h
 rcases g1.2 with⟨h',_⟩ | ⟨g,cap,cur,h',_⟩
 · exact⟨_,_,_,h'⟩
 · exact⟨_,_,_,h'⟩
theorem Zmf {o:Oper} {a:Act} {w:World} {x y:Operand} {t:TypeId} {d:Db} {v:Value} (ht:Zoo P t) (hop:o.op= .build t #[(0,x),(1,y)]) (h:Rel S w (.agg (dbC d)) (a.eval x)) (hy:a.eval y=v) (hs:∃ ad k cap,v= .slice ad k cap) (hx:X w):
 Z5 n P o a w (Yu S X (.agg (gC' d v)) w):=by
 simp only[Rel]at h
 obtain⟨us,hv,hr⟩:=h
 obtain⟨ad,k,cap,rfl⟩:=hs
 match us,hr with
 | [u1,u2,u3],hr=>
  refine Zt (v:=.agg #[u1,u2,u3,.slice ad k cap]) ?_ (by simp only[Rel];exact⟨[u1,u2,u3,.slice ad k cap],rfl,hr.append (ds:=[.lit (.slice ad k cap)]) (us:=[.slice ad k cap]) ⟨.lit _ True.intro,trivial⟩⟩) hx
  have hrun:=run_build (P:=P) w t #[(0,a.eval x),(1,a.eval y)] #[u1,u2,u3,.slice ad k cap] (by rw[hv,hy];exact ht u1 u2 u3 ad k cap)
  rw[execOp,hop]
  simp only[List.map_toArray,List.map_cons,List.map_nil,Sem.run_bind,hrun]
  rfl
end
def zFr:Array Value:= #[.string ⟨#[]⟩,.bool false,.slice none 0 0,.slice none 0 0,.slice none 0 0,.slice none 0 0,.slice none 0 0,.slice none 0 0]
set_option maxRecDepth 10000 in
theorem Zqe:∀(a0 a1 a2 a3 a4 a5 a6 a7 b0 b1 b2 b3 b4 b5 b6 b7 c0 c1 c2 c3 c4 c5 c6 c7 d0 d1 d2 d3 d4 d5 d6 d7:Value),Instr.fill (fun i=>some (i*8,8)) ((Array.range (4*8)).map (zFr[· %zFr.size]!)) [(0,.agg #[a0,a1,a2,a3,a4,a5,a6,a7]),(1,.agg #[b0,b1,b2,b3,b4,b5,b6,b7]),(2,.agg #[c0,c1,c2,c3,c4,c5,c6,c7]),(3,.agg #[d0,d1,d2,d3,d4,d5,d6,d7])]=some #[a0,a1,a2,a3,a4,a5,a6,a7,b0,b1,b2,b3,b4,b5,b6,b7,c0,c1,c2,c3,c4,c5,c6,c7,d0,d1,d2,d3,d4,d5,d6,d7]:=fun a0 a1 a2 a3 a4 a5 a6 a7 b0 b1 b2 b3 b4 b5 b6 b7 c0 c1 c2 c3 c4 c5 c6 c7 d0 d1 d2 d3 d4 d5 d6 d7=>by kernel_rfl
theorem len8 {us:List Value} (h:us.length=8):∃ a b c d e f g i,us=[a,b,c,d,e,f,g,i]:=by
 match us,h with
 | [a,b,c,d,e,f,g,i],_=>exact⟨a,b,c,d,e,f,g,i,rfl⟩
section
variable {n:Rn} {N:Nat} {P:Program} {J X:World→Prop} {S S' S'':Nat→Prop} {O:List OB} {w0:World} {env:List (Nat×AV)} {Q:Exit→Act→World→Prop}
variable {o:Oper} {a:Act} {w:World} {t e:TypeId} {x y z u:Operand}
theorem Zky {f1 f2 f3 f4:Fr} (ht:Yl P t e 8) (hz:∀ w,(zeroValue e).run P w= .ok (.agg zFr) w) (hop:o.op= .buildSlice t 4 #[(0,x),(1,y),(2,z),(3,u)]) (h1:Rel S w (.agg (frC f1)) (a.eval x)) (h2:Rel S w (.agg (frC f2)) (a.eval y)) (h3:Rel S w (.agg (frC f3)) (a.eval z)) (h4:Rel S w (.agg (frC f4)) (a.eval u)) (hS:S w.heap.size) (hx:∀ w',Keeps All w w'→X w'):
 Z5 n P o a w (Yu S X (.rd (YD [f1,f2,f3,f4])) w):=by
 simp only[Rel]at h1 h2 h3 h4
 obtain⟨u1,e1,r1⟩:=h1
 obtain⟨u2,e2,r2⟩:=h2
 obtain⟨u3,e3,r3⟩:=h3
 obtain⟨u4,e4,r4⟩:=h4
 obtain⟨a0,a1,a2,a3,a4,a5,a6,a7,rfl⟩:=len8 (us:=u1) (by rw[r1.length];rfl)
 obtain⟨b0,b1,b2,b3,b4,b5,b6,b7,rfl⟩:=len8 (us:=u2) (by rw[r2.length];rfl)
 obtain⟨c0,c1,c2,c3,c4,c5,c6,c7,rfl⟩:=len8 (us:=u3) (by rw[r3.length];rfl)
 obtain⟨d0,d1,d2,d3,d4,d5,d6,d7,rfl⟩:=len8 (us:=u4) (by rw[r4.length];rfl)
 have hf:=Zqe a0 a1 a2 a3 a4 a5 a6 a7 b0 b1 b2 b3 b4 b5 b6 b7 c0 c1 c2 c3 c4 c5 c6 c7 d0 d1 d2 d3 d4 d5 d6 d7
 have hall:RdL S w ([f1,f2,f3,f4].map frC).flatten [a0,a1,a2,a3,a4,a5,a6,a7,b0,b1,b2,b3,b4,b5,b6,b7,c0,c1,c2,c3,c4,c5,c6,c7,d0,d1,d2,d3,d4,d5,d6,d7]:=r1.append (r2.append (r3.append r4))
 obtain⟨us,hus⟩:∃ us:List Value,us=[a0,a1,a2,a3,a4,a5,a6,a7,b0,b1,b2,b3,b4,b5,b6,b7,c0,c1,c2,c3,c4,c5,c6,c7,d0,d1,d2,d3,d4,d5,d6,d7]:=⟨_,rfl⟩
 rw[←hus]at hall
 have hus': #[a0,a1,a2,a3,a4,a5,a6,a7,b0,b1,b2,b3,b4,b5,b6,b7,c0,c1,c2,c3,c4,c5,c6,c7,d0,d1,d2,d3,d4,d5,d6,d7]=us.toArray:=by rw[hus]
 rw[hus']at hf
 have hk':Keeps All w (w.alloc (.cells us.toArray e)):=(Keeps.refl _ _).alloc _
 refine ZL (v:=.slice (some ⟨w.heap.size,0,none⟩) 4 4) (w':=w.alloc (.cells us.toArray e)) ?_ ⟨?_,hk',hx _ hk'⟩
 · have hcz:(Value.agg zFr).cells=zFr:=rfl
   rw[execOp,hop]
   simp only[List.map_toArray,List.map_cons,List.map_nil,e1,e2,e3,e4,Sem.run_bind,Instr.buildSlice,run_underlying ht.1,Result.andThen_ok,ht.2 w]
   simp[newRow,newObj]
   rw[hz w]
   simp only[Nat.reduceMul]at hf
   simp only[Result.andThen_ok,hcz,hf]
   simp
   rfl
 · simp only[Rel,YD]
   have hlen:([f1,f2,f3,f4].map frC).length=4:=rfl
   rw[show(4:Nat)=([f1,f2,f3,f4].map frC).length from rfl]
   refine Rd.of_cells (n:=8) (us:=us) (Nat.le_refl _) (by rw[hlen];decide) (by simp) hS (fun r hr=>by obtain⟨c,_,rfl⟩:=List.mem_map.1 hr;rfl) (hall.keep hk' fun _ _ _=>trivial) fun j u hj=>Qv j u hj
def Zop (P:Program) (t:TypeId):Prop:=∀(s:ByteArray) (b:Bool) (ad ad':Option Addr) (k c k' c':Nat),P.built t [(0,.string s),(1,.bool b),(4,.slice ad k c),(7,.slice ad' k' c')]=some #[.string s,.bool b,.slice none 0 0,.slice none 0 0,.slice ad k c,.slice none 0 0,.slice none 0 0,.slice ad' k' c']
def Zoq (P:Program) (t:TypeId):Prop:=∀(ad ad':Option Addr) (k c k' c':Nat),P.built t [(0,.slice ad k c),(2,.slice ad' k' c')]=some #[.slice ad k c,.slice none 0 0,.slice ad' k' c']
theorem Zmg {s:ByteArray} {b:Bool} {xs ys:List ByteArray} (ht:Zop P t) (hop:o.op= .build t #[(0,x),(1,y),(4,z),(7,u)]) (h1:Rel S w (.str s) (a.eval x)) (h2:Rel S w (.bool b) (a.eval y)) (h3:Rel S w (.rd (Zb xs)) (a.eval z)) (h4:Rel S w (.rd (Zb ys)) (a.eval u)) (hx:X w):
 Z5 n P o a w (Yu S X (.agg (frC ⟨s,b,[],[],xs,[],[],ys⟩)) w):=by
 have v1:=h1.lit
 have v2:=h2.lit
 simp only[Rel]at h3 h4
 have g3:=h3
 have g4:=h4
 obtain⟨ad,cap,e3,_,_⟩:=g3.form
 obtain⟨ad',cap',e4,_,_⟩:=g4.form
 have hrun:=run_build (P:=P) w t #[(0,a.eval x),(1,a.eval y),(4,a.eval z),(7,a.eval u)] #[.string s,.bool b,.slice none 0 0,.slice none 0 0,a.eval z,.slice none 0 0,.slice none 0 0,a.eval u] (by rw[v1,v2,e3,e4];exact ht s b ad ad' _ cap _ cap')
 refine Zt (v:=.agg #[.string s,.bool b,.slice none 0 0,.slice none 0 0,a.eval z,.slice none 0 0,.slice none 0 0,a.eval u]) ?_ ?_ hx
 · rw[execOp,hop]
   simp only[List.map_toArray,List.map_cons,List.map_nil,Sem.run_bind,hrun]
   rfl
 · have hs:Rd S w (.lit (.string s)) (.string s):=by
    have:=h1;simp only[Rel]at this;rwa [v1]at this
   simp only[Rel]
   exact⟨[.string s,.bool b,.slice none 0 0,.slice none 0 0,a.eval z,.slice none 0 0,.slice none 0 0,a.eval u],rfl,hs,.lit _ True.intro,.nil _ _ (Nat.zero_le _),.nil _ _ (Nat.zero_le _),h3,.nil _ _ (Nat.zero_le _),.nil _ _ (Nat.zero_le _),h4,trivial⟩
theorem Zmh {xs:List ByteArray} {fs:List Fr} (ht:Zoq P t) (hop:o.op= .build t #[(0,x),(2,y)]) (h3:Rel S w (.rd (Zb xs)) (a.eval x)) (h4:Rel S w (.rd (YD fs)) (a.eval y)) (hx:X w):
 Z5 n P o a w (Yu S X (.agg (dbC ⟨xs,[],fs⟩)) w):=by
 simp only[Rel]at h3 h4
 have g3:=h3
 have g4:=h4
 obtain⟨ad,cap,e3,_,_⟩:=g3.form
 obtain⟨ad',cap',e4,_,_⟩:=g4.form
 have hrun:=run_build (P:=P) w t #[(0,a.eval x),(2,a.eval y)] #[a.eval x,.slice none 0 0,a.eval y] (by rw[e3,e4];exact ht ad ad' _ cap _ cap')
 refine Zt (v:=.agg #[a.eval x,.slice none 0 0,a.eval y]) ?_ ?_ hx
 · rw[execOp,hop]
   simp only[List.map_toArray,List.map_cons,List.map_nil,Sem.run_bind,hrun]
   rfl
 · simp only[Rel]
   exact⟨[a.eval x,.slice none 0 0,a.eval y],rfl,h3,.nil _ _ (Nat.zero_le _),h4,trivial⟩
end
end Go.Proofs.YtapelgeodldlcaaGreatDoor
