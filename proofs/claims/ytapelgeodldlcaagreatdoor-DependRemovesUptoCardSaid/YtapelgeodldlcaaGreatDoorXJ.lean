/-
  THE ENGINE: a variable of the call's own that holds a database and a growing row of rows; stores in drawn regions.
  THE ENGINE: function values that lie in variables of the call's own, and call themselves.
  THE ENGINE: keys that are struck from a set.
-/
import Derived.Test.YtapelgeodldlcaaGreatDoorXI
import Derived.Laws.Tables
namespace Go.Proofs.YtapelgeodldlcaaGreatDoor
open Go.RowKit
def gC (d:Db) (us:List (List Int)):List CD:=dbC d++[Z4 us]
abbrev gC' (d:Db) (v:Value):List CD:=dbC d++[.lit v]
def OB.gr (e b:Nat) (d:Db) (q:Value×List (List Int)):OB where
 blk:=fun k=>k=b∨q.1.ownBlock=some k
 inv:=fun lo S w=>(OB.var b (gC' d q.1)).inv lo S w∧(OB.row q.1 e 1 (q.2.map YE)).inv lo S w∧q.1.ownBlock≠some b
 mv:=fun h hk hb hs=>⟨(OB.var b _).mv h.1 hk (fun k hk=>hb k (.inl hk)) hs,(OB.row q.1 _ _ _).mv h.2.1 hk (fun k hk=>hb k (.inr hk)) hs,h.2.2⟩
 lt:=fun h k hk=>by
  rcases hk with hk | hk
  · exact(OB.var b _).lt h.1 k hk
  · exact(OB.row q.1 _ _ _).lt h.2.1 k hk
def gAV (e:Int) (cs:List CD):AV:=if e=0 then .ptr cs else .lit (.pointer none)
theorem Zcd {e:Int} {cs:List CD} (h:e=0):gAV e cs= .ptr cs:=if_pos h
theorem Ze3 {e:Int} {cs:List CD} (h:¬ e=0):gAV e cs= .lit (.pointer none):=if_neg h
section
variable {n:Rn} {N:Nat} {P:Program} {J X:World→Prop} {S S' S'':Nat→Prop} {O:List OB} {w0:World} {env:List (Nat×AV)} {Q:Exit→Act→World→Prop}
variable {e b:Nat} {d:Db} {q:Value×List (List Int)} {lo:Nat}
theorem ZoR:SO S (OB.gr e b d q::O)=SO S (OB.row q.1 e 1 (q.2.map YE)::OB.var b (gC' d q.1)::O):=by
 funext k
 refine propext ⟨fun h=>⟨h.1,fun o ho=>?_⟩,fun h=>⟨h.1,fun o ho=>?_⟩⟩
 · have hg:=h.2 (OB.gr e b d q) (by simp)
   rcases List.mem_cons.1 ho with rfl | ho
   · exact fun hk=>hg (.inr hk)
   · rcases List.mem_cons.1 ho with rfl | ho
     · exact fun hk=>hg (.inl hk)
     · exact h.2 o (List.mem_cons_of_mem _ ho)
 · rcases List.mem_cons.1 ho with rfl | ho
   · intro hk
     rcases hk with hk | hk
     · exact h.2 (OB.var b (gC' d q.1)) (by simp) hk
     · exact h.2 (OB.row q.1 e 1 (q.2.map YE)) (by simp) hk
   · exact h.2 o (by simp[ho])
theorem Zli {w:World} (h:XO J S lo (OB.gr e b d q::O) w):XO J S lo (OB.row q.1 e 1 (q.2.map YE)::OB.var b (gC' d q.1)::O) w:=by
 refine⟨h.1,fun o ho=>?_,?_⟩
 · rw[←ZoR]
   have hg:=h.2.1 (OB.gr e b d q) (by simp)
   rcases List.mem_cons.1 ho with rfl | ho
   · exact hg.2.1
   · rcases List.mem_cons.1 ho with rfl | ho
     · exact hg.1
     · exact h.2.1 o (by simp[ho])
 · have hp:=List.pairwise_cons.1 h.2.2
   refine .cons (fun o ho k hk=>?_) (.cons (fun o ho k hk=>?_) hp.2)
   · rcases List.mem_cons.1 ho with rfl | ho
     · intro hk'
       have hg:=(h.2.1 (OB.gr e b d q) (by simp)).2.2
       have:k=b:=hk'
       subst this
       exact hg hk
     · exact hp.1 o ho k (.inr hk)
   · exact hp.1 o ho k (.inl hk)
theorem Zr1 {w:World} (h:XO J S lo (OB.row q.1 e 1 (q.2.map YE)::OB.var b (gC' d q.1)::O) w):XO J S lo (OB.gr e b d q::O) w:=by
 have hp:=List.pairwise_cons.1 h.2.2
 have hp2:=List.pairwise_cons.1 hp.2
 refine⟨h.1,fun o ho=>?_,.cons (fun o ho k hk=>?_) hp2.2⟩
 · rw[ZoR]
   rcases List.mem_cons.1 ho with rfl | ho
   · exact⟨h.2.1 _ (by simp),h.2.1 _ (by simp),fun hk=>hp.1 (OB.var b (gC' d q.1)) (by simp) b hk rfl⟩
   · exact h.2.1 o (by simp[ho])
 · rcases hk with hk | hk
   · exact hp2.1 o ho k hk
   · exact hp.1 o (List.mem_cons_of_mem _ ho) k hk
theorem ZlJ {a:Act} {w:World} (h:St All (SO S (OB.gr e b d q::O)) w0 N env (XO J S w0.heap.size (OB.gr e b d q::O)) a w):
 St All (SO S (OB.row q.1 e 1 (q.2.map YE)::OB.var b (gC' d q.1)::O)) w0 N env (XO J S w0.heap.size (OB.row q.1 e 1 (q.2.map YE)::OB.var b (gC' d q.1)::O)) a w:=
 ⟨h.defs,h.size,h.keep,Zli h.x,fun p hp=>by rw[←ZoR];exact h.env p hp⟩
theorem ZhB {a:Act} {w:World} (h:St All (SO S (OB.row q.1 e 1 (q.2.map YE)::OB.var b (gC' d q.1)::O)) w0 N env (XO J S w0.heap.size (OB.row q.1 e 1 (q.2.map YE)::OB.var b (gC' d q.1)::O)) a w):
 St All (SO S (OB.gr e b d q::O)) w0 N env (XO J S w0.heap.size (OB.gr e b d q::O)) a w:=
 ⟨h.defs,h.size,h.keep,Zr1 h.x,fun p hp=>by rw[ZoR];exact h.env p hp⟩
theorem ZeI {a:Act} {w:World} {s m:Nat} (hS:∀ b,w0.heap.size≤b→S b) (h:St All (SO S (OB.gr e b d q::O)) w0 N env (XO J S w0.heap.size (OB.gr e b d q::O)) a w) (he:env[m]?=some (s,.at b 0)):
 St All (SO S O) w0 N ((s,.ptr (gC d q.2))::YA s env) (XO J S w0.heap.size O) a w:=by
 have h':=Zy h
 refine⟨h.defs,h.size,h.keep,h'.x,fun p hp=>?_⟩
 rcases List.mem_cons.1 hp with rfl | hp
 · refine⟨(h.env _ (List.mem_of_getElem? he)).1,?_⟩
   have hval:a.tmps.getD s undef= .pointer (some ⟨b,0,none⟩):=(h.get m he).lit
   obtain⟨⟨h0,us,t,hb,hr⟩,hrow,hne⟩:=h.x.2.1 (OB.gr e b d q) (by simp)
   have hfree:=Zch hS h
   have hrd:=ZeM (S:=SO S O) (fun k hk=>hfree k (.inr hk)) (OB.sub hrow fun k _ hk=>hk.drop)
   simp only[Rel]at hrd
   have hr':RdL (SO S O) w (gC d q.2) us:=by
    have hl:=hr.length
    refine RdL.of_get (by rw[hl];simp[gC]) fun i c v h1 h2=>?_
    rcases Nat.lt_or_ge i (dbC d).length with hi | hi
    · have h3:(gC' d q.1)[i]?=some c:=by
       rw[List.getElem?_append_left hi]
       rwa [gC,List.getElem?_append_left hi]at h1
      exact(hr.get h3 h2).sub fun k _ hk=>hk.drop
    · have hi3:(dbC d).length=3:=rfl
      have hi':i=3:=by
       have:=(List.getElem?_eq_some_iff.1 h1).1
       simp[gC,hi3]at this
       omega
      subst hi'
      have h4:c=Z4 q.2:=by
       have:(gC d q.2)[3]?=some (Z4 q.2):=rfl
       rw[h1]at this
       exact Option.some.inj this
      have h5:Rd (SO S (OB.gr e b d q::O)) w (.lit q.1) v:=hr.get (c:=.lit q.1) rfl h2
      have h6:v=q.1:=by cases h5;rfl
      rw[h4,h6]
      exact hrd
   simp only[Rel]
   refine⟨b,0,us,hval,(Array.getElem?_eq_some_iff.1 hb).1,hfree b (.inl rfl),hr',fun j u hj=>?_⟩
   simp[World.cell?,hb,hj]
 · exact h'.env p (List.mem_filter.1 hp).1
def ZrZ (P:Program) (t:TypeId):Prop:=∀ x y z:Value,P.built t [(0,.agg #[x,y,z])]=some #[x,y,z,.slice none 0 0]
theorem Zpe {o:Oper} {a:Act} {w:World} {x:Operand} {t:TypeId} (ht:ZrZ P t) (hop:o.op= .build t #[(0,x)]) (h:Rel S w (.agg (dbC d)) (a.eval x)) (hx:X w):
 Z5 n P o a w (Yu S X (.agg (gC' d (Value.slice none 0 0))) w):=by
 simp only[Rel]at h
 obtain⟨us,hv,hr⟩:=h
 match us,hr with
 | [u1,u2,u3],hr=>
  refine Zt (v:=.agg #[u1,u2,u3,.slice none 0 0]) ?_ (by simp only[Rel];exact⟨[u1,u2,u3,.slice none 0 0],rfl,hr.append (ds:=[.lit (Value.slice none 0 0)]) (us:=[.slice none 0 0]) ⟨.lit _ True.intro,trivial⟩⟩) hx
  have hrun:=run_build (P:=P) w t #[(0,a.eval x)] #[u1,u2,u3,.slice none 0 0] (by rw[hv];exact ht u1 u2 u3)
  rw[execOp,hop]
  simp only[List.map_toArray,List.map_cons,List.map_nil,Sem.run_bind,hrun]
  rfl
theorem Zdx {w w':World} {O1 O1' O2 O2':List OB} (h1:O1.Perm O1') (h2:O2.Perm O2') (h:ZaM J S w0 O1 w O2 w'):ZaM J S w0 O1' w O2' w':=
 ⟨h.1,Yt h2 h.2.1,fun av v hr=>(h.2.2 av v (hr.sub fun _ _ hs=>hs.perm h1.symm)).sub fun _ _ hs=>hs.perm h2⟩
theorem X2 {o:Oper} {a:Act} {w:World} {x y:Operand} {t:TypeId} {off:Nat} {cs es:List CD} {c:CD} {p:OB} (hJ:Stab J) (hJ0:J w0) (hs:XB P t 1) (hop:o.op= .store t x y) (hk0:Keeps All w0 w) (hx:XO J S w0.heap.size (p::OB.var b cs::O) w) (h1:Rel S' w (.at b off) (a.eval x))
 (h2:Rel (SO S (p::OB.var b cs::O)) w (.rd c) (a.eval y)) (hl:off+1≤cs.length) (he:cs.take off++[c]++cs.drop (off+1)=es):
 Z5 n P o a w fun _ w'=>ZaM J S w0 (p::OB.var b cs::O) w (p::OB.var b es::O) w':=by
 have hp:∀ c,(OB.var b c::p::O).Perm (p::OB.var b c::O):=fun c=>.swap _ _ _
 have h2':=h2.sub fun _ _ hs=>hs.perm (hp cs).symm
 simp only[Rel]at h2'
 exact Zp (XJ (news:=[c]) hJ hJ0 hs hop hk0 (Yt (hp cs).symm hx) h1 (Zee h2'.one) ⟨h2',trivial⟩ hl he) fun _ _ hs=>Zdx (hp _) (hp _) hs
end
section
variable {n:Rn} {N:Nat} {P:Program} {J X:World→Prop} {S S' S'':Nat→Prop} {O:List OB} {w0:World} {env:List (Nat×AV)} {Q:Exit→Act→World→Prop} {ι:Type}
theorem ZdI {o:Oper} {a:Act} {w:World} {f:FuncId} {caps:List Operand} {vs:List Value} (hop:o.op= .makeFunc (.func f) #[] caps.toArray) (h:caps.map a.eval=vs) (hx:X w):Z5 n P o a w (Yu S X (.lit (.func (.func f) #[] vs.toArray)) w):=by
 refine Zt (v:=.func (.func f) #[] vs.toArray) ?_ (Rel.of_lit _) hx
 rw[execOp,hop]
 simp[Instr.makeFunc,←h]
theorem map_cons {a:Act} {x:Operand} {xs:List Operand} {v:Value} {vs:List Value} (h:a.eval x=v) (k:xs.map a.eval=vs):(x::xs).map a.eval=v::vs:=by rw[List.map_cons,h,k]
theorem map_nil {a:Act}:([]:List Operand).map a.eval=[]:=rfl
theorem Zrc {ops:Array Oper} {o:Oper} {rest:List Oper} {R:List OB} {d:Nat} {f:FuncId} {args:List Operand} {callee:Operand} {ts:Array TypeId} (avs:List AV) {res:ι→AV} {O':ι→List OB} (cap:List Value) (avc:List AV) {Hs:List OB} (hF:FnM P J f Hs (avs++avc) O res O') (h1:Zl P f) (hg:o.guard=none) (hop:o.op= .call { callee:=.value callee,args:=args.toArray,argTypes:=ts }) (hd:o.dst=some d) (hN:d<N)
 (hS:∀ b,w0.heap.size≤b→S b) (hJ0:J w0) (hH:Has Hs S w0) (hc:∀ a w,St All (SO S (O++R)) w0 N env (XO J S w0.heap.size (O++R)) a w→a.eval callee= .func (.func f) #[] cap.toArray) (ha:∀ a w,St All (SO S (O++R)) w0 N env (XO J S w0.heap.size (O++R)) a w→RelL (SO S (O++R)) w avs (args.map a.eval))
 (hcap:∀ w,RelL (SO S (O++R)) w avc cap)
 (next:∀ i a w,St All (SO S (O' i++R)) w0 N ((d,res i)::YA d env) (XO J S w0.heap.size (O' i++R)) a w→wpListIn n.F n.d P ops Q rest a w):
 ∀ a w,St All (SO S (O++R)) w0 N env (XO J S w0.heap.size (O++R)) a w→wpListIn n.F n.d P ops Q (o::rest) a w:=
 Zcv (O2:=fun i=>O' i++R) (av:=res) hg hd hN (fun a w h=>d_fnM hF h1 hop hS hJ0 hH h.keep h.x (hc a w h) (ha a w h) (hcap w)) next
end
section
variable {κ:Type} [DecidableEq κ] {Kd:Zai κ}
omit [DecidableEq κ]in
theorem ZiW {S:Nat→Prop} {w:World}:∀ {xs:List κ} {Lv:List (κ×Value)},RelM S w (fun b:Bool=>AV.bool b) (xs.map fun x=>(x,true)) Lv→Lv=xs.map fun x=>(x,.bool true)
 | [],[],_=>rfl
 | [],_::_,h=>h.elim
 | _::_,[],h=>h.elim
 | x::xs,q::Lv,h=>by
  obtain⟨h1,h2,h3⟩:=h
  rw[ZiW h3,List.map_cons]
  obtain⟨a,b⟩:=q
  simp only at h1 h2
  rw[h1,h2.lit]
omit [DecidableEq κ]in
theorem ZiS {S:Nat→Prop} {w:World}:∀(xs:List κ),RelM S w (fun b:Bool=>AV.bool b) (xs.map fun x=>(x,true)) (xs.map fun x=>(x,.bool true))
 | []=>trivial
 | _::xs=>⟨rfl,Rel.of_lit _,ZiS xs⟩
omit [DecidableEq κ]in
theorem Qk {β:Type} (f:κ→β):∀(l:List κ) (n:Nat),(l.eraseIdx n).map f=(l.map f).eraseIdx n
 | [],_=>rfl
 | _::_,0=>rfl
 | x::l,n+1=>by simp only[List.eraseIdx_cons_succ,List.map_cons,Qk f l n]
omit [DecidableEq κ]in
theorem Znz [BEq κ] [LawfulBEq κ] {xs:List κ} {k:κ} {n:Nat} (p:κ→Bool) (hp:∀ x,p x=(x==k)) (h:xs.findIdx? p=some n):xs.erase k=xs.eraseIdx n:=by
 induction xs generalizing n with
 | nil=>simp at h
 | cons x xs ih=>
  rw[List.findIdx?_cons]at h
  by_cases hx:x=k
  · subst hx
    simp[hp]at h
    subst h
    simp
  · have:p x=false:=by rw[hp];simpa using hx
    rw[this]at h
    simp only[Bool.false_eq_true,if_false]at h
    cases hf:xs.findIdx? p with
    | none=>rw[hf]at h;simp at h
    | some m=>
     rw[hf]at h
     simp only[Option.map_some,Option.some.injEq]at h
     subst h
     rw[List.erase_cons_tail (by simpa using hx),ih hf]
     rfl
theorem ZhK {P:Program} {T K E u:TypeId} (r:TypeId) (hT:P.underlying T=some (.map K E)) (hK:P.underlying K=some Kd.kind) (k:κ) {w:World} {M:Nat} {xs:List κ} (h:IsMap Kd w M (xs.map fun x=>(x,.bool true))):
 ∃ w',(Builtin.delete_ #[T,u] r #[.map (some M),Kd.kv k]).run P w= .ok (.tuple #[]) w'∧IsMap Kd w' M ((xs.erase k).map fun x=>(x,.bool true))∧Keeps (· ≠M) w w':=by
 obtain⟨es,clock,hm,hn,hd,hb,hc⟩:=h
 have hlt:M<w.heap.size:=(Array.getElem?_eq_some_iff.1 hm).1
 have hg:(getObj M).run P w= .ok (.map es clock) w:=by simp[getObj,Sem.run,hm]
 have hf:=QD (w:=w) hK k es.toList _ hn
 have hck:=Kd.chk P K es.isEmpty k w hK
 have hnd:xs.Nodup:=by simpa [List.map_map,Function.comp_def]using hd
 have hfi:(xs.map fun x=>(x,Value.bool true)).findIdx? (fun p=>decide (k=p.1))=xs.findIdx? fun x=>decide (k=x):=by
  rw[List.findIdx?_map];rfl
 rw[hfi]at hf
 cases hi:xs.findIdx? fun x=>decide (k=x)with
 | none=>
  rw[hi]at hf
  have hk:k∉xs:=fun hk=>by
   rw[List.findIdx?_eq_none_iff]at hi
   have:=hi k hk
   simp at this
  refine⟨{ w with heap:=w.heap.setIfInBounds M (.map es clock) },?_,?_,(Keeps.refl _ _).putObj (fun _ hn=>hn rfl) _⟩
  · unfold Builtin.delete_
    have e0:(#[T,u]:Array TypeId)[0]?=some T:=rfl
    have e1:(#[.map (some M),Kd.kv k]:Array Value)[0]?=some (.map (some M)):=rfl
    have e2:(#[.map (some M),Kd.kv k]:Array Value)[1]?=some (Kd.kv k):=rfl
    simp only[e0,e1,e2,Sem.run_bind,run_underlying hT,Result.andThen_ok,hg,hck,hf,Sem.run_pure]
    simp[setObj,Sem.run,hm]
  · rw[List.erase_of_not_mem hk]
    exact⟨_,_,Array.getElem?_setIfInBounds_self_of_lt hlt,hn,hd,hb,hc⟩
 | some n=>
  rw[hi]at hf
  have he:xs.erase k=xs.eraseIdx n:=Znz (fun x=>decide (k=x)) (fun x=>by
   by_cases h:k=x
   · subst h;simp
   · rw[decide_eq_false h,beq_eq_false_iff_ne.2 (Ne.symm h)]) hi
  have htl:(es.eraseIdxIfInBounds n).toList=es.toList.eraseIdx n:=by simp
  refine⟨{ w with heap:=w.heap.setIfInBounds M (.map (es.eraseIdxIfInBounds n) clock) },?_,?_,(Keeps.refl _ _).putObj (fun _ hn=>hn rfl) _⟩
  · unfold Builtin.delete_
    have e0:(#[T,u]:Array TypeId)[0]?=some T:=rfl
    have e1:(#[.map (some M),Kd.kv k]:Array Value)[0]?=some (.map (some M)):=rfl
    have e2:(#[.map (some M),Kd.kv k]:Array Value)[1]?=some (Kd.kv k):=rfl
    simp only[e0,e1,e2,Sem.run_bind,run_underlying hT,Result.andThen_ok,hg,hck,hf,Sem.run_pure]
    simp[setObj,Sem.run,hm]
  · refine⟨_,_,Array.getElem?_setIfInBounds_self_of_lt hlt,?_,?_,?_,?_⟩
    · rw[htl,he]
      unfold Zdk at hn ⊢
      rw[Qk,hn,Qk,Qk]
    · rw[he,List.map_map]
      have:xs.eraseIdx n=xs.erase k:=he.symm
      rw[this,show((fun x:κ×Value=>x.1)∘fun x=>(x,Value.bool true))=id from rfl,List.map_id]
      exact hnd.erase k
    · rw[htl,Qk]
      exact hb.sublist (List.eraseIdx_sublist _ _)
    · intro e hee
      rw[htl]at hee
      exact hc e (List.mem_of_mem_eraseIdx hee)
end
section
variable {κ:Type} [DecidableEq κ] {Kd:Zai κ} {n:Rn} {N:Nat} {P:Program} {J:World→Prop} {S S':Nat→Prop} {O:List OB} {w0:World} {env:List (Nat×AV)} {Q:Exit→Act→World→Prop} {M:Nat} {t K E:TypeId} {o:Oper} {x y:Operand} {xs:List κ}
theorem Zss {ops:Array Oper} {rest:List Oper} {u:TypeId} (hT:Ziu P t K E Kd.kind) (hJ:Stab J) (hJ0:J w0) (k:κ) (hg:o.guard=none) (hop:o.op= .call { callee:=.builtin .delete,args:= #[x,y],argTypes:= #[t,u] })
 (h1:∀ a w,St All (SO S (OB.set Kd M xs::O)) w0 N env (XO J S w0.heap.size (OB.set Kd M xs::O)) a w→Rel (SO S (OB.set Kd M xs::O)) w (.lit (.map (some M))) (a.eval x)∧Rel (SO S (OB.set Kd M xs::O)) w (.lit (Kd.kv k)) (a.eval y))
 (hd0:o.dst=none) (next:∀ a w,St All (SO S (OB.set Kd M (xs.erase k)::O)) w0 N env (XO J S w0.heap.size (OB.set Kd M (xs.erase k)::O)) a w→wpListIn n.F n.d P ops Q rest a w):
 ∀ a w,St All (SO S (OB.set Kd M xs::O)) w0 N env (XO J S w0.heap.size (OB.set Kd M xs::O)) a w→wpListIn n.F n.d P ops Q (o::rest) a w:=
 ZdA (O2:=fun _:Unit=>_) hg hd0 (fun a w h=>by
  obtain⟨g1,g2⟩:=h1 a w h
  obtain⟨h0,Lv,hm,hr⟩:=h.x.2.1 (OB.set Kd M xs) (by simp)
  have hLv:=ZiW hr
  subst hLv
  obtain⟨w',hrun,hm',hk⟩:=ZhK (P:=P) (u:=u) o.type hT.1 hT.2 k hm
  have hk':Keeps (fun b=>¬ (OB.set Kd M xs).blk b) w w':=hk.sub fun b _ hb=>hb
  refine ZL (v:=.tuple #[]) (w':=w') ?_ ⟨(),Zan (o':=OB.set Kd M (xs.erase k)) hJ hJ0 h.keep h.x hk' (fun b hb=>.inl hb) ⟨h0,_,hm',ZiS _⟩⟩
  simp[execOp,hop,resolve,invoke,builtin,g1.lit,g2.lit,hrun,Result.andThen]) fun _=>next
end
end Go.Proofs.YtapelgeodldlcaaGreatDoor
