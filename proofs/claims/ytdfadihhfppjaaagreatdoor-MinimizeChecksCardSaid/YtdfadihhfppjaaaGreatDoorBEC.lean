/-
  Part of the proof that MinimizeChecks returns true. Conditions: none.
-/
import Derived.Test.YtdfadihhfppjaaaGreatDoorBEB
import Derived.OwnWalkIn
open List (flatten_cons getElem_mem mem_map)
namespace Go.Proofs.YtdfadihhfppjaaaGreatDoor
open Go.RowKit
inductive CD where
 | lit (v:Value)
 | sl (rows:List (List CD))
 | ptr (cs:List CD)
def io:Value->Prop
 | .string s=>s.size<=maxLen
 | .agg _=>False
 | .tuple _=>False
 | _=>True
theorem io.one {v:Value} (h:io v):v.oneCell'=true:=by
 cases v<;>simp_all[io,Value.oneCell']
inductive Rd (S:Nat->Prop) (w:World):CD->Value->Prop
 | lit (v:Value) (hv:io v):Rd S w (.lit v) v
 | nil (a:Option Addr) (cap:Nat) (hm:cap<=maxLen):Rd S w (.sl []) (.slice a 0 cap)
 | sl (b off cap n:Nat) (rows:List (List CD)) (vs:Nat->Nat->Value) (hl:rows.length<=cap) (hm:cap<=maxLen) (hb:b<w.heap.size) (hS:S b) (hn:∀ r∈rows,r.length=n)
  (hc:∀ i j,i<rows.length->j<n->w.cell? ⟨b,off+i*n+j,none⟩=some (vs i j))
  (hr:∀ i j r c,rows[i]?=some r->r[j]?=some c->Rd S w c (vs i j)):Rd S w (.sl rows) (.slice (some ⟨b,off,none⟩) rows.length cap)
 | ptr (b off:Nat) (cs:List CD) (vs:Nat->Value) (hb:b<w.heap.size) (hS:S b) (hc:∀ i,i<cs.length->w.cell? ⟨b,off+i,none⟩=some (vs i)) (hr:∀ i c,cs[i]?=some c->Rd S w c (vs i)):Rd S w (.ptr cs) (.pointer (some ⟨b,off,none⟩))
theorem Rd.move {S S' T:Nat->Prop} {w w':World} {c:CD} {v:Value} (h:Rd S w c v) (hk:Keeps T w w') (hs:∀ k,k<w.heap.size->S k->T k/\S' k):Rd S' w' c v:=by
 induction h with
 | lit v hv=>exact .lit v hv
 | nil a cap hm=>exact .nil a cap hm
 | sl b off cap n rows vs hl hm hb hS hn hc hr ih=>
  exact .sl b off cap n rows vs hl hm (by have:=hk.size;omega) (hs b hb hS).2 hn (λi j hi hj=>hk.cell (hs b hb hS).1 (hc i j hi hj)) ih
 | ptr b off cs vs hb hS hc hr ih=>exact .ptr b off cs vs (by have:=hk.size;omega) (hs b hb hS).2 (λi hi=>hk.cell (hs b hb hS).1 (hc i hi)) ih
theorem Rd.keep {S T:Nat->Prop} {w w':World} {c:CD} {v:Value} (h:Rd S w c v) (hk:Keeps T w w') (hs:∀ k,k<w.heap.size->S k->T k):Rd S w' c v:=h.move hk λk hk h=>⟨hs k hk h,h⟩
theorem Rd.sub {S T:Nat->Prop} {w:World} {c:CD} {v:Value} (h:Rd S w c v) (hs:∀ k,k<w.heap.size->S k->T k):Rd T w c v:=h.move (Keeps.refl All w) λk hk h=>⟨trivial,hs k hk h⟩
def bE (S:Nat->Prop) (w:World):List CD->List Value->Prop
 | [],[]=>True
 | c::cs,v::vs=>Rd S w c v/\bE S w cs vs
 | _,_=>False
theorem bE.length {S:Nat->Prop} {w:World}:∀ {cs:List CD} {vs:List Value},bE S w cs vs->vs.length=cs.length
 | [],[],_=>rfl
 | c::cs,v::vs,h=>by simp[bE.length h.2]
 | [],_::_,h=>h.elim
 | _::_,[],h=>h.elim
theorem bE.get {S:Nat->Prop} {w:World}:∀ {cs:List CD} {vs:List Value},bE S w cs vs->∀ {i:Nat} {c:CD} {v:Value},cs[i]?=some c->vs[i]?=some v->Rd S w c v
 | c::cs,v::vs,h,0,_,_,h1,h2=>by simp at h1 h2;subst h1;subst h2;exact h.1
 | c::cs,v::vs,h,i+1,_,_,h1,h2=>h.2.get (by simpa using h1) (by simpa using h2)
theorem bE.kp {S:Nat->Prop} {w:World}:∀ {cs:List CD} {vs:List Value},vs.length=cs.length->(∀(i:Nat) (c:CD) (v:Value),cs[i]?=some c->vs[i]?=some v->Rd S w c v)->bE S w cs vs
 | [],[],_,_=>trivial
 | c::cs,v::vs,hl,h=>⟨h 0 c v rfl rfl,bE.kp (by simpa using hl) λi c v h1 h2=>h (i+1) c v (by simpa using h1) (by simpa using h2)⟩
 | [],_::_,hl,_=>by simp at hl
 | _::_,[],hl,_=>by simp at hl
theorem bE.append {S:Nat->Prop} {w:World}:∀ {cs ds:List CD} {vs us:List Value},bE S w cs vs->bE S w ds us->bE S w (cs++ds) (vs++us)
 | [],_,[],_,_,h=>h
 | _::_,_,_::_,_,h,k=>⟨h.1,h.2.append k⟩
theorem bE.move {S S' T:Nat->Prop} {w w':World} {cs:List CD} {vs:List Value} (h:bE S w cs vs) (hk:Keeps T w w') (hs:∀ k,k<w.heap.size->S k->T k/\S' k):bE S' w' cs vs:=
 bE.kp h.length λ_ _ _ h1 h2=>(h.get h1 h2).move hk hs
theorem bE.keep {S T:Nat->Prop} {w w':World} {cs:List CD} {vs:List Value} (h:bE S w cs vs) (hk:Keeps T w w') (hs:∀ k,k<w.heap.size->S k->T k):bE S w' cs vs:=h.move hk λk hk h=>⟨hs k hk h,h⟩
theorem bE.sub {S T:Nat->Prop} {w:World} {cs:List CD} {vs:List Value} (h:bE S w cs vs) (hs:∀ k,k<w.heap.size->S k->T k):bE T w cs vs:=h.move (Keeps.refl All w) λk hk h=>⟨trivial,hs k hk h⟩
theorem Rd.aH {S:Nat->Prop} {w:World} {x v:Value} (h:Rd S w (.lit x) v):v=x:=by cases h;rfl
theorem Rd.sf {S:Nat->Prop} {w:World} {x v:Value} (h:Rd S w (.lit x) v):io x:=by cases h;assumption
theorem Rd.one {S:Nat->Prop} {w:World} {c:CD} {v:Value} (h:Rd S w c v):v.oneCell'=true:=by
 cases h with
 | lit v hv=>exact hv.one
 | nil a cap hm=>rfl
 | sl b off cap n rows vs hl hm hb hS hn hc hr=>rfl
 | ptr=>rfl
theorem Rd.form {S:Nat->Prop} {w:World} {rows:List (List CD)} {v:Value} (h:Rd S w (.sl rows) v):∃ a cap,v= .slice a rows.length cap/\rows.length<=cap/\cap<=maxLen:=by
 cases h with
 | nil a cap hm=>exact⟨a,cap,rfl,Nat.zero_le _,hm⟩
 | sl b off cap n rows vs hl hm hb hS hn hc hr=>exact⟨_,cap,rfl,hl,hm⟩
theorem Rd.at {S:Nat->Prop} {w:World} {rows:List (List CD)} {a:Option Addr} {m cap:Nat} (h:Rd S w (.sl rows) (.slice a m cap)) {i:Nat} {r:List CD} (hi:rows[i]?=some r):
 ∃ b off,a=some ⟨b,off,none⟩/\b<w.heap.size/\S b/\∃ us,bE S w r us/\∀ j u,us[j]?=some u->w.cell? ⟨b,off+i*r.length+j,none⟩=some u:=by
 generalize hv:Value.slice a m cap=v at h
 cases h with
 | nil a cap hm=>simp at hi
 | sl b off cap n rows vs hl hm hb hS hn hc hr=>
  injection hv with h1 h2 h3
  subst h1
  have hlt:i<rows.length:=by
   rcases Nat.lt_or_ge i rows.length with h | h
   ·exact h
   ·rw[List.getElem?_eq_none h]at hi;cases hi
  have FB:r.length=n:=hn r (by rw[List.getElem?_eq_getElem hlt]at hi;cases hi;exact getElem_mem hlt)
  refine⟨b,off,rfl,hb,hS,(List.range n).map (vs i),bE.kp (by simp[FB]) λj c u h1 h2=>?_,λj u hj=>?_⟩
  ·have wJ:j<n:=by
    rcases Nat.lt_or_ge j n with h | h
    ·exact h
    ·rw[List.getElem?_eq_none (by simpa using h)]at h2;cases h2
   have:u=vs i j:=by simpa [wJ]using h2.symm
   subst this
   exact hr i j r c hi h1
  ·have wJ:j<n:=by
    rcases Nat.lt_or_ge j n with h | h
    ·exact h
    ·rw[List.getElem?_eq_none (by simpa using h)]at hj;cases hj
   have:u=vs i j:=by simpa [wJ]using hj.symm
   subst this
   rw[FB]
   exact hc i j hlt wJ
theorem Rd.part {S:Nat->Prop} {w:World} {rows:List (List CD)} {b off m cap n:Nat} (h:Rd S w (.sl rows) (.slice (some ⟨b,off,none⟩) m cap)) (hn:∀ r∈rows,r.length=n) {lo hi:Nat} (h1:lo<=hi) (h2:hi<=rows.length) (h3:0<rows.length):
 Rd S w (.sl ((rows.take hi).drop lo)) (.slice (some ⟨b,off+lo*n,none⟩) (hi-lo) (cap-lo)):=by
 generalize hv:Value.slice (some ⟨b,off,none⟩) m cap=v at h
 cases h with
 | nil a cap hm=>simp at h3
 | sl b' off' cap' n' rows vs hl hm hb hS hn' hc hr=>
  injection hv with e1 e2 e3
  injection e1 with e1
  injection e1 with e4 e5 e6
  subst e4;subst e5;subst e2;subst e3
  have Aq:n'=n:=by
   have:=hn' rows[0] (getElem_mem h3)
   rw[<-this];exact hn _ (getElem_mem h3)
  subst Aq
  have hlen:((rows.take hi).drop lo).length=hi-lo:=by rw[List.length_drop,List.length_take];omega
  have dD:∀ i r,((rows.take hi).drop lo)[i]?=some r->rows[lo+i]?=some r:=λi r h=>by
   rw[List.getElem?_drop,List.getElem?_take]at h
   split at h
   ·exact h
   ·cases h
  rw[<-hlen]
  exact .sl b (off+lo*n') (cap-lo) n' _ (λi j=>vs (lo+i) j) (by rw[hlen];omega) (by omega) hb hS (λr hr=>hn' r (List.mem_of_mem_take (List.mem_of_mem_drop hr)))
   (λi j hi' hj=>by
    have:=hc (lo+i) j (by omega) hj
    rw[show off+lo*n'+i*n'+j=off+(lo+i)*n'+j by rw[Nat.add_mul];omega]
    exact this)
   λi j r c h1 h2=>hr (lo+i) j r c (dD i r h1) h2
theorem Rd.UA {S:Nat->Prop} {w:World} {rows:List (List CD)} {ad:Option Addr} {m c c':Nat} (h:Rd S w (.sl rows) (.slice ad m c)) (hl:rows.length=c') (hm:c'<=maxLen):Rd S w (.sl rows) (.slice ad m c'):=by
 generalize hv:Value.slice ad m c=v at h
 cases h with
 | nil a cap hm'=>injection hv with e1 e2 e3;subst e1;subst e2;exact .nil _ _ hm
 | sl b off cap n rows vs hl' hm' hb hS hn hc hr=>
  injection hv with e1 e2 e3
  subst e1;subst e2
  exact .sl b off c' n rows vs (by omega) hm hb hS hn hc hr
theorem Rd.of_cells {S:Nat->Prop} {w:World} {rows:List (List CD)} {b off cap n:Nat} {us:List Value} (hl:rows.length<=cap) (hm:cap<=maxLen) (hb:b<w.heap.size) (hS:S b) (hn:∀ r∈rows,r.length=n)
 (hu:bE S w rows.flatten us) (hc:∀ j u,us[j]?=some u->w.cell? ⟨b,off+j,none⟩=some u):Rd S w (.sl rows) (.slice (some ⟨b,off,none⟩) rows.length cap):=by
 have hlen:∀(l:List (List CD)),(∀ r∈l,r.length=n)->l.flatten.length=l.length*n:=by
  intro l
  induction l with
  | nil=>simp
  | cons a l ih=>intro h;simp only[flatten_cons,List.length_append,List.length_cons];rw[ih λr hr=>h r (by simp[hr]),h a (by simp),Nat.add_mul];omega
 have dD:∀(l:List (List CD)),(∀ r∈l,r.length=n)->∀(i j:Nat) (r:List CD) (c:CD),l[i]?=some r->r[j]?=some c->l.flatten[i*n+j]?=some c:=by
  intro l
  induction l with
  | nil=>intro _ i j r c h;simp at h
  | cons a l ih=>
   intro h i j r c h1 h2
   have ha:=h a (by simp)
   rcases i with _ | i
   ·simp at h1;subst h1
    have hj:j<a.length:=by
     rcases Nat.lt_or_ge j a.length with h | h
     ·exact h
     ·rw[List.getElem?_eq_none h]at h2;cases h2
    rw[flatten_cons,Nat.zero_mul,Nat.zero_add,List.getElem?_append_left hj];exact h2
   ·rw[flatten_cons,List.getElem?_append_right (by rw[ha,Nat.add_mul];omega)]
    have:=ih (λr hr=>h r (by simp[hr])) i j r c (by simpa using h1) h2
    rw[ha,show(i+1)*n+j-n=i*n+j by rw[Nat.add_mul];omega]
    exact this
 have kE:=hu.length
 rw[hlen rows hn]at kE
 refine .sl b off cap n rows (λi j=>(us[i*n+j]?).getD default) hl hm hb hS hn (λi j hi hj=>?_) λi j r c h1 h2=>?_
 ·have hlt:i*n+j<us.length:=by
   rw[kE]
   calc i*n+j<i*n+n:=by omega
    _=(i+1)*n:=by rw[Nat.add_mul];omega
    _<=rows.length*n:=Nat.mul_le_mul_right _ hi
  have:=hc (i*n+j) _ (List.getElem?_eq_getElem hlt)
  rw[List.getElem?_eq_getElem hlt,Option.getD_some]
  rw[show off+i*n+j=off+(i*n+j) by omega]
  exact this
 ·have h3:=dD rows hn i j r c h1 h2
  have hlt:i*n+j<us.length:=by
   rw[hu.length]
   rcases Nat.lt_or_ge (i*n+j) rows.flatten.length with h | h
   ·exact h
   ·rw[List.getElem?_eq_none h]at h3;cases h3
  rw[List.getElem?_eq_getElem hlt,Option.getD_some]
  exact hu.get h3 (List.getElem?_eq_getElem hlt)
theorem Rd.flat {S:Nat->Prop} {w:World} {rows:List (List CD)} {b off m cap n:Nat} (h:Rd S w (.sl rows) (.slice (some ⟨b,off,none⟩) m cap)) (hn:∀ r∈rows,r.length=n) (h3:0<rows.length):
 ∃ us:List Value,us.length=rows.length*n/\bE S w rows.flatten us/\∀ j u,us[j]?=some u->w.cell? ⟨b,off+j,none⟩=some u:=by
 generalize hv:Value.slice (some ⟨b,off,none⟩) m cap=v at h
 cases h with
 | nil a cap hm=>simp at h3
 | sl b' off' cap' n' rows vs hl hm hb hS hn' hc hr=>
  injection hv with e1 e2 e3
  injection e1 with e1
  injection e1 with e4 e5 e6
  subst e4;subst e5
  have Aq:n'=n:=by
   have:=hn' rows[0] (getElem_mem h3)
   rw[<-this];exact hn _ (getElem_mem h3)
  subst Aq
  have key:∀(l:List (List CD)) (k:Nat),(∀ i r,l[i]?=some r->rows[k+i]?=some r)->(∀ r∈l,r.length=n')->k+l.length<=rows.length->
   ∃ us:List Value,us.length=l.length*n'/\bE S w l.flatten us/\∀ j u,us[j]?=some u->w.cell? ⟨b,off+k*n'+j,none⟩=some u:=by
   intro l
   induction l with
   | nil=>intro k _ _ _;exact⟨[],by simp,trivial,λj u h=>by simp at h⟩
   | cons r l ih=>
    intro k hg hl' hk
    simp only[List.length_cons]at hk
    obtain⟨us,h1,h2,h4⟩:=ih (k+1) (λi r' hi=>by rw[show k+1+i=k+(i+1) by omega];exact hg (i+1) r' (by simpa using hi)) (λr hr=>hl' r (by simp[hr])) (by omega)
    have m8:rows[k]?=some r:=by simpa using hg 0 r rfl
    have ql:r.length=n':=hl' r (by simp)
    refine⟨(List.range n').map (vs k)++us,by simp[h1,Nat.add_mul];omega,?_,?_⟩
    ·rw[flatten_cons]
     refine bE.append (bE.kp (by simp[ql]) λj c u hc1 hu=>?_) h2
     have hj:j<n':=by
      rcases Nat.lt_or_ge j n' with h | h
      ·exact h
      ·rw[List.getElem?_eq_none (by simpa using h)]at hu;cases hu
     have:u=vs k j:=by simpa [hj]using hu.symm
     subst this
     exact hr k j r c m8 hc1
    ·intro j u hj
     by_cases hlt:j<n'
     ·rw[List.getElem?_append_left (by simpa using hlt)]at hj
      have:u=vs k j:=by simpa [hlt]using hj.symm
      subst this
      exact hc k j (by omega) hlt
     ·rw[List.getElem?_append_right (by simp;omega)]at hj
      have:=h4 (j-n') u (by simpa using hj)
      rw[show off+(k+1)*n'+(j-n')=off+k*n'+j by rw[Nat.add_mul];omega]at this
      exact this
  obtain⟨us,h1,h2,h4⟩:=key rows 0 (λi r h=>by rw[Nat.zero_add];exact h) hn (by omega)
  exact⟨us,h1,h2,λj u hj=>by have:=h4 j u hj;rwa [Nat.zero_mul,Nat.add_zero]at this⟩
abbrev lI (z:Int):CD:=.lit (.int .i64 z)
abbrev lB (z:Bool):CD:=.lit (.bool z)
abbrev lS (z:ByteArray):CD:=.lit (.string z)
abbrev U2 {α:Type} {x0 x1:α}:List α:=[x0,x1]
abbrev U3 {α:Type} {x0 x1 x2:α}:List α:=[x0,x1,x2]
abbrev U4 {α:Type} {x0 x1 x2 x3:α}:List α:=[x0,x1,x2,x3]
abbrev U5 {α:Type} {x0 x1 x2 x3 x4:α}:List α:=[x0,x1,x2,x3,x4]
abbrev U6 {α:Type} {x0 x1 x2 x3 x4 x5:α}:List α:=[x0,x1,x2,x3,x4,x5]
abbrev U7 {α:Type} {x0 x1 x2 x3 x4 x5 x6:α}:List α:=[x0,x1,x2,x3,x4,x5,x6]
abbrev U8 {α:Type} {x0 x1 x2 x3 x4 x5 x6 x7:α}:List α:=[x0,x1,x2,x3,x4,x5,x6,x7]
abbrev U9 {α:Type} {x0 x1 x2 x3 x4 x5 x6 x7 x8:α}:List α:=[x0,x1,x2,x3,x4,x5,x6,x7,x8]
abbrev fp {α:Type} {x0 x1 x2 x3 x4 x5 x6 x7 x8 x9:α}:List α:=[x0,x1,x2,x3,x4,x5,x6,x7,x8,x9]
abbrev lm {α:Type} {x0 x1 x2 x3 x4 x5 x6 x7 x8 x9 x10:α}:List α:=[x0,x1,x2,x3,x4,x5,x6,x7,x8,x9,x10]
abbrev nE {α:Type} {x0 x1 x2 x3 x4 x5 x6 x7 x8 x9 x10 q8:α}:List α:=[x0,x1,x2,x3,x4,x5,x6,x7,x8,x9,x10,q8]
abbrev pB {α:Type} {x0 x1 x2 x3 x4 x5 x6 x7 x8 x9 x10 q8 Co Xh Xi:α}:List α:=[x0,x1,x2,x3,x4,x5,x6,x7,x8,x9,x10,q8,Co,Xh,Xi]
abbrev V3 {α:Type} {x0 x1 x2:α} (l:List α):List α:=x0::x1::x2::l
abbrev V4 {α:Type} {x0 x1 x2 x3:α} (l:List α):List α:=x0::x1::x2::x3::l
abbrev V5 {α:Type} {x0 x1 x2 x3 x4:α} (l:List α):List α:=x0::x1::x2::x3::x4::l
abbrev V6 {α:Type} {x0 x1 x2 x3 x4 x5:α} (l:List α):List α:=x0::x1::x2::x3::x4::x5::l
abbrev V7 {α:Type} {x0 x1 x2 x3 x4 x5 x6:α} (l:List α):List α:=x0::x1::x2::x3::x4::x5::x6::l
abbrev V8 {α:Type} {x0 x1 x2 x3 x4 x5 x6 x7:α} (l:List α):List α:=x0::x1::x2::x3::x4::x5::x6::x7::l
abbrev V9 {α:Type} {x0 x1 x2 x3 x4 x5 x6 x7 x8:α} (l:List α):List α:=x0::x1::x2::x3::x4::x5::x6::x7::x8::l
abbrev pC {α:Type} {x0 x1 x2 x3 x4 x5 x6 x7 x8 x9:α} (l:List α):List α:=x0::x1::x2::x3::x4::x5::x6::x7::x8::x9::l
abbrev JV {α:Type} {x0 x1 x2 x3 x4 x5 x6 x7 x8 x9 x10 q8:α} (l:List α):List α:=x0::x1::x2::x3::x4::x5::x6::x7::x8::x9::x10::q8::l
abbrev JW {α:Type} {x0 x1 x2 x3 x4 x5 x6 x7 x8 x9 x10 q8 Co:α} (l:List α):List α:=x0::x1::x2::x3::x4::x5::x6::x7::x8::x9::x10::q8::Co::l
abbrev r5 (l:List Nat):List Nat:=0::1::2::3::4::l
abbrev r6 (l:List Nat):List Nat:=0::1::2::3::4::5::l
abbrev r7 (l:List Nat):List Nat:=0::1::2::3::4::5::6::l
abbrev r8 (l:List Nat):List Nat:=0::1::2::3::4::5::6::7::l
abbrev r9 (l:List Nat):List Nat:=0::1::2::3::4::5::6::7::8::l
abbrev ml (l:List Nat):List Nat:=0::1::2::3::4::5::6::7::8::9::l
abbrev pl (l:List Nat):List Nat:=0::1::2::3::4::5::6::7::8::9::10::l
abbrev BA:Type:=ByteArray
abbrev WP:Type:=World->Prop
theorem aV {n:Nat}:n<=n:=Nat.le_refl n
theorem aI {n:Nat}:0<=n:=Nat.zero_le n
theorem bK {n:Nat}:(0:Int)<=(n:Int):=Int.natCast_nonneg n
theorem oz {P:Prop} (h:P:=by omega):P:=h
theorem dz {P:Prop} (h:P:=by decide):P:=h
theorem yz {P:Prop} (h:P:=by simp):P:=h
theorem dZ {P:Prop} (h:P:=by intro k' hk';rcases k' with _ | _ | _ | _ | _ | _ | _ | _ | k'<;>first | rfl | cases hk'):P:=h
theorem Y {α:Sort _} {a:α}:a=a:=rfl
theorem U:True:=trivial
theorem yq {p:Prop} (h:p:=by kernel_rfl):p:=h
structure iu (κ:Type) [DecidableEq κ] where
 kv:κ->Value
 kind:TypeDesc
 same:∀ a b,Instr.sameNow kind (kv a) (kv b)=some (decide (a=b))
 bits:∀ a,Instr.sameBits 10000 (kv a) (kv a)=true
 pQ:∀(P:Program) (K:TypeId) (em:Bool) (a:κ) (w:World),P.underlying K=some kind->(Instr.checkKey em 10000 K (kv a)).run P w= .ok () w
theorem vC (a b:BA):(a==b)=decide (a=b):=by
 obtain⟨a⟩:=a
 obtain⟨b⟩:=b
 show(a==b)=_
 rw[Bool.eq_iff_iff]
 simp
instance instLawfulBytes:LawfulBEq BA where
 eq_of_beq:=λ{a b} h=>by rw[vC]at h;exact of_decide_eq_true h
 rfl:=λ{a}=>by rw[vC];simp
def aB:iu BA where
 kv:=.string
 kind:=.string
 same:=λa b=>by simp only[Instr.sameNow,vC]
 bits:=λa=>by simp only[Instr.sameBits,vC,decide_true]
 pQ:=λP K em a w h=>by
  show(Instr.checkKey em (9999+1) K (.string a)).run P w=_
  unfold Instr.checkKey
  simp[run_underlying h]
section
variable {κ:Type} [DecidableEq κ]
def look (L:List (κ×Value)) (k:κ):Option Value:=(L.find? λp=>decide (k=p.1)).map (·.2)
def put:List (κ×Value)->κ->Value->List (κ×Value)
 | [],k,v=>[(k,v)]
 | p::L,k,v=>if k=p.1 then(p.1,v)::L else p::put L k v
def del:List (κ×Value)->κ->List (κ×Value)
 | [],_=>[]
 | p::L,k=>if k=p.1 then L else p::del L k
theorem Qn (L:List (κ×Value)) (k:κ) (v:Value):(put L k v).map (·.1)=if k∈L.map (·.1)then L.map (·.1)else L.map (·.1)++[k]:=by
 induction L with
 | nil=>simp[put]
 | cons p L ih=>
  simp only[put]
  by_cases h:k=p.1
  ·subst h;simp
  ·rw[if_neg h,List.map_cons,ih,List.map_cons]
   by_cases hm:k∈L.map (·.1)
   ·rw[if_pos hm,if_pos (List.mem_cons_of_mem _ hm)]
   ·rw[if_neg hm,if_neg (by rw[List.mem_cons];exact λh'=>h'.elim h hm),List.cons_append]
theorem QP (L:List (κ×Value)) (k:κ):(look L k).isSome=decide (k∈L.map (·.1)):=by
 induction L with
 | nil=>simp[look]
 | cons p L ih=>
  by_cases h:k=p.1
  ·simp[look,h]
  ·have h4:look (p::L) k=look L k:=by simp[look,h]
   rw[h4,ih]
   simp[h]
theorem Gb {p:κ×Value} {L:List (κ×Value)} {k:κ} (h:¬ k=p.1):look (p::L) k=look L k:=by simp[look,h]
theorem QO {p:κ×Value} {L:List (κ×Value)} {k:κ} (h:k=p.1):look (p::L) k=some p.2:=by simp[look,h]
def gx (Kd:iu κ) (es:List MapEntry) (L:List (κ×Value)):Prop:=es.map (λe=>(e.key,e.val))=L.map λp=>(Kd.kv p.1,p.2)
def IsMap (Kd:iu κ) (w:World) (M:Nat) (L:List (κ×Value)):Prop:=
 ∃ es clock,w.heap[M]?=some (.map es clock)/\gx Kd es.toList L/\(L.map (·.1)).Nodup/\(es.toList.map (·.born)).Pairwise (· < ·)/\∀ e∈es.toList,e.born<clock
variable {Kd:iu κ}
theorem IsMap.keep {S:Nat->Prop} {w w':World} {M:Nat} {L:List (κ×Value)} (h:IsMap Kd w M L) (hk:Keeps S w w') (hs:S M):IsMap Kd w' M L:=by
 obtain⟨es,clock,hm,hr⟩:=h
 exact⟨es,clock,(hk.block M (Array.getElem?_eq_some_iff.1 hm).1 hs).trans hm,hr⟩
theorem IsMap.lt {w:World} {M:Nat} {L:List (κ×Value)} (h:IsMap Kd w M L):M<w.heap.size:=by
 obtain⟨es,clock,hm,_⟩:=h
 exact(Array.getElem?_eq_some_iff.1 hm).1
theorem IsMap.new (w:World):IsMap Kd (w.alloc (.map #[] 0)) w.heap.size []:=
 ⟨#[],0,by show(w.heap.push _)[w.heap.size]?=_;simp,by simp[gx],by simp,by simp,by simp⟩
theorem Eh (Kd:iu κ) (k:κ):∀(es:List MapEntry) (L:List (κ×Value)) (i:Nat),gx Kd es L->
 Instr.findNow Kd.kind (Kd.kv k) es i=some (match L.findIdx? (λp=>decide (k=p.1))with | some n=>some (i+n,((look L k).getD default)) | none=>none)
 | [],[],i,_=>by simp[Instr.findNow]
 | [],_::_,_,h=>by simp[gx]at h
 | _::_,[],_,h=>by simp[gx]at h
 | e::es,p::L,i,h=>by
  simp only[gx,List.map_cons,List.cons.injEq,Prod.mk.injEq]at h
  obtain⟨⟨h1,h2⟩,h3⟩:=h
  have ih:=Eh Kd k es L (i+1) h3
  simp only[Instr.findNow,h1,Kd.same]
  by_cases hk:k=p.1
  ·simp[hk,look,h2,List.findIdx?_cons]
  ·simp only[hk,decide_false]
   rw[ih,Gb hk]
   simp only[List.findIdx?_cons,hk,decide_false,Bool.false_eq_true,if_false]
   cases hf:L.findIdx? (λp=>decide (k=p.1))with
   | none=>simp
   | some n=>simp;omega
theorem Nj (L:List (κ×Value)) (k:κ):(L.findIdx? (λp=>decide (k=p.1))).isSome=(look L k).isSome:=by
 rw[QP]
 rw[Bool.eq_iff_iff]
 simp[List.findIdx?_isSome]
theorem BR {P:Program} {K:TypeId} (hK:P.underlying K=some Kd.kind) (k:κ) (es:List MapEntry) (L:List (κ×Value)) (h:gx Kd es L) (w:World):
 (Instr.findKey K (Kd.kv k) es).run P w= .ok (match L.findIdx? (λp=>decide (k=p.1))with | some n=>some (n,((look L k).getD default)) | none=>none) w:=by
 have:=Eh Kd k es L 0 h
 simp only[Nat.zero_add]at this
 simp only[Instr.findKey,Sem.run_bind,run_underlying hK,Result.andThen_ok,this,Sem.run_pure]
theorem Iy {P:Program} {T K E:TypeId} {z:Value} (hT:P.underlying T=some (.map K E)) (hK:P.underlying K=some Kd.kind) (hz:∀ w,(zeroValue E).run P w= .ok z w) (k:κ) (ok:Bool) {w:World} {M:Nat} {L:List (κ×Value)} (h:IsMap Kd w M L):
 (Instr.lookup T (.map (some M)) (Kd.kv k) ok).run P w= .ok (if ok then .tuple #[(look L k).getD z,.bool (look L k).isSome]else(look L k).getD z) w:=by
 obtain⟨es,clock,hm,hn,_⟩:=h
 have hg:(getObj M).run P w= .ok (.map es clock) w:=by simp[getObj,Sem.run,hm]
 have hf:=BR (w:=w) hK k es.toList L hn
 have dY:=Kd.pQ P K es.isEmpty k w hK
 have hl:=Nj L k
 unfold Instr.lookup
 simp only[Sem.run_bind,run_underlying hT,Result.andThen_ok,hg,Sem.run_pure,dY,hf]
 cases hi:L.findIdx? (λp=>decide (k=p.1))with
 | none=>
  rw[hi]at hl
  cases hv:look L k with
  | none=>simp[hz,Result.andThen_ok]
  | some v=>rw[hv]at hl;simp at hl
 | some n=>
  rw[hi]at hl
  cases hv:look L k with
  | none=>rw[hv]at hl;simp at hl
  | some v=>simp
theorem MY {es:List MapEntry} {L:List (κ×Value)} (h:gx Kd es L) (k:κ) (v:Value) (b:Nat):gx Kd (es++[{ key:=Kd.kv k,val:=v,born:=b }]) (L++[(k,v)]):=by
 simp only[gx,List.map_append,List.map_cons,List.map_nil]at h ⊢
 rw[h]
theorem HJ:∀(L:List (κ×Value)) (k:κ) (v:Value),L.findIdx? (λp=>decide (k=p.1))=none->put L k v=L++[(k,v)]
 | [],_,_,_=>rfl
 | p::L,k,v,h=>by
  simp only[List.findIdx?_cons]at h
  by_cases hk:k=p.1
  ·simp[hk]at h
  ·simp only[hk,decide_false,Bool.false_eq_true,if_false,Option.map_eq_none_iff]at h
   simp only[put,if_neg hk,List.cons_append,HJ L k v h]
theorem HK:∀(es:List MapEntry) (L:List (κ×Value)) (k:κ) (v:Value) (n:Nat),gx Kd es L->L.findIdx? (λp=>decide (k=p.1))=some n->
 (es[n]?).map (·.key)=some (Kd.kv k)/\gx Kd (es.modify n λe=> { e with key:=Kd.kv k,val:=v }) (put L k v)/\(es.modify n λe=> { e with key:=Kd.kv k,val:=v }).map (·.born)=es.map (·.born)
 | [],[],_,_,_,_,h=>by simp at h
 | [],_::_,_,_,_,h,_=>by simp[gx]at h
 | _::_,[],_,_,_,h,_=>by simp[gx]at h
 | e::es,p::L,k,v,n,he,h=>by
  simp only[gx,List.map_cons,List.cons.injEq,Prod.mk.injEq]at he
  obtain⟨⟨h1,h2⟩,h3⟩:=he
  simp only[List.findIdx?_cons]at h
  by_cases hk:k=p.1
  ·simp only[hk,decide_true,if_true,Option.some.injEq]at h
   subst h
   subst hk
   simp[gx,put,h1,h3]
  ·simp only[hk,decide_false,Bool.false_eq_true,if_false]at h
   cases hf:L.findIdx? (λp=>decide (k=p.1))with
   | none=>rw[hf]at h;simp at h
   | some m=>
    rw[hf]at h
    simp only[Option.map_some,Option.some.injEq]at h
    subst h
    obtain⟨g1,g2,g3⟩:=HK es L k v m h3 hf
    simp only[gx]at g2
    refine⟨by simpa using g1,?_,by simpa using g3⟩
    simp[gx,put,hk,h1,h2,g2]
theorem Va {P:Program} {T K E:TypeId} (hT:P.underlying T=some (.map K E)) (hK:P.underlying K=some Kd.kind) (k:κ) (v:Value) {w:World} {M:Nat} {L:List (κ×Value)} (h:IsMap Kd w M L):
 ∃ w',(Instr.mapUpdate T (.map (some M)) (Kd.kv k) v).run P w= .ok () w'/\IsMap Kd w' M (put L k v)/\Keeps (· ≠M) w w':=by
 obtain⟨es,clock,hm,hn,hd,hb,hc⟩:=h
 have hlt:M<w.heap.size:=(Array.getElem?_eq_some_iff.1 hm).1
 have hg:(getObj M).run P w= .ok (.map es clock) w:=by simp[getObj,Sem.run,hm]
 have hf:=BR (w:=w) hK k es.toList L hn
 have dY:=Kd.pQ P K false k w hK
 have hkeys:=Qn L k v
 have d8:((put L k v).map (·.1)).Nodup:=by
  rw[hkeys]
  split
  ·exact hd
  ·rename_i rR
   rw[List.nodup_append]
   exact⟨hd,by simp,λa ha b hb'=>by simp at hb';subst hb';intro e;subst e;exact rR ha⟩
 cases hi:L.findIdx? (λp=>decide (k=p.1))with
 | none=>
  refine⟨{ w with heap:=w.heap.setIfInBounds M (.map (es.push { key:=Kd.kv k,val:=v,born:=clock }) (clock+1)) },?_,?_,(Keeps.refl _ _).putObj (λ_ hn=>hn rfl) _⟩
  ·unfold Instr.mapUpdate
   simp only[Sem.run_bind,run_underlying hT,Result.andThen_ok,hg,dY,hf,hi]
   simp[setObj,Sem.run,hm]
  ·refine⟨_,_,Array.getElem?_setIfInBounds_self_of_lt hlt,?_,d8,?_,?_⟩
   ·rw[HJ L k v hi]
    simpa using MY hn k v clock
   ·simp only[Array.toList_push,List.map_append,List.map_cons,List.map_nil]
    rw[List.pairwise_append]
    exact⟨hb,by simp,λa ha b hb'=>by
     simp at hb';subst hb'
     obtain⟨e,he,rfl⟩:=mem_map.1 ha
     exact hc e he⟩
   ·intro e he
    simp only[Array.toList_push,List.mem_append,List.mem_singleton]at he
    rcases he with he | rfl
    ·have:=hc e he;omega
    ·simp
 | some n=>
  obtain⟨g1,g2,g3⟩:=HK es.toList L k v n hn hi
  refine⟨{ w with heap:=w.heap.setIfInBounds M (.map (es.modify n λe=> { e with key:=Kd.kv k,val:=v }) clock) },?_,?_,(Keeps.refl _ _).putObj (λ_ hn=>hn rfl) _⟩
  ·unfold Instr.mapUpdate
   simp only[Sem.run_bind,run_underlying hT,Result.andThen_ok,hg,dY,hf,hi]
   have g1':(es[n]?.map λx=>x.key).getD (Kd.kv k)=Kd.kv k:=by
    have:es[n]?=es.toList[n]?:=by simp
    rw[this]
    cases hq:es.toList[n]? with
    | none=>rfl
    | some x=>rw[hq]at g1;simp at g1;simp[g1]
   simp only[g1',Instr.keyThatStays,Kd.bits,if_true,Sem.run_pure,Result.andThen_ok]
   simp[setObj,Sem.run,hm]
  ·refine⟨_,_,Array.getElem?_setIfInBounds_self_of_lt hlt,?_,d8,?_,?_⟩
   ·simpa using g2
   ·have:(es.modify n λe=> { e with key:=Kd.kv k,val:=v }).toList.map (·.born)=es.toList.map (·.born):=by simpa using g3
    rw[this];exact hb
   ·intro e he
    have h5:e.born∈(es.modify n λe=> { e with key:=Kd.kv k,val:=v }).toList.map (·.born):=mem_map.2 ⟨e,he,rfl⟩
    have:(es.modify n λe=> { e with key:=Kd.kv k,val:=v }).toList.map (·.born)=es.toList.map (·.born):=by simpa using g3
    rw[this]at h5
    obtain⟨e',he',h6⟩:=mem_map.1 h5
    have:=hc e' he'
    omega
theorem U0 {P:Program} {T K E:TypeId} (hT:P.underlying T=some (.map K E)) (r:TypeId) {w:World} {M:Nat} {L:List (κ×Value)} (h:IsMap Kd w M L):
 (Builtin.len_ #[T] r #[.map (some M)]).run P w= .ok (.int .i64 (L.length:Int)) w:=by
 obtain⟨es,clock,hm,hn,_⟩:=h
 have hg:(getObj M).run P w= .ok (.map es clock) w:=by simp[getObj,Sem.run,hm]
 have hl:es.size=L.length:=by
  have:=congrArg List.length hn
  simpa using this
 simp[Builtin.len_,Sem.run_bind,run_underlying hT,hg,hl,goInt]
def cX (xs:List κ) (k:κ):List κ:=if k∈xs then xs else xs++[k]
theorem A7 {xs:List κ} {k x:κ}:x∈cX xs k↔x∈xs∨x=k:=by
 unfold cX
 split
 ·rename_i h;constructor
  ·exact Or.inl
  ·rintro(h' | rfl)<;>assumption
 ·simp
end
end Go.Proofs.YtdfadihhfppjaaaGreatDoor
