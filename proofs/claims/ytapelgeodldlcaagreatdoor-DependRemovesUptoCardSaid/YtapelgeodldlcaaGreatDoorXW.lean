/-
  CONTRACT: verify.table; an element of an array.
  SUBSTITUTION AS DATA: bindings, images, what fits, what is broken (plain; no program in sight).
-/
import Derived.Test.YtapelgeodldlcaaGreatDoorXV
import Derived.Tactics2
import Derived.Laws.EntriesVeiled
namespace Go.Proofs.YtapelgeodldlcaaGreatDoor
open Go.RowKit
abbrev fnV (f:FuncId):Value:=.func (.func f) #[] #[]
theorem Zsl (w:World):Calls Tryz.prog 92 #[] w fun e w'=>e= .returned (.agg #[fnV 112,fnV 113,fnV 115,fnV 116,fnV 117])∧Keeps All w w':=by
 have hb:∀ w,(Instr.build 149 #[(0,fnV 112),(1,fnV 113),(2,fnV 115),(3,fnV 116),(4,fnV 117)]).run Tryz.prog w= .ok (.agg #[fnV 112,fnV 113,fnV 115,fnV 116,fnV 117]) w:=fun w=>by kernel_rfl
 go_enter Tryz.func92,Tryz.ntmps92
 go_wp2
 simp[bodyPost,results,Tryz.results92,go_sem]
 exact(Keeps.refl _ _).alloc _
theorem ZsL {J:World→Prop} (hJ:Stab J):Fn Tryz.prog J 92 [] (.agg [.lit (fnV 112),.lit (fnV 113),.lit (fnV 115),.lit (fnV 116),.lit (fnV 117)]):=by
 intro S w vs hS hJ0 h
 simp only[RelL]at h
 subst h
 refine(Zsl w).mono ?_
 rintro e w' ⟨rfl,hk⟩
 refine⟨_,rfl,?_,hk,hJ _ _ hk hJ0⟩
 simp only[Rel]
 exact⟨_,rfl,.lit _ True.intro,.lit _ True.intro,.lit _ True.intro,.lit _ True.intro,.lit _ True.intro,trivial⟩
section
variable {n:Rn} {P:Program} {S:Nat→Prop} {X:World→Prop} {o:Oper} {a:Act} {w:World} {x y:Operand} {t e:TypeId}
theorem Zi3 {cs:List CD} {c:CD} {z:Int} {k:Nat} (ht:P.underlying t=some (.array k e)) (h1:XV P e) (hs:∀ w,(sizeOf e).run P w= .ok 1 w) (hop:o.op= .index t x y) (h:Rel S w (.agg cs) (a.eval x)) (hy:Rel S w (.int z) (a.eval y)) (h0:0≤z) (hk:cs.length=k) (hc:cs[z.toNat]?=some c) (hx:X w):Z5 n P o a w (Yu S X (.rd c) w):=by
 simp only[Rel]at h
 obtain⟨us,hv,hr⟩:=h
 have hlt:z.toNat<cs.length:=(List.getElem?_eq_some_iff.1 hc).1
 have hlu:z.toNat<us.length:=by rw[hr.length];exact hlt
 refine Zt (v:=us[z.toNat]) ?_ (by simp only[Rel];exact hr.get hc (List.getElem?_eq_getElem hlu)) hx
 have hz:z< (k:Int):=by omega
 simp[execOp,hop,hv,hy.lit,Instr.index,asIntOf,Sem.run_bind,run_underlying ht,h0,hz,hs w,part,h1 w,hlu]
end
end Go.Proofs.YtapelgeodldlcaaGreatDoor
namespace Go.Proofs.YtapelgeodldlcaaGreatDoor
structure Bd where
 var:ByteArray
 text:List ByteArray
instance instInhBd:Inhabited Bd:=⟨⟨ByteArray.empty,[]⟩⟩
def bdC (b:Bd):List CD:=[.lit (.string b.var),Zb b.text]
def Ziq (l:List Bd):CD:=.sl (l.map bdC)
abbrev BM:=List (ByteArray×List ByteArray)
def ZrU (M:BM) (b:Bd):BM:=if(ZB M b.var).isSome then M else QT M b.var b.text
def Yp (l:List Bd):BM:=l.foldl ZrU []
def XA (M:BM) (s:ByteArray):List ByteArray:=match ZB M s with
 | some t=>t
 | none=>[s]
def Zah (M:BM) (text:List ByteArray):List ByteArray:=text.flatMap (XA M)
def ZdU (M:BM) (text:List ByteArray) (most:Nat):Bool:=decide ((Zah M text).length≤most)
def fitB (pattern:List ByteArray) (l:List Bd) (text:List ByteArray):Bool:=decide (Zah (Yp l) pattern=text)
def Zry (set:List ByteArray) (out:List ByteArray) (s:ByteArray):List ByteArray:=if s∈set∧s∉out then out++[s]else out
def QS (text set:List ByteArray):List ByteArray:=text.foldl (Zry set) []
def Qd (l:List ByteArray):List ByteArray:=l.foldl XT []
theorem ZqO (l:List Bd) (b:Bd):Yp (l++[b])=ZrU (Yp l) b:=by simp[Yp]
theorem ZfV (M:BM) (a b:List ByteArray):Zah M (a++b)=Zah M a++Zah M b:=by simp[Zah]
theorem ZqV (M:BM) (s:ByteArray):Zah M [s]=XA M s:=by simp[Zah]
theorem Qo {M:BM} {text:List ByteArray} {j:Nat} (h:j<text.length):Zah M (text.take (j+1))=Zah M (text.take j)++XA M (ge text j):=by
 rw[ZO h,ZfV,ZqV]
theorem QY (M:BM) (text:List ByteArray) (j:Nat):(Zah M (text.take j)).length≤(Zah M text).length:=by
 rw[←List.take_append_drop j text,ZfV,List.take_append_drop]
 simp
theorem ZpK (set text:List ByteArray) (s:ByteArray):QS (text++[s]) set=Zry set (QS text set) s:=by simp[QS]
theorem ZgE {set text:List ByteArray} {j:Nat} (h:j<text.length):QS (text.take (j+1)) set=Zry set (QS (text.take j) set) (ge text j):=by
 rw[ZO h,ZpK]
theorem ZpT (l:List ByteArray) (s:ByteArray):Qd (l++[s])=XT (Qd l) s:=by simp[Qd]
theorem ZgM {l:List ByteArray} {j:Nat} (h:j<l.length):Qd (l.take (j+1))=XT (Qd (l.take j)) (ge l j):=by
 rw[ZO h,ZpT]
theorem Zhf {l:List Bd} {j:Nat} (h:j<l.length):Yp (l.take (j+1))=ZrU (Yp (l.take j)) (ge l j):=by
 rw[ZO h,ZqO]
theorem ZpO {set out:List ByteArray} {s x:ByteArray}:x∈Zry set out s↔x∈out∨(x=s∧s∈set):=by
 unfold Zry
 split
 · rename_i h
   rw[List.mem_append,List.mem_singleton]
   constructor
   · rintro(h1 | rfl)
     · exact .inl h1
     · exact .inr ⟨rfl,h.1⟩
   · rintro(h1 | ⟨rfl,_⟩)
     · exact .inl h1
     · exact .inr rfl
 · rename_i h
   constructor
   · exact .inl
   · rintro(h1 | ⟨rfl,h2⟩)
     · exact h1
     · exact Classical.byContradiction fun h3=>h ⟨h2,h3⟩
theorem mem_occL {text set:List ByteArray} {x:ByteArray}:x∈QS text set↔x∈text∧x∈set:=by
 have key:∀(text out:List ByteArray),x∈text.foldl (Zry set) out↔x∈out∨(x∈text∧x∈set):=by
  intro text
  induction text with
  | nil=>intro out;simp
  | cons s r ih=>
   intro out
   rw[List.foldl_cons,ih,ZpO]
   constructor
   · rintro((h | ⟨rfl,h⟩) | ⟨h1,h2⟩)
     · exact .inl h
     · exact .inr ⟨by simp,h⟩
     · exact .inr ⟨by simp[h1],h2⟩
   · rintro(h | ⟨h1,h2⟩)
     · exact .inl (.inl h)
     · rcases List.mem_cons.1 h1 with rfl | h1
       · exact .inl (.inr ⟨rfl,h2⟩)
       · exact .inr ⟨h1,h2⟩
 have:=key text []
 simpa [QS]using this
theorem mem_lstL {l:List ByteArray} {x:ByteArray}:x∈Qd l↔x∈l:=by
 have key:∀(l out:List ByteArray),x∈l.foldl XT out↔x∈out∨x∈l:=by
  intro l
  induction l with
  | nil=>intro out;simp
  | cons s r ih=>
   intro out
   rw[List.foldl_cons,ih,mem_addS,List.mem_cons]
   constructor
   · rintro((h | h) | h)
     · exact .inl h
     · exact .inr (.inl h)
     · exact .inr (.inr h)
   · rintro(h | h | h)
     · exact .inl (.inl h)
     · exact .inl (.inr h)
     · exact .inr h
 have:=key l []
 simpa [Qd]using this
def ZaL (x y:ByteArray):Int:=if Op.bytesLess x.toList y.toList then-1 else if x=y then 0 else 1
def Ze8 (p q:Pr):Int:=if ZaL p.a q.a=0 then ZaL p.b q.b else ZaL p.a q.a
def orI (l:List Int):Int:=(l.find? fun z=>decide (¬ z=0)).getD 0
theorem ZmM {l:List Int} {k:Nat} (hk:k<l.length) (h1:∀ j,j<k→ge l j=0) (h2:¬ ge l k=0):orI l=ge l k:=by
 induction l generalizing k with
 | nil=>simp at hk
 | cons x r ih=>
  cases k with
  | zero=>
   have h3:¬ x=0:=h2
   show((x::r).find? _).getD 0=x
   rw[List.find?_cons_of_pos (by simpa using h3)]
   rfl
  | succ k=>
   have h3:x=0:=h1 0 (by omega)
   have h4:=ih (k:=k) (by simpa using hk) (fun j hj=>by have:=h1 (j+1) (by omega);simpa [ge]using this) (by simpa [ge]using h2)
   have h5:orI (x::r)=orI r:=by
    show((x::r).find? _).getD 0=(r.find? _).getD 0
    rw[List.find?_cons_of_neg (by simpa using h3)]
   rw[h5,h4]
   simp[ge]
theorem Zrt {l:List Int} (h1:∀ j,j<l.length→ge l j=0):orI l=0:=by
 have:l.find? (fun z=>decide (¬ z=0))=none:=List.find?_eq_none.2 fun x hx=>by
  obtain⟨j,hj,rfl⟩:=XQ hx
  simpa using h1 j hj
 rw[orI,this]
 rfl
theorem ZnN (p q:Pr):orI [ZaL p.a q.a,ZaL p.b q.b]=Ze8 p q:=by
 unfold Ze8 orI
 by_cases h:ZaL p.a q.a=0
 · by_cases h2:ZaL p.b q.b=0<;>simp[h,h2]
 · simp[h]
def ZbK (p:Pr):Pr:=if Op.bytesLess p.b.toList p.a.toList then⟨p.b,p.a⟩else p
def ZoX (l:List Bd) (apart:List Pr) (vars:List ByteArray):List Pr:=
 apart.flatMap fun p=>(QS (XA (Yp l) p.a) (Qd vars)).flatMap fun x=>(QS (XA (Yp l) p.b) (Qd vars)).map fun y=>ZbK ⟨x,y⟩
def Zhs (wide:List Pr) (p:Pr):Bool:=!decide (p∈wide.map ZbK)||decide (p.a=p.b)
def Zod (l:List Bd) (apart:List Pr) (vars:List ByteArray) (wide:List Pr):Option Pr:=(ZoX l apart vars).find? (Zhs wide)
def Zfb (l:List Bd) (apart:List Pr) (vars:List ByteArray) (wide:List Pr):Pr:=(Zod l apart vars wide).getD ⟨⟨#[]⟩,⟨#[]⟩⟩
def Zip (l:List Bd) (apart:List Pr) (vars:List ByteArray) (wide:List Pr):Bool:=(Zod l apart vars wide).isSome
theorem ZaX {α κ:Type} [DecidableEq κ] (L:List (κ×α)) (k k':κ) (v:α):ZB (QT L k v) k'=if k'=k then some v else ZB L k':=by
 induction L with
 | nil=>by_cases h:k'=k<;>simp[QT,ZB,h]
 | cons p L ih=>
  unfold QT
  by_cases h:k=p.1
  · rw[if_pos h]
    by_cases h2:k'=k
    · simp[ZB,h2,h]
    · have:¬ k'=p.1:=fun e=>h2 (e.trans h.symm)
      simp[ZB,h2,this]
  · rw[if_neg h]
    by_cases h2:k'=p.1
    · have:¬ p.1=k:=fun e=>h e.symm
      simp[ZB,h2,this]
    · have e1:ZB (p::QT L k v) k'=ZB (QT L k v) k':=by simp[ZB,h2]
      have e2:ZB (p::L) k'=ZB L k':=by simp[ZB,h2]
      rw[e1,e2,ih]
theorem Zm4 (M:BM) (b:Bd) (s:ByteArray):ZB (ZrU M b) s=match ZB M s with
 | some t=>some t
 | none=>if s=b.var then some b.text else none:=by
 unfold ZrU
 split
 · rename_i h
   cases h2:ZB M s with
   | some t=>rfl
   | none=>
    have:¬ s=b.var:=fun e=>by rw[←e,h2]at h;cases h
    simp[this]
 · rename_i h
   rw[ZaX]
   by_cases e:s=b.var
   · subst e
     have:ZB M b.var=none:=by simpa using h
     simp[this]
   · simp only[e,if_false]
     cases ZB M s<;>rfl
theorem ZgI (l:List Bd) (s:ByteArray):ZB (Yp l) s=(l.find? fun b=>decide (b.var=s)).map Bd.text:=by
 have key:∀(l:List Bd) (M:BM),ZB (l.foldl ZrU M) s=match ZB M s with
  | some t=>some t
  | none=>(l.find? fun b=>decide (b.var=s)).map Bd.text:=by
  intro l
  induction l with
  | nil=>intro M;cases h:ZB M s<;>simp[h]
  | cons b l ih=>
   intro M
   rw[List.foldl_cons,ih,Zm4]
   cases h:ZB M s with
   | some t=>rfl
   | none=>
    by_cases e:s=b.var
    · subst e;simp
    · have e':¬ b.var=s:=fun h=>e h.symm
      simp[e,e']
 exact key l []
theorem Zh6 {l:List Bd} {m:Nat} (hm:1≤m) (hl:∀ b∈l,b.text.length≤m) (s:ByteArray):(XA (Yp l) s).length≤m:=by
 unfold XA
 rw[ZgI]
 cases h:l.find? fun b=>decide (b.var=s)with
 | none=>simpa using hm
 | some b=>exact hl b (List.mem_of_find?_eq_some h)
theorem fit_no {M:BM} {pattern text:List ByteArray} {k j p:Nat} (hk:k<pattern.length) (hj:j< (XA M (ge pattern k)).length) (h:text.take p=Zah M (pattern.take k)++(XA M (ge pattern k)).take j) (hp:p≤text.length)
 (hb:p=text.length∨ ¬ ge text p=ge (XA M (ge pattern k)) j):¬ Zah M pattern=text:=by
 intro e
 have e1:Zah M pattern=Zah M (pattern.take k)++XA M (ge pattern k)++Zah M (pattern.drop (k+1)):=by
  rw[←Qo hk,←ZfV,List.take_append_drop]
 have hl:p=(Zah M (pattern.take k)).length+j:=by
  have:=congrArg List.length h
  rw[List.length_take,List.length_append,List.length_take]at this
  omega
 have hlen:(Zah M pattern).length=text.length:=by rw[e]
 rw[e1,List.length_append,List.length_append]at hlen
 rcases hb with hb | hb
 · omega
 · apply hb
   have hget:text[p]?=some (ge (XA M (ge pattern k)) j):=by
    rw[←e,e1,List.append_assoc,List.getElem?_append_right (by omega),List.getElem?_append_left (by omega)]
    rw[hl,Nat.add_sub_cancel_left]
    exact Ze1 hj
   rw[ge,List.getD_eq_getElem?_getD,hget]
   rfl
theorem ZtE {M:BM} {pattern text:List ByteArray} {p:Nat} (h:text.take p=Zah M pattern) (hp:p≤text.length):decide (((p:Nat):Int)=((text.length:Nat):Int))=decide (Zah M pattern=text):=by
 congr 1
 apply propext
 constructor
 · intro e
   rw[←h,List.take_of_length_le (by omega)]
 · intro e
   have:=congrArg List.length h
   rw[e,List.length_take]at this
   omega
end Go.Proofs.YtapelgeodldlcaaGreatDoor
