/-
  Part of the proof that MinimizeChecks returns true. Conditions: none.
-/
import Derived.Test.YtdfadihhfppjaaaGreatDoorBEM
import Derived.Lib.Bytealg
open List (all_eq_true any_eq_true foldl_cons getD_eq_getElem?_getD length_append length_take mem_append mem_cons mem_singleton take_append_drop)
namespace Go.Proofs.YtdfadihhfppjaaaGreatDoor
def cH {α:Type} (p:α->Bool) (xs:List α):Int:=match xs.findIdx? p with | some i=>i | none=> -1
theorem iR {α:Type} [Inhabited α] {p:α->Bool} {xs:List α} {k:Nat} (h:k<xs.length) (hp:p (G xs k)=true) (hn:∀ j,j<k->p (G xs j)=false):cH p xs=(k:Int):=by
 have:xs.findIdx? p=some k:=by
  rw[List.findIdx?_eq_some_iff_getElem]
  exact⟨h,by rw[<-cF h];exact hp,λj hj=>by rw[<-cF (Nat.lt_trans hj h)];simpa using hn j hj⟩
 simp[cH,this]
theorem iS {α:Type} [Inhabited α] {p:α->Bool} {xs:List α} (hn:∀ j,j<xs.length->p (G xs j)=false):cH p xs= -1:=by
 have:xs.findIdx? p=none:=by
  rw[List.findIdx?_eq_none_iff]
  intro x Z
  obtain⟨k,hk,rfl⟩:=ej Z
  exact hn k hk
 simp[cH,this]
theorem pd {α:Type} (p:α->Bool) (xs:List α):decide (0<=cH p xs)=xs.any p:=by
 unfold cH
 cases h:xs.findIdx? p with
 | none=>
  rw[List.findIdx?_eq_none_iff]at h
  symm
  simpa using h
 | some i=>
  rw[List.findIdx?_eq_some_iff_getElem]at h
  obtain⟨hi,hp,_⟩:=h
  symm
  simp only[Int.natCast_nonneg,decide_true,any_eq_true]
  exact⟨_,List.getElem_mem hi,hp⟩
structure fC {α:Type} (p:α->Bool) (xs ys:List α) (i j:Nat):Prop where
 le:i<=j
 lt:j<=xs.length
 len:ys.length=xs.length
 got:ys.take i=(xs.take j).filter λx=>!p x
 rest:ys.drop j=xs.drop j
section
variable {α:Type} [Inhabited α] {p:α->Bool} {xs ys:List α} {i j:Nat}
theorem pf (h:¬ cH p xs= -1):0<=cH p xs/\(cH p xs).toNat<xs.length/\p (G xs (cH p xs).toNat)=true/\∀ j,j< (cH p xs).toNat->p (G xs j)=false:=by
 unfold cH at h ⊢
 cases hf:xs.findIdx? p with
 | none=>rw[hf]at h;exact absurd rfl h
 | some i=>
  rw[List.findIdx?_eq_some_iff_getElem]at hf
  obtain⟨h1,h2,h3⟩:=hf
  simp only[Int.natCast_nonneg,Int.toNat_natCast,true_and]
  exact⟨h1,by rw[cF h1];exact h2,λj hj=>by rw[cF (Nat.lt_trans hj h1)];simpa using h3 j hj⟩
theorem Eg {xs:List α} {q:α->Bool} (h:∀ j,j<xs.length->q (G xs j)=true):xs.filter q=xs:=by
 rw[List.filter_eq_self]
 intro x Z
 obtain⟨k,hk,rfl⟩:=ej Z
 exact h k hk
theorem fC.none (h:cH p xs= -1):xs=xs.filter λx=>!p x:=by
 symm
 refine Eg λj hj=>?_
 unfold cH at h
 cases hf:xs.findIdx? p with
 | none=>
  rw[List.findIdx?_eq_none_iff]at hf
  simp[hf _ (aE hj)]
 | some i=>rw[hf]at h;simp at h
theorem fC.init (h:¬ cH p xs= -1):fC p xs xs (cH p xs).toNat ((cH p xs).toNat+1):=by
 obtain⟨_,h1,h2,h3⟩:=pf h
 refine⟨oz,oz,rfl,?_,rfl⟩
 rw[dF h1,List.filter_append,Eg (xs:=xs.take _) λj hj=>?_]
 ·simp[h2]
 ·have hj':j< (cH p xs).toNat:=by simp at hj;omega
  have:G (xs.take (cH p xs).toNat) j=G xs j:=by simp[G,getD_eq_getElem?_getD,hj']
  rw[this,h3 j hj'];rfl
theorem fC.at (h:fC p xs ys i j) (_:j<xs.length):G ys j=G xs j:=by
 have:=congrArg (λl=>l[0]?) h.rest
 simp only[List.getElem?_drop,Nat.add_zero]at this
 simp[G,getD_eq_getElem?_getD,this]
theorem fC.keep (h:fC p xs ys i j) (hj:j<xs.length) (hp:p (G ys j)=false):fC p xs (ys.set i (G ys j)) (i+1) (j+1):=by
 have hle:=h.le;have hlen:=h.len
 refine⟨oz,oz,by simpa using h.len,?_,?_⟩
 ·rw[List.take_succ_eq_append_getElem (by simp;omega),List.take_set_of_le (Nat.le_refl i),h.got,dF hj,List.filter_append]
  rw[h.at hj]at hp ⊢
  simp[hp]
 ·rw[List.drop_set_of_lt oz]
  have:=congrArg (λl=>l.drop 1) h.rest
  simpa [List.drop_drop]using this
theorem fC.skip (h:fC p xs ys i j) (hj:j<xs.length) (hp:p (G ys j)=true):fC p xs ys i (j+1):=by
 have hle:=h.le
 refine⟨oz,oz,h.len,?_,?_⟩
 ·rw[h.got,dF hj,List.filter_append]
  rw[h.at hj]at hp
  simp[hp]
 ·have:=congrArg (λl=>l.drop 1) h.rest
  simpa [List.drop_drop]using this
omit [Inhabited α]in
theorem fC.fin (h:fC p xs ys i j) (hj:xs.length<=j):ys.take i=xs.filter λx=>!p x:=by
 rw[h.got,List.take_of_length_le hj]
end
theorem ww {α β:Type} [Inhabited α] [Inhabited β] {f:α->β} {xs:List α} {k:Nat} (h:k<xs.length):G (xs.map f) k=f (G xs k):=by rw[cF (by simpa using h),cF h];simp

abbrev oK (a b:BA):Int:=Lib.compareBytes a.data.toList b.data.toList
def oL (x y:Pr):Int:=if oK x.a y.a=0 then oK x.b y.b else oK x.a y.a
theorem y9:∀(a b:List UInt8),Lib.compareBytes a b=0↔a=b
 | [],[]=>by simp[Lib.compareBytes]
 | [],_::_=>by simp[Lib.compareBytes]
 | _::_,[]=>by simp[Lib.compareBytes]
 | a::l,b::m=>by
  simp only[Lib.compareBytes,List.cons.injEq]
  by_cases h1:a<b
  ·simp only[h1,if_true]
   constructor
   ·intro h;omega
   ·rintro⟨rfl,_⟩;exact absurd h1 (UInt8.lt_irrefl _)
  ·by_cases h2:b<a
   ·simp only[h1,h2,if_true,if_false]
    constructor
    ·intro h;omega
    ·rintro⟨rfl,_⟩;exact absurd h2 (UInt8.lt_irrefl _)
   ·simp only[h1,h2,if_false,y9 l m]
    have:a=b:=UInt8.le_antisymm (UInt8.not_lt.1 h2) (UInt8.not_lt.1 h1)
    simp[this]
theorem za:∀(a b:List UInt8),Op.bytesLess a b=decide (Lib.compareBytes a b<0)
 | [],[]=>by simp[Lib.compareBytes,Op.bytesLess]
 | [],_::_=>by simp[Lib.compareBytes,Op.bytesLess]
 | _::_,[]=>by simp[Lib.compareBytes,Op.bytesLess]
 | a::l,b::m=>by
  simp only[Lib.compareBytes,Op.bytesLess]
  by_cases h1:a<b
  ·simp[h1]
  ·by_cases h2:b<a
   ·have:¬ a=b:=λe=>by subst e;exact UInt8.lt_irrefl _ h2
    simp[h1,h2,this]
   ·have:a=b:=UInt8.le_antisymm (UInt8.not_lt.1 h2) (UInt8.not_lt.1 h1)
    subst this
    simp[h1,za l m]
theorem LH (x y:Pr):decide (oL x y<0)=cI x y:=by
 unfold oL cI
 have e1:x.a.toList=x.a.data.toList:=ByteArray.toList_eq ..
 have e2:y.a.toList=y.a.data.toList:=ByteArray.toList_eq ..
 have e3:x.b.toList=x.b.data.toList:=ByteArray.toList_eq ..
 have e4:y.b.toList=y.b.data.toList:=ByteArray.toList_eq ..
 have h1:=y9 x.a.data.toList y.a.data.toList
 have h2:(x.a.data.toList=y.a.data.toList)↔x.a=y.a:=⟨λh=>ByteArray.ext (Array.toList_inj.1 h),λh=>by rw[h]⟩
 rw[h2]at h1
 rw[e1,e2,e3,e4,za,za]
 by_cases h:x.a=y.a
 ·have h0:=h1.2 h
  simp only[oK,h,decide_true,Bool.true_and]
  rw[(y9 _ _).2 rfl]
  simp
 ·have h0:¬ oK x.a y.a=0:=λe=>h (h1.1 e)
  simp[h0,h]
def li (cs vs l:List BA):Int:=if decide (((l.length:Nat):Int)=0)||decide (200< ((l.length:Nat):Int))then 2 else if !decide (G l 0∈cs)|| (l.drop 1).any (λs=>!(decide (s∈cs)||decide (s∈vs)))then 12 else 0
theorem Jg {d:Db} {l:List BA}:li d.bL d.vars l=if decide (((l.length:Nat):Int)=0)||decide (200< ((l.length:Nat):Int))then 2 else iN d l:=by
 unfold li
 by_cases h:(decide (((l.length:Nat):Int)=0)||decide (200< ((l.length:Nat):Int)))=true
 ·simp only[h,if_true]
 ·simp only[h,Bool.false_eq_true,if_false]
  have h0:0<l.length:=by simp at h;exact List.length_pos_iff.2 h.1
  by_cases hc:G l 0∈d.bL
  ·by_cases ha:(l.drop 1).any (λs=>!(decide (s∈d.bL)||decide (s∈d.vars)))=true
   ·rw[if_pos (by rw[ha,Bool.or_true])]
    obtain⟨x,Z,hn⟩:=any_eq_true.1 ha
    rw[List.mem_drop_iff_getElem]at Z
    obtain⟨j,hj,rfl⟩:=Z
    refine(EO (j:=1+j) oz oz ?_).symm
    rw[<-cF oz]at hn
    simpa [fP]using hn
   ·rw[if_neg (by simp only[hc,decide_true,Bool.not_true,Bool.false_or];exact ha)]
    refine(EP hc λj h1 h2=>?_).symm
    simp only[any_eq_true,not_exists,not_and,Bool.not_eq_true]at ha
    have:=ha (G l j) (by
     rw[List.mem_drop_iff_getElem]
     exact⟨j-1,oz,by rw[<-cF oz];congr 1;omega⟩)
    simp only[Bool.not_eq_false']at this
    exact this
  ·rw[if_pos (by simp[hc]),EN hc]
def i6 (cs vs fs:List BA) (hm:List (BA×Hy)) (tm:List (BA×BA)) (ls:List BA) (ts:List (BA×BA)) (y:Hy) (dm:Bool):Int:=
 if ij y dm then 2 else if((decide (y.ae∈cs)||decide (y.ae∈vs))||decide (y.ae∈fs))||decide (y.ae∈ls)then 6
 else if y.bn&& (!decide (G y.ac 0∈cs)|| !decide (G y.ac 1∈vs))then 12
 else if y.bn&& (((aw tm (G y.ac 1)).isSome&& !decide ((aw tm (G y.ac 1)).getD default=G y.ac 0))|| ((aw ts (G y.ac 1)).isSome&& !decide ((aw ts (G y.ac 1)).getD default=G y.ac 0)))then 11
 else if y.bn&& (aw ts (G y.ac 1)).isSome then 6
 else if !y.bn&& !decide (li cs vs y.ac=0)then li cs vs y.ac
 else if(aw hm y.ae).isSome&& !k7 ((aw hm y.ae).getD default) y then 6 else 0
def yR (c:UInt8):Bool:=decide ((c.toNat:Int)=(32:Int))|| ((decide ((9:Int)<=(c.toNat:Int))&&decide ((c.toNat:Int)<=(13:Int)))&& !decide ((c.toNat:Int)=(11:Int)))
def yS (c:UInt8):Bool:=decide ((c.toNat:Int)=(36:Int))
def yT (c:UInt8):Bool:=(((((decide ((48:Int)<=(c.toNat:Int))&&decide ((c.toNat:Int)<=(57:Int)))|| (decide ((65:Int)<=(c.toNat:Int))&&decide ((c.toNat:Int)<=(90:Int))))|| (decide ((97:Int)<=(c.toNat:Int))&&decide ((c.toNat:Int)<=(122:Int))))||decide ((c.toNat:Int)=(45:Int)))||decide ((c.toNat:Int)=(95:Int)))||decide ((c.toNat:Int)=(46:Int))
def yU (c:UInt8):Bool:=decide ((32:Int)< (c.toNat:Int))&&decide ((c.toNat:Int)<=(126:Int))
def gN (c:UInt8):UInt8:=if yR c then 1 else if yS c then 4 else if yT c then 2 else if yU c then 3 else 0
def kj:List UInt8:=(List.range 256).map λk=>gN (UInt8.ofNat k)
theorem pT:kj.length=256:=by simp[kj]
theorem vJ (c:UInt8):G kj c.toNat=gN c:=by
 have h:=c.toNat_lt
 rw[cF (by rw[pT];exact h)]
 simp[kj]
theorem LC {xs:List UInt8} (hl:xs.length=256) (h:∀ j,j<256->G xs j=gN (UInt8.ofNat j)):xs=kj:=
 ib (by rw[hl,pT]) λj hj=>by
  rw[hl]at hj
  rw[h j hj,cF (by rw[pT];exact hj)]
  simp[kj]
theorem zX {α:Type} [Inhabited α] {xs:List α} {k j:Nat} {v:α} (hk:k<xs.length):G (xs.set k v) j=if j=k then v else G xs j:=by
 by_cases h:j=k
 ·subst h;simp[G,getD_eq_getElem?_getD,hk]
 ·rw[if_neg h];simp[G,getD_eq_getElem?_getD,List.getElem?_set_ne (Ne.symm h)]
theorem vL {xs:List UInt8} {k:Nat} {v:UInt8} (hl:xs.length=256) (hk:k<256) (h:∀ j,j<k->G xs j=gN (UInt8.ofNat j)) (hv:gN (UInt8.ofNat k)=v):∀ j,j<k+1->G (xs.set k v) j=gN (UInt8.ofNat j):=λj hj=>by
 rw[zX oz]
 by_cases e:j=k
 ·rw[if_pos e,e,hv]
 ·rw[if_neg e];exact h j oz
theorem vK {xs:List UInt8} {k:Nat} {v:UInt8} (hl:xs.length=256) (hk:k<256) (h:∀ j,k<=j->j<256->G xs j=0):∀ j,k+1<=j->j<256->G (xs.set k v) j=0:=λj h1 h2=>by
 rw[zX oz,if_neg oz]
 exact h j oz h2
theorem Rb {c:UInt8} {xs:List UInt8}:(xs.any λx':UInt8=>decide (((c).toNat:Int)=((x').toNat:Int)))=decide (c∈xs):=by
 rw[Bool.eq_iff_iff]
 simp only[any_eq_true,decide_eq_true_eq]
 constructor
 ·rintro⟨x,Z,h⟩
  have:c=x:=UInt8.toNat_inj.1 oz
  rw[this];exact Z
 ·exact λh=>⟨c,h,rfl⟩
def j2 (s:BA) (bs:List UInt8):Bool:=if decide (s=⟨#[]⟩)||decide (60< ((s.size:Nat):Int))then false else s.data.toList.all λc=>decide (gN c∈bs)
theorem DJ:∀ n:Fin 256,(decide (gN (UInt8.ofNat n)∈[2])= !lr (UInt8.ofNat n))/\(decide (gN (UInt8.ofNat n)∈[2,3])=(lK (UInt8.ofNat n)&& !decide (((UInt8.ofNat n).toNat:Int)=36))):=by decide+kernel
theorem LD (c:UInt8):decide (gN c∈([2]:List UInt8))= !lr c:=by
 have:=(DJ ⟨c.toNat,c.toNat_lt⟩).1
 simpa using this
theorem LE (c:UInt8):decide (gN c∈([2,3]:List UInt8))=(lK c&& !decide ((c.toNat:Int)=36)):=by
 have:=(DJ ⟨c.toNat,c.toNat_lt⟩).2
 simpa using this
theorem RR (s:BA):j2 s [2]=ga s:=by
 unfold j2 ga
 rw[show(λc=>decide (gN c∈([2]:List UInt8)))=λc=>!lr c from funext LD]
 by_cases h1:s=⟨#[]⟩
 ·simp[h1]
 ·by_cases h2:(60:Int)< ((s.size:Nat):Int)
  ·simp[h2,show ¬ ((s.size:Nat):Int)<=60 by omega]
  ·simp[h1,h2,show((s.size:Nat):Int)<=60 by omega]
theorem RS (s:BA):j2 s [2,3]=gZ s:=by
 unfold j2 gZ ow
 rw[show(λc=>decide (gN c∈([2,3]:List UInt8)))=λc=>(lK c&& !decide ((c.toNat:Int)=36))from funext LE]
 have ha:(s.data.toList.all λc=>(lK c&& !decide ((c.toNat:Int)=36)))=(s.data.toList.all lK&&s.data.toList.all λc=>!decide ((c.toNat:Int)=36)):=by
  rw[Bool.eq_iff_iff]
  simp only[all_eq_true,Bool.and_eq_true]
  exact⟨λh=>⟨λx Z=>(h x Z).1,λx Z=>(h x Z).2⟩,λh x Z=>⟨h.1 x Z,h.2 x Z⟩⟩
 rw[ha]
 by_cases h1:s=⟨#[]⟩
 ·simp[h1]
 ·by_cases h2:(60:Int)< ((s.size:Nat):Int)
  ·simp[h2,show ¬ ((s.size:Nat):Int)<=60 by omega]
  ·simp[h1,h2,show((s.size:Nat):Int)<=60 by omega,Bool.and_comm]
theorem I0 {d:Db} {k:Nat} {e:Int} (hk:k<d.bL.length) (h:∀ j,j<k->gP d j=0) (h0:gP d k≠0) (he:gP d k=e):ed d=e:=by
 have:=jj hk h h0
 rw[ed,this,he]
 rw[he]at h0
 simp[h0]
theorem I1 {d:Db} {k:Nat} {e:Int} (h1:fZ d.bL.length (gP d)=0) (hk:k<d.vars.length) (h:∀ j,j<k->iZ d j=0) (h0:iZ d k≠0) (he:iZ d k=e):ed d=e:=by
 rw[ed,h1,jj hk h h0,he];rfl
theorem Wf {d:Db} (h1:fZ d.bL.length (gP d)=0) (h2:fZ d.vars.length (iZ d)=0):ed d=0:=by
 rw[ed,h1,h2];rfl
theorem wk {α:Type} (ls:List (List α)) (k:Nat):(ls.take k).flatten.length<=ls.flatten.length:=by
 have h:ls.flatten=(ls.take k).flatten++(ls.drop k).flatten:=by rw[<-List.flatten_append,take_append_drop]
 rw[h,length_append];omega
theorem LS {ts:List (BA×BA)} {vis:List BA} {k:BA} (h1:vis.Nodup) (h2:∀ q∈vis,q∈ts.map (·.1)) (h3:k∉vis/\(aw ts k).isSome=true):ts.length-(vis++[k]).length<ts.length-vis.length:=by
 have hk:k∈ts.map (·.1):=by have:=h3.2;rw[lH]at this;simpa using this
 have hn:(vis++[k]).Nodup:=by
  rw[List.nodup_append]
  exact⟨h1,by simp,λx Z y hy e=>by rw[mem_singleton.1 hy]at e;subst e;exact h3.1 Z⟩
 have:=oc (ys:=ts.map (·.1)) hn λx Z=>by
  rcases mem_append.1 Z with h | h
  ·exact h2 x h
  ·rw[mem_singleton.1 h];exact hk
 simp at this ⊢
 omega
theorem LT {ts tm tn:List (BA×BA)} {vis:List BA} {k:BA} (h1:∀ q,aw tn q=if q∈vis then aw ts q else aw tm q) (h3:k∉vis/\(aw ts k).isSome=true):∀ q,aw (cn tn k ((aw ts k).getD default)) q=if q∈vis++[k]then aw ts q else aw tm q:=λq=>by
 obtain⟨v,hv⟩:=Option.isSome_iff_exists.1 h3.2
 rw[k8]
 by_cases e:q=k
 ·subst e;simp[hv]
 ·rw[if_neg e,h1 q]
  simp[e]
def kF (vs:List BA) (f:Fr):List BA:=dt vs (f.ac::(bS f.aa).map Hy.ac).flatten
def kY (m:List BA) (h:Hy):Bool:=!h.bn||decide (G h.ac 1∈m)
def mE (vs:List BA) (wide:List Pr) (i:Nat):Bool:=((!Op.bytesLess (G wide i).a.toList (G wide i).b.toList|| !decide ((G wide i).a∈vs))|| !decide ((G wide i).b∈vs))|| (decide ((0:Int)< ((i:Nat):Int))&&decide ((0:Int)<=oL (G wide (((i:Nat):Int)-1).toNat) (G wide i)))
def pr (vs:List BA) (f:Fr):Bool:=
 ((f.aa.all (kY (kF vs f))&&decide ((eN f.aa).length=(kF vs f).length))&& (List.range f.wide.length).all λi=>!mE vs f.wide i)&&decide (f.apart=f.wide.filter (i7 (kF vs f)))
def iH (vs:List BA) (f:Fr):Int:=if pr vs f then 0 else 70
theorem Vh {vs:List BA} {f:Fr} (h:f.aa.all (kY (kF vs f))=false):iH vs f=70:=by simp[iH,pr,h]
theorem Vi {vs:List BA} {f:Fr} (h:¬ (eN f.aa).length=(kF vs f).length):iH vs f=70:=by simp[iH,pr,h]
theorem Vk {vs:List BA} {f:Fr} {k:Nat} (hk:k<f.wide.length) (h:mE vs f.wide k=true):iH vs f=70:=by
 have:((List.range f.wide.length).all λi=>!mE vs f.wide i)=false:=by
  rw[List.all_eq_false]
  exact⟨k,by simpa using hk,by simp[h]⟩
 simp[iH,pr,this]
theorem Vg {vs:List BA} {f:Fr} (h:¬ f.apart=f.wide.filter (i7 (kF vs f))):iH vs f=70:=by simp[iH,pr,h]
theorem Vj {vs:List BA} {f:Fr} (h1:f.aa.all (kY (kF vs f))=true) (h2:(eN f.aa).length=(kF vs f).length) (h3:∀ j,j<f.wide.length->mE vs f.wide j=false) (h4:f.apart=f.wide.filter (i7 (kF vs f))):iH vs f=0:=by
 have:((List.range f.wide.length).all λi=>!mE vs f.wide i)=true:=by
  rw[all_eq_true]
  intro i hi
  simp[h3 i (by simpa using hi)]
 rw[iH,pr,h1,this,decide_eq_true h2,decide_eq_true h4]
 rfl
abbrev bI (f:Fr):List Hy:=f.aa++f.bB
def ng (l:List Hy):List BA:=l.foldl (λs h=>cX s h.ae) []
def iY (l:List Hy):List (BA×BA):=l.foldl (λt h=>if h.bn then cn t (G h.ac 1) (G h.ac 0)else t) []
def m7 (hm:List (BA×Hy)) (l:List Hy):List (BA×Hy):=l.foldl (λm h=>cn m h.ae h) hm
def lA (cs vs fs:List BA) (hm:List (BA×Hy)) (tm:List (BA×BA)) (f:Fr) (i:Nat):Int:=
 i6 cs vs (cX fs f.ae) hm tm (ng ((bI f).take i)) (iY ((bI f).take i)) (G (bI f) i) (decide (((f.aa.length:Nat):Int)<=((i:Nat):Int)))
def su (f:Fr):Bool:=decide ((0:Int)< ((f.proof.length:Nat):Int))&& ((!f.thm||decide ((8000:Int)< ((f.proof.length:Nat):Int)))||f.proof.any λs=>!fy s)
def gQ (cs vs fs:List BA) (hm:List (BA×Hy)) (tm:List (BA×BA)) (f:Fr) (bf:List Hy):Int:=
 if !ga f.ae then 2 else if((aw hm f.ae).isSome|| (decide (f.ae∈cs)||decide (f.ae∈vs)))||decide (f.ae∈fs)then 6
 else if decide ((40:Int)< ((f.aa.length:Nat):Int))||decide ((40:Int)< ((f.bB.length:Nat):Int))then 4
 else if !decide (fZ (bI f).length (lA cs vs fs hm tm f)=0)then fZ (bI f).length (lA cs vs fs hm tm f)
 else if !decide (li cs vs f.ac=0)then li cs vs f.ac
 else if !decide (iH vs f=0)then iH vs f
 else if su f then 2
 else if((bS f.aa).drop (gC (bf.map Hy.ae) ((bS f.aa).map Hy.ae))).any λy=>(aw hm y.ae).isSome then 7 else 0
theorem FM {cs vs fs:List BA} {hm:List (BA×Hy)} {tm:List (BA×BA)} {ls:List BA} {ts:List (BA×BA)} {y:Hy} {dm:Bool} (h:i6 cs vs fs hm tm ls ts y dm=0):ij y dm=false:=by
 cases hf:ij y dm with
 | false=>rfl
 | true=>simp[i6,hf]at h
theorem OD {y:Hy} {dm:Bool} (h:ij y dm=false):y.ac.length<=200:=by
 cases hf:y.bn with
 | true=>have:=iz h hf;omega
 | false=>simp[ij,hf]at h;omega
theorem AX (l:List Hy) (y:Hy):ng (l++[y])=cX (ng l) y.ae:=by simp[ng]
theorem uO (l:List Hy) (y:Hy):iY (l++[y])=if y.bn then cn (iY l) (G y.ac 1) (G y.ac 0)else iY l:=by simp[iY]
theorem Pq (hm:List (BA×Hy)) (l:List Hy) (y:Hy):m7 hm (l++[y])=cn (m7 hm l) y.ae y:=by simp[m7]
theorem Wp:∀(l:List Hy),(∀ y∈l,y.bn=true->y.ac.length=2)->(∀ y∈l,∀ s∈y.ac,s.size<=9223372036854775807)->∀ q∈(iY l).map (·.1),q.size<=9223372036854775807:=by
 intro l
 rw[<-List.reverse_reverse l]
 induction l.reverse with
 | nil=>simp[iY]
 | cons y m ih=>
  intro h1 h2 q hq
  rw[List.reverse_cons]at h1 h2 hq
  rw[uO]at hq
  have ih':=ih (λz hz=>h1 z (by simp at hz ⊢;exact .inl hz)) (λz hz=>h2 z (by simp at hz ⊢;exact .inl hz))
  by_cases hf:y.bn=true
  ·rw[if_pos hf,Gz]at hq
   split at hq
   ·exact ih' q hq
   ·rcases mem_append.1 hq with h | h
    ·exact ih' q h
    ·rw[mem_singleton.1 h]
     exact h2 y yz _ (aE (by have:=h1 y yz hf;omega))
  ·rw[if_neg hf]at hq;exact ih' q hq
def vP (tm ts:List (BA×BA)):List (BA×BA):=ts.foldr (λp m=>cn m p.1 p.2) tm
theorem DN (tm:List (BA×BA)):∀(ts:List (BA×BA)) (k:BA),aw (vP tm ts) k=if(aw ts k).isSome then aw ts k else aw tm k
 | [],k=>by simp[vP,pi]
 | p::ts,k=>by
  have ih:=DN tm ts k
  simp only[vP,List.foldr_cons,k8,mg]at ih ⊢
  by_cases h:k=p.1
  ·simp[h]
  ·simp only[if_neg h];exact ih
theorem pO:∀ x:List UInt8,Op.bytesLess x x=false
 | []=>rfl
 | a::x=>by simp[Op.bytesLess,pO x]
theorem pP:∀ x y z:List UInt8,Op.bytesLess x y=true->Op.bytesLess y z=true->Op.bytesLess x z=true
 | _,_,[],_,h=>by cases ‹List UInt8› <;>simp[Op.bytesLess]at h
 | x,[],_::_,h,_=>by cases x<;>simp[Op.bytesLess]at h
 | [],_::_,_::_,_,_=>rfl
 | a::x,b::y,c::z,h1,h2=>by
  simp only[Op.bytesLess,Bool.or_eq_true,Bool.and_eq_true,decide_eq_true_eq,beq_iff_eq]at h1 h2 ⊢
  rcases h1 with h1 | ⟨rfl,h1⟩
  ·rcases h2 with h2 | ⟨rfl,h2⟩
   ·exact Or.inl (UInt8.lt_trans h1 h2)
   ·exact Or.inl h1
  ·rcases h2 with h2 | ⟨rfl,h2⟩
   ·exact Or.inl h2
   ·exact Or.inr ⟨rfl,pP x y z h1 h2⟩
theorem rl:∀ x y:List UInt8,Op.bytesLess x y=false->Op.bytesLess y x=false->x=y
 | [],[],_,_=>rfl
 | [],_::_,h,_=>by simp[Op.bytesLess]at h
 | _::_,[],_,h=>by simp[Op.bytesLess]at h
 | a::x,b::y,h1,h2=>by
  simp only[Op.bytesLess,Bool.or_eq_false_iff,Bool.and_eq_false_iff,decide_eq_false_iff_not]at h1 h2
  have hab:a=b:=by
   have h3:=h1.1
   have h4:=h2.1
   rw[UInt8.lt_iff_toNat_lt]at h3 h4
   exact UInt8.toNat_inj.1 oz
  subst hab
  have h3:=h1.2
  have h4:=h2.2
  simp at h3 h4
  rw[rl x y h3 h4]
theorem toList_inj {a b:BA} (h:a.toList=b.toList):a=b:=by
 rw[ByteArray.toList_eq,ByteArray.toList_eq]at h
 exact ByteArray.ext (Array.toList_inj.1 h)
theorem rX {x y z:Pr} (h1:cI x y=true) (h2:cI y z=true):cI x z=true:=by
 simp only[cI,Bool.or_eq_true,Bool.and_eq_true,decide_eq_true_eq]at h1 h2 ⊢
 rcases h1 with h1 | ⟨e1,h1⟩
 ·rcases h2 with h2 | ⟨e2,h2⟩
  ·exact .inl (pP _ _ _ h1 h2)
  ·exact .inl (e2▸h1)
 ·rcases h2 with h2 | ⟨e2,h2⟩
  ·exact .inl (e1▸h2)
  ·exact .inr ⟨e1.trans e2,pP _ _ _ h1 h2⟩
theorem Gg {x y:Pr} (h1:cI x y=false) (h2:iq x y=false):cI y x=true:=by
 simp only[cI,Bool.or_eq_false_iff,Bool.and_eq_false_iff,decide_eq_false_iff_not]at h1
 simp only[cI,Bool.or_eq_true,Bool.and_eq_true,decide_eq_true_eq]
 by_cases ha:x.a=y.a
 ·right
  refine⟨ha.symm,?_⟩
  have h3:=h1.2.resolve_left (λh=>h ha)
  cases hb:Op.bytesLess y.b.toList x.b.toList with
  | true=>rfl
  | false=>simp[iq,ha,toList_inj (rl _ _ h3 hb)]at h2
 ·left
  cases hb:Op.bytesLess y.a.toList x.a.toList with
  | true=>rfl
  | false=>exact absurd (toList_inj (rl _ _ h1.1 hb)) ha
def jf (l:List Pr):Prop:=l.Pairwise λx y=>cI x y=true
theorem HG:∀ {l:List Pr} {p x:Pr},x∈fH l p->x∈l∨x=p
 | [],p,x,h=>by simpa [fH]using h
 | y::l,p,x,h=>by
  simp only[fH]at h
  split at h
  ·rcases mem_cons.1 h with rfl | h
   ·exact .inl yz
   ·rcases HG h with h | h
    ·exact .inl (by simp[h])
    ·exact .inr h
  ·split at h
   ·exact .inl h
   ·rcases mem_cons.1 h with rfl | h
    ·exact .inr rfl
    ·exact .inl h
theorem HH:∀ {l:List Pr} {p:Pr},jf l->jf (fH l p)
 | [],_,_=>by simp[fH,jf]
 | y::l,p,h=>by
  have h':=List.pairwise_cons.1 h
  simp only[fH]
  by_cases h1:cI y p=true
  ·rw[if_pos h1]
   refine List.pairwise_cons.2 ⟨λx Z=>?_,HH h'.2⟩
   rcases HG Z with Z | rfl
   ·exact h'.1 x Z
   ·exact h1
  ·rw[if_neg h1]
   by_cases h2:iq y p=true
   ·rw[if_pos h2];exact h
   ·rw[if_neg h2]
    have h3:=Gg (by simpa using h1) (by simpa using h2)
    refine List.pairwise_cons.2 ⟨λx Z=>?_,h⟩
    rcases mem_cons.1 Z with rfl | Z
    ·exact h3
    ·exact rX h3 (h'.1 x Z)
theorem EL:∀(w:List Pr) {a:List Pr},jf a->jf (w.foldl fH a)
 | [],_,h=>h
 | _::w,_,h=>EL w (HH h)
theorem HE:∀ {l:List Pr} {p:Pr},(∀ x∈l,cI x p=true)->fH l p=l++[p]
 | [],_,_=>rfl
 | y::l,p,h=>by
  have ih:fH l p=l++[p]:=HE λx Z=>h x (List.mem_cons_of_mem _ Z)
  simp only[fH,h y yz,if_true,ih,List.cons_append]
theorem EK:∀(w a:List Pr),jf (a++w)->w.foldl fH a=a++w
 | [],a,_=>by simp
 | p::w,a,h=>by
  have h1:∀ x∈a,cI x p=true:=λx Z=>(List.pairwise_append.1 h).2.2 x Z p yz
  rw[foldl_cons,HE h1,EK w (a++[p]) (by simpa using h)]
  simp
theorem FY (w:List Pr):w=nc w []↔jf w:=by
 unfold nc
 rw[List.append_nil]
 constructor
 ·intro h
  rw[h]
  exact EL w .nil
 ·intro h
  rw[EK w [] (by simpa using h)]
  simp
theorem VJ {w:List Pr} (h:∀ i,0<i->i<w.length->cI (G w (i-1)) (G w i)=true):jf w:=by
 have key:∀ d i,i+1+d<w.length->cI (G w i) (G w (i+1+d))=true:=by
  intro d
  induction d with
  | zero=>intro i hi;simpa using h (i+1) oz oz
  | succ d ih=>
   intro i hi
   refine rX (ih i oz) ?_
   have:=h (i+1+d+1) oz oz
   rw[show i+1+d+1-1=i+1+d by omega]at this
   exact this
 rw[jf,List.pairwise_iff_getElem]
 intro i j hi hj gR
 have:=key (j-i-1) i oz
 rw[show i+1+(j-i-1)=j by omega]at this
 rwa [cF hi,cF hj]at this
theorem J9 {vs:List BA} {d:Db} (hv:vs=d.vars) (w:List Pr):((List.range w.length).all λi=>!mE vs w i)=(!w.any (pM d)&&decide (w=nc w [])):=by
 subst hv
 have hk:∀ i,0<i->(0<=oL (G w (((i:Nat):Int)-1).toNat) (G w i)↔cI (G w (i-1)) (G w i)=false):=λi h=>by
  rw[show(((i:Nat):Int)-1).toNat=i-1 by omega,<-LH,decide_eq_false_iff_not];omega
 rw[Bool.eq_iff_iff]
 simp only[all_eq_true,List.mem_range,Bool.not_eq_true',Bool.and_eq_true,List.any_eq_false,decide_eq_true_eq,FY]
 constructor
 ·intro h
  refine⟨λp hp=>?_,VJ λi h1 h2=>?_⟩
  ·obtain⟨i,hi,rfl⟩:=ej hp
   have:=h i hi
   simp only[mE,Bool.or_eq_false_iff]at this
   simp only[pM,Bool.or_eq_true,not_or,Bool.not_eq_true]
   exact this.1
  ·have:=h i h2
   simp only[mE,Bool.or_eq_false_iff,Bool.and_eq_false_iff,decide_eq_false_iff_not]at this
   have h3:=this.2.resolve_left oz
   rw[hk i h1]at h3
   simpa using h3
 ·rintro⟨h1,h2⟩ i hi
  have h3:=h1 _ (aE hi)
  simp only[pM,Bool.or_eq_true,not_or,Bool.not_eq_true]at h3
  simp only[mE,Bool.or_eq_false_iff,Bool.and_eq_false_iff,decide_eq_false_iff_not]
  refine⟨h3,?_⟩
  by_cases h0:0<i
  ·right
   rw[hk i h0]
   have:=List.pairwise_iff_getElem.1 h2 (i-1) i oz hi oz
   rw[cF hi,cF oz,this];decide
  ·left;omega

structure ll (l:List Hy) (tm:List (BA×BA)):Prop where
 hit:∀ x∈l,∀ v,gE x [v]=true->aw tm v=some (G x.ac 0)
 got:∀ v t,aw tm v=some t->∃ x∈l,gE x [v]=true/\G x.ac 0=t
structure sM (l:List Hy) (hm:List (BA×Hy)):Prop where
 hit:∀ x∈l,aw hm x.ae=some x
 got:∀ s x,aw hm s=some x->x∈l/\x.ae=s
structure nB (d:Db) (k:Nat) (fs:List BA) (hm:List (BA×Hy)) (tm:List (BA×BA)) (bf:List Hy):Prop where
 fr:∀ s,s∈fs↔fu d k s=true
 hy:sM (jd d k) hm
 ty:ll (jd d k) tm
 bf:bf.map Hy.ae=kg d k
theorem Qr (d:Db):nB d 0 [] [] [] []:=⟨λs=>by simp[fu],⟨λx Z=>by simp[GW]at Z,λs x h=>by simp[pi]at h⟩,⟨λx Z=>by simp[GW]at Z,λs x h=>by simp[pi]at h⟩,by simp[kg]⟩
theorem uk {x:Hy} {v:BA}:gE x [v]=true↔x.bn=true/\x.ac.length=2/\G x.ac 1=v:=by
 simp only[gE,Bool.and_eq_true,decide_eq_true_eq,mem_singleton]
 constructor
 ·rintro⟨⟨h1,h2⟩,h3⟩;exact⟨h1,oz,h3⟩
 ·rintro⟨h1,h2,h3⟩;exact⟨⟨h1,oz⟩,h3⟩
theorem te {l:List BA} (h:l.length=2):l.drop 1=[G l 1]:=by
 match l,h with
 | [a,b],_=>rfl
theorem FL {d:Db} {k:Nat} {s:BA}:iQ d k s=(jd d k).any λx=>decide (x.ae=s):=by
 simp only[iQ,jd,AF]
 induction d.ab.take k with
 | nil=>rfl
 | cons f l ih=>rw[List.any_cons,ih,List.flatMap_cons,List.any_append (xs:=f.aa++f.bB)]
section
variable {d:Db} {k:Nat} {fs:List BA} {hm:List (BA×Hy)} {tm:List (BA×BA)} {bf:List Hy}
theorem sM.some {l:List Hy} (h:sM l hm) (s:BA):(aw hm s).isSome=l.any λx=>decide (x.ae=s):=by
 rw[Bool.eq_iff_iff,any_eq_true]
 constructor
 ·intro e
  obtain⟨x,Z⟩:=Option.isSome_iff_exists.1 e
  have:=h.got s x Z
  exact⟨x,this.1,by simpa using this.2⟩
 ·rintro⟨x,Z,e⟩
  simp only[decide_eq_true_eq]at e
  rw[<-e,h.hit x Z];rfl
theorem ll.bad {l:List Hy} (h:ll l tm) (y:Hy) (h2:y.ac.length=2):((aw tm (G y.ac 1)).isSome&& !decide ((aw tm (G y.ac 1)).getD default=G y.ac 0))=l.any (jJ y):=by
 rw[Bool.eq_iff_iff,any_eq_true]
 unfold jJ
 rw[te h2]
 constructor
 ·intro e
  simp only[Bool.and_eq_true,Bool.not_eq_true',decide_eq_false_iff_not]at e
  obtain⟨t,ht⟩:=Option.isSome_iff_exists.1 e.1
  obtain⟨x,Z,h3,h4⟩:=h.got _ _ ht
  refine⟨x,Z,?_⟩
  rw[ht]at e
  simp only[Option.getD_some]at e
  simp[h3,h4,e.2]
 ·rintro⟨x,Z,e⟩
  simp only[Bool.and_eq_true,Bool.not_eq_true',decide_eq_false_iff_not]at e
  rw[h.hit x Z _ e.1]
  simp[e.2]
theorem ll.have {l:List Hy} (h:ll l tm) (y:Hy) (h2:y.ac.length=2):(aw tm (G y.ac 1)).isSome=l.any (ik y):=by
 rw[Bool.eq_iff_iff,any_eq_true]
 unfold ik
 rw[te h2]
 constructor
 ·intro e
  obtain⟨t,ht⟩:=Option.isSome_iff_exists.1 e
  obtain⟨x,Z,h3,_⟩:=h.got _ _ ht
  exact⟨x,Z,h3⟩
 ·rintro⟨x,Z,e⟩
  rw[h.hit x Z _ e];rfl
theorem sM.bad {l:List Hy} (h:sM l hm) (y:Hy):((aw hm y.ae).isSome&& !k7 ((aw hm y.ae).getD default) y)=l.any (fU y):=by
 rw[Bool.eq_iff_iff,any_eq_true]
 unfold fU
 constructor
 ·intro e
  simp only[Bool.and_eq_true,Bool.not_eq_true']at e
  obtain⟨x,Z⟩:=Option.isSome_iff_exists.1 e.1
  have:=h.got _ _ Z
  rw[Z]at e
  exact⟨x,this.1,by simpa [this.2]using e.2⟩
 ·rintro⟨x,Z,e⟩
  simp only[Bool.and_eq_true,Bool.not_eq_true',decide_eq_true_eq]at e
  rw[<-e.1,h.hit x Z]
  simpa using e.2
theorem QR (l:List Hy) (s:BA):s∈ng l↔ ∃ x∈l,x.ae=s:=by
 rw[<-List.reverse_reverse l]
 induction l.reverse with
 | nil=>simp[ng]
 | cons y m ih=>
  rw[List.reverse_cons,AX,A7,ih]
  simp only[mem_append,mem_singleton]
  constructor
  ·rintro(⟨x,h,e⟩ | rfl)
   ·exact⟨x,.inl h,e⟩
   ·exact⟨y,.inr rfl,rfl⟩
  ·rintro⟨x,h | rfl,e⟩
   ·exact .inl ⟨x,h,e⟩
   ·exact .inr e.symm
theorem Ji {l:List Hy} {ts:List (BA×BA)} {y:Hy} (h:ll l ts) (h2:y.bn=true->y.ac.length=2) (h3:y.bn=true->l.any (ik y)=false):ll (l++[y]) (if y.bn then cn ts (G y.ac 1) (G y.ac 0)else ts):=by
 by_cases hf:y.bn=true
 ·rw[if_pos hf]
  have h2':=h2 hf
  have h3':=h3 hf
  rw[List.any_eq_false]at h3'
  refine⟨λx Z v hv=>?_,λv t hv=>?_⟩
  ·rw[k8]
   rcases mem_append.1 Z with Z | Z
   ·have:¬ v=G y.ac 1:=λe=>h3' x Z (by rw[ik,te h2',<-e];exact hv)
    rw[if_neg this]
    exact h.hit x Z v hv
   ·rw[mem_singleton.1 Z]at hv ⊢
    rw[if_pos (uk.1 hv).2.2.symm]
  ·rw[k8]at hv
   split at hv
   ·rename_i e
    refine⟨y,by simp,uk.2 ⟨hf,h2',e.symm⟩,by simpa using hv⟩
   ·obtain⟨x,Z,h4⟩:=h.got v t hv
    exact⟨x,by simp[Z],h4⟩
 ·rw[if_neg hf]
  refine⟨λx Z v hv=>?_,λv t hv=>?_⟩
  ·rcases mem_append.1 Z with Z | Z
   ·exact h.hit x Z v hv
   ·rw[mem_singleton.1 Z]at hv
    exact absurd (uk.1 hv).1 hf
  ·obtain⟨x,Z,h4⟩:=h.got v t hv
   exact⟨x,by simp[Z],h4⟩
theorem An:∀(l:List Hy) (hm:List (BA×Hy)) (x:Hy),(∀ y∈l,y.ae=x.ae->y=x)->(x∈l∨aw hm x.ae=some x)->aw (m7 hm l) x.ae=some x
 | [],_,_,_,h=>by simpa [m7]using h
 | y::l,hm,x,h,h1=>by
  show aw (m7 (cn hm y.ae y) l) x.ae=_
  refine An l _ x (λz hz=>h z (by simp[hz])) ?_
  by_cases Z:x∈l
  ·exact .inl Z
  ·right
   rw[k8]
   by_cases e:x.ae=y.ae
   ·rw[if_pos e,h y yz e.symm]
   ·rw[if_neg e]
    refine h1.resolve_left λhm'=>?_
    rcases mem_cons.1 hm' with rfl | h'
    ·exact e rfl
    ·exact Z h'
theorem Fv:∀(l:List Hy) (hm:List (BA×Hy)) (s:BA) (x:Hy),aw (m7 hm l) s=some x->(x∈l/\x.ae=s)∨aw hm s=some x
 | [],_,_,_,h=>.inr h
 | y::l,hm,s,x,h=>by
  rcases Fv l (cn hm y.ae y) s x h with⟨h1,h2⟩ | h1
  ·exact .inl ⟨by simp[h1],h2⟩
  ·rw[k8]at h1
   split at h1
   ·rename_i e
    have:y=x:=by simpa using h1
    subst this
    exact .inl ⟨by simp,e.symm⟩
   ·exact .inr h1
theorem Gy (g:Nat->Int):∀ n,(∀ j,j<n->g j=0)∨ ∃ i,(i<n/\g i≠0)/\∀ j,j<i->g j=0
 | 0=>.inl λ_ h=>absurd h (Nat.not_lt_zero _)
 | n+1=>by
  rcases Gy g n with h | ⟨i,⟨h1,h2⟩,h3⟩
  ·by_cases e:g n=0
   ·exact .inl (cB h e)
   ·exact .inr ⟨n,⟨oz,e⟩,h⟩
  ·exact .inr ⟨i,⟨oz,h2⟩,h3⟩
theorem Nn {n:Nat} {g h:Nat->Int} (hh:∀ i,i<n->(∀ j,j<i->g j=0)->g i=h i):fZ n g=fZ n h:=by
 by_cases e:∃ i,i<n/\g i≠0
 ·obtain⟨i,hi,rO⟩:∃ i,(i<n/\g i≠0)/\∀ j,j<i->g j=0:=by
   rcases Gy g n with h0 | h0
   ·obtain⟨i,hi,hn⟩:=e
    exact absurd (h0 i hi) hn
   ·exact h0
  have h0:∀ j,j<i->h j=0:=λj hj=>by rw[<-hh j oz λq hq=>rO q oz];exact rO j hj
  have h1:=hh i hi.1 rO
  rw[jj hi.1 rO hi.2,jj hi.1 h0 (by rw[<-h1];exact hi.2),h1]
 ·have h0:∀ j,j<n->g j=0:=λj hj=>Classical.byContradiction λh=>e ⟨j,hj,h⟩
  rw[mP h0,mP λj hj=>by rw[<-hh j hj λq hq=>h0 q oz];exact h0 j hj]
end
structure Bd where
 var:BA
 ac:List BA
instance instInhBd:Inhabited Bd:=⟨⟨ByteArray.empty,[]⟩⟩
def fj (b:Bd):List CD:=[.lit (.string b.var),ai b.ac]
def fq (l:List Bd):CD:=.sl (l.map fj)
abbrev BM:=List (BA×List BA)
def nI (M:BM) (b:Bd):BM:=if(aw M b.var).isSome then M else cn M b.var b.ac
def az (l:List Bd):BM:=l.foldl nI []
def bp (M:BM) (s:BA):List BA:=match aw M s with
 | some t=>t
 | none=>[s]
def bA (M:BM) (ac:List BA):List BA:=ac.flatMap (bp M)
def ca (M:BM) (ac:List BA) (most:Nat):Bool:=decide ((bA M ac).length<=most)
def lW (pattern:List BA) (l:List Bd) (ac:List BA):Bool:=decide (bA (az l) pattern=ac)
def kH (set:List BA) (out:List BA) (s:BA):List BA:=if s∈set/\s∉out then out++[s]else out
def c9 (ac set:List BA):List BA:=ac.foldl (kH set) []
def cZ (l:List BA):List BA:=l.foldl cX []
theorem C9 (l:List Bd) (b:Bd):az (l++[b])=nI (az l) b:=by simp[az]
theorem vj (M:BM) (a b:List BA):bA M (a++b)=bA M a++bA M b:=by simp[bA]
theorem J0 (M:BM) (s:BA):bA M [s]=bp M s:=by simp[bA]
theorem kd {M:BM} {ac:List BA} {j:Nat} (h:j<ac.length):bA M (ac.take (j+1))=bA M (ac.take j)++bp M (G ac j):=by
 rw[dF h,vj,J0]
theorem pK (M:BM) (ac:List BA) (j:Nat):(bA M (ac.take j)).length<=(bA M ac).length:=by
 rw[<-take_append_drop j ac,vj,take_append_drop]
 simp
theorem Rw (set ac:List BA) (s:BA):c9 (ac++[s]) set=kH set (c9 ac set) s:=by simp[c9]
theorem xi {set ac:List BA} {j:Nat} (h:j<ac.length):c9 (ac.take (j+1)) set=kH set (c9 (ac.take j) set) (G ac j):=by
 rw[dF h,Rw]
theorem QX (l:List BA) (s:BA):cZ (l++[s])=cX (cZ l) s:=by simp[cZ]
theorem QY {l:List BA} {j:Nat} (h:j<l.length):cZ (l.take (j+1))=cX (cZ (l.take j)) (G l j):=by
 rw[dF h,QX]
theorem Da {l:List Bd} {j:Nat} (h:j<l.length):az (l.take (j+1))=nI (az (l.take j)) (G l j):=by
 rw[dF h,C9]
theorem Rc {l:List BA} {x:BA}:x∈cZ l↔x∈l:=by
 have key:∀(l out:List BA),x∈l.foldl cX out↔x∈out∨x∈l:=by
  intro l
  induction l with
  | nil=>intro out;simp
  | cons s r ih=>
   intro out
   rw[foldl_cons,ih,A7,mem_cons]
   constructor
   ·rintro((h | h) | h)
    ·exact .inl h
    ·exact .inr (.inl h)
    ·exact .inr (.inr h)
   ·rintro(h | h | h)
    ·exact .inl (.inl h)
    ·exact .inl (.inr h)
    ·exact .inr h
 have:=key l []
 simpa [cZ]using this
def dS (x y:BA):Int:=if Op.bytesLess x.toList y.toList then-1 else if x=y then 0 else 1
def iL (p q:Pr):Int:=if dS p.a q.a=0 then dS p.b q.b else dS p.a q.a
def k9 (l:List Int):Int:=(l.find? λz=>decide (¬ z=0)).getD 0
theorem GU {l:List Int} {k:Nat} (hk:k<l.length) (h1:∀ j,j<k->G l j=0) (h2:¬ G l k=0):k9 l=G l k:=by
 induction l generalizing k with
 | nil=>simp at hk
 | cons x r ih=>
  cases k with
  | zero=>
   have h3:¬ x=0:=h2
   show((x::r).find? _).getD 0=x
   rw[List.find?_cons_of_pos (by simpa using h3)]
   rfl
  | succ k=>
   have h3:x=0:=h1 0 oz
   have h4:=ih (k:=k) (by simpa using hk) (λj hj=>by have:=h1 (j+1) oz;simpa [G]using this) (by simpa [G]using h2)
   have h5:k9 (x::r)=k9 r:=by
    show((x::r).find? _).getD 0=(r.find? _).getD 0
    rw[List.find?_cons_of_neg (by simpa using h3)]
   rw[h5,h4]
   simp[G]
theorem GV {l:List Int} (h1:∀ j,j<l.length->G l j=0):k9 l=0:=by
 have:l.find? (λz=>decide (¬ z=0))=none:=List.find?_eq_none.2 λx Z=>by
  obtain⟨j,hj,rfl⟩:=ej Z
  simpa using h1 j hj
 rw[k9,this]
 rfl
theorem DL (p q:Pr):k9 [dS p.a q.a,dS p.b q.b]=iL p q:=by
 unfold iL k9
 by_cases h:dS p.a q.a=0
 ·by_cases h2:dS p.b q.b=0<;>simp[h,h2]
 ·simp[h]
def da (p:Pr):Pr:=if Op.bytesLess p.b.toList p.a.toList then⟨p.b,p.a⟩else p
def fi (l:List Bd) (apart:List Pr) (vars:List BA):List Pr:=
 apart.flatMap λp=>(c9 (bp (az l) p.a) (cZ vars)).flatMap λx=>(c9 (bp (az l) p.b) (cZ vars)).map λy=>da ⟨x,y⟩
def gM (wide:List Pr) (p:Pr):Bool:=!decide (p∈wide.map da)||decide (p.a=p.b)
def jS (l:List Bd) (apart:List Pr) (vars:List BA) (wide:List Pr):Option Pr:=(fi l apart vars).find? (gM wide)
def fJ (l:List Bd) (apart:List Pr) (vars:List BA) (wide:List Pr):Pr:=(jS l apart vars wide).getD ⟨⟨#[]⟩,⟨#[]⟩⟩
def eQ (l:List Bd) (apart:List Pr) (vars:List BA) (wide:List Pr):Bool:=(jS l apart vars wide).isSome
theorem Rg {α κ:Type} [DecidableEq κ] (L:List (κ×α)) (k k':κ) (v:α):aw (cn L k v) k'=if k'=k then some v else aw L k':=by
 induction L with
 | nil=>by_cases h:k'=k<;>simp[cn,aw,h]
 | cons p L ih=>
  unfold cn
  by_cases h:k=p.1
  ·rw[if_pos h]
   by_cases h2:k'=k
   ·simp[aw,h2,h]
   ·have:¬ k'=p.1:=λe=>h2 (e.trans h.symm)
    simp[aw,h2,this]
  ·rw[if_neg h]
   by_cases h2:k'=p.1
   ·have:¬ p.1=k:=λe=>h e.symm
    simp[aw,h2,this]
   ·have e1:aw (p::cn L k v) k'=aw (cn L k v) k':=by simp[aw,h2]
    have e2:aw (p::L) k'=aw L k':=by simp[aw,h2]
    rw[e1,e2,ih]
theorem Rf (M:BM) (b:Bd) (s:BA):aw (nI M b) s=match aw M s with
 | some t=>some t
 | none=>if s=b.var then some b.ac else none:=by
 unfold nI
 split
 ·rename_i h
  cases h2:aw M s with
  | some t=>rfl
  | none=>
   have:¬ s=b.var:=λe=>by rw[<-e,h2]at h;cases h
   simp[this]
 ·rename_i h
  rw[Rg]
  by_cases e:s=b.var
  ·subst e
   have:aw M b.var=none:=by simpa using h
   simp[this]
  ·simp only[e,if_false]
   cases aw M s<;>rfl
theorem qx (l:List Bd) (s:BA):aw (az l) s=(l.find? λb=>decide (b.var=s)).map Bd.ac:=by
 have key:∀(l:List Bd) (M:BM),aw (l.foldl nI M) s=match aw M s with
  | some t=>some t
  | none=>(l.find? λb=>decide (b.var=s)).map Bd.ac:=by
  intro l
  induction l with
  | nil=>intro M;cases h:aw M s<;>simp[h]
  | cons b l ih=>
   intro M
   rw[foldl_cons,ih,Rf]
   cases h:aw M s with
   | some t=>rfl
   | none=>
    by_cases e:s=b.var
    ·subst e;simp
    ·have e':¬ b.var=s:=λh=>e h.symm
     simp[e,e']
 exact key l []
theorem qo {l:List Bd} {m:Nat} (hm:1<=m) (hl:∀ b∈l,b.ac.length<=m) (s:BA):(bp (az l) s).length<=m:=by
 unfold bp
 rw[qx]
 cases h:l.find? λb=>decide (b.var=s)with
 | none=>simpa using hm
 | some b=>exact hl b (List.mem_of_find?_eq_some h)
theorem Nu {M:BM} {pattern ac:List BA} {k j p:Nat} (hk:k<pattern.length) (hj:j< (bp M (G pattern k)).length) (h:ac.take p=bA M (pattern.take k)++(bp M (G pattern k)).take j) (hp:p<=ac.length)
 (hb:p=ac.length∨ ¬ G ac p=G (bp M (G pattern k)) j):¬ bA M pattern=ac:=by
 intro e
 have e1:bA M pattern=bA M (pattern.take k)++bp M (G pattern k)++bA M (pattern.drop (k+1)):=by
  rw[<-kd hk,<-vj,take_append_drop]
 have hl:p=(bA M (pattern.take k)).length+j:=by
  have:=congrArg List.length h
  rw[length_take,length_append,length_take]at this
  omega
 have hlen:(bA M pattern).length=ac.length:=by rw[e]
 rw[e1,length_append,length_append]at hlen
 rcases hb with hb | hb
 ·omega
 ·apply hb
  have dD:ac[p]?=some (G (bp M (G pattern k)) j):=by
   rw[<-e,e1,List.append_assoc,List.getElem?_append_right oz,List.getElem?_append_left oz]
   rw[hl,Nat.add_sub_cancel_left]
   exact mU hj
  rw[G,getD_eq_getElem?_getD,dD]
  rfl
theorem En {M:BM} {pattern ac:List BA} {p:Nat} (h:ac.take p=bA M pattern) (hp:p<=ac.length):decide (((p:Nat):Int)=((ac.length:Nat):Int))=decide (bA M pattern=ac):=by
 congr 1
 apply propext
 constructor
 ·intro e
  rw[<-h,List.take_of_length_le oz]
 ·intro e
  have:=congrArg List.length h
  rw[e,length_take]at this
  omega
end Go.Proofs.YtdfadihhfppjaaaGreatDoor
