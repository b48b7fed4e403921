/-
  Part of the proof that MinimizeApplies returns true. Conditions: none.
-/
import Derived.Test.YtdfadihhfppjaaaGreatDoorBDM
import Derived.Lib.Bytealg
open List (all_eq_true any_eq_true foldl_cons getD_eq_getElem?_getD length_append length_take mem_append mem_cons mem_singleton take_append_drop)
namespace Go.Proofs.YtdfadihhfppjaaaGreatDoor
def cH {α:Type} (p:α->Bool) (xs:List α):Int:=match xs.findIdx? p with | some i=>i | none=> -1
theorem jb {α:Type} [Inhabited α] {p:α->Bool} {xs:List α} {k:Nat} (h:k<xs.length) (hp:p (G xs k)=true) (hn:∀ j,j<k->p (G xs j)=false):cH p xs=(k:Int):=by
 have:xs.findIdx? p=some k:=by
  rw[List.findIdx?_eq_some_iff_getElem]
  exact⟨h,by rw[<-cV h];exact hp,λj hj=>by rw[<-cV (Nat.lt_trans hj h)];simpa using hn j hj⟩
 simp[cH,this]
theorem jc {α:Type} [Inhabited α] {p:α->Bool} {xs:List α} (hn:∀ j,j<xs.length->p (G xs j)=false):cH p xs= -1:=by
 have:xs.findIdx? p=none:=by
  rw[List.findIdx?_eq_none_iff]
  intro x Z
  obtain⟨k,hk,rfl⟩:=ee Z
  exact hn k hk
 simp[cH,this]
theorem p9 {α:Type} (p:α->Bool) (xs:List α):decide (0<=cH p xs)=xs.any p:=by
 unfold cH
 cases h:xs.findIdx? p with
 | none=>
  rw[List.findIdx?_eq_none_iff]at h
  symm
  simpa using h
 | some i=>
  rw[List.findIdx?_eq_some_iff_getElem]at h
  obtain⟨hi,hp,_⟩:=h
  symm
  simp only[Int.natCast_nonneg,decide_true,any_eq_true]
  exact⟨_,List.getElem_mem hi,hp⟩
structure fu {α:Type} (p:α->Bool) (xs ys:List α) (i j:Nat):Prop where
 le:i<=j
 lt:j<=xs.length
 len:ys.length=xs.length
 got:ys.take i=(xs.take j).filter λx=>!p x
 rest:ys.drop j=xs.drop j
section
variable {α:Type} [Inhabited α] {p:α->Bool} {xs ys:List α} {i j:Nat}
theorem oQ (h:¬ cH p xs= -1):0<=cH p xs/\(cH p xs).toNat<xs.length/\p (G xs (cH p xs).toNat)=true/\∀ j,j< (cH p xs).toNat->p (G xs j)=false:=by
 unfold cH at h ⊢
 cases hf:xs.findIdx? p with
 | none=>rw[hf]at h;exact absurd rfl h
 | some i=>
  rw[List.findIdx?_eq_some_iff_getElem]at hf
  obtain⟨h1,h2,h3⟩:=hf
  simp only[Int.natCast_nonneg,Int.toNat_natCast,true_and]
  exact⟨h1,by rw[cV h1];exact h2,λj hj=>by rw[cV (Nat.lt_trans hj h1)];simpa using h3 j hj⟩
theorem DW {xs:List α} {q:α->Bool} (h:∀ j,j<xs.length->q (G xs j)=true):xs.filter q=xs:=by
 rw[List.filter_eq_self]
 intro x Z
 obtain⟨k,hk,rfl⟩:=ee Z
 exact h k hk
theorem fu.none (h:cH p xs= -1):xs=xs.filter λx=>!p x:=by
 symm
 refine DW λj hj=>?_
 unfold cH at h
 cases hf:xs.findIdx? p with
 | none=>
  rw[List.findIdx?_eq_none_iff]at hf
  simp[hf _ (aC hj)]
 | some i=>rw[hf]at h;simp at h
theorem fu.init (h:¬ cH p xs= -1):fu p xs xs (cH p xs).toNat ((cH p xs).toNat+1):=by
 obtain⟨_,h1,h2,h3⟩:=oQ h
 refine⟨oz,oz,rfl,?_,rfl⟩
 rw[dG h1,List.filter_append,DW (xs:=xs.take _) λj hj=>?_]
 · simp[h2]
 · have hj':j< (cH p xs).toNat:=by simp at hj;omega
   have:G (xs.take (cH p xs).toNat) j=G xs j:=by simp[G,getD_eq_getElem?_getD,hj']
   rw[this,h3 j hj'];rfl
theorem fu.at (h:fu p xs ys i j) (_:j<xs.length):G ys j=G xs j:=by
 have:=congrArg (λl=>l[0]?) h.rest
 simp only[List.getElem?_drop,Nat.add_zero]at this
 simp[G,getD_eq_getElem?_getD,this]
theorem fu.keep (h:fu p xs ys i j) (hj:j<xs.length) (hp:p (G ys j)=false):fu p xs (ys.set i (G ys j)) (i+1) (j+1):=by
 have hle:=h.le;have hlen:=h.len
 refine⟨oz,oz,by simpa using h.len,?_,?_⟩
 · rw[List.take_succ_eq_append_getElem (by simp;omega),List.take_set_of_le (Nat.le_refl i),h.got,dG hj,List.filter_append]
   rw[h.at hj]at hp ⊢
   simp[hp]
 · rw[List.drop_set_of_lt oz]
   have:=congrArg (λl=>l.drop 1) h.rest
   simpa [List.drop_drop]using this
theorem fu.skip (h:fu p xs ys i j) (hj:j<xs.length) (hp:p (G ys j)=true):fu p xs ys i (j+1):=by
 have hle:=h.le
 refine⟨oz,oz,h.len,?_,?_⟩
 · rw[h.got,dG hj,List.filter_append]
   rw[h.at hj]at hp
   simp[hp]
 · have:=congrArg (λl=>l.drop 1) h.rest
   simpa [List.drop_drop]using this
omit [Inhabited α]in
theorem fu.fin (h:fu p xs ys i j) (hj:xs.length<=j):ys.take i=xs.filter λx=>!p x:=by
 rw[h.got,List.take_of_length_le hj]
end
theorem vX {α β:Type} [Inhabited α] [Inhabited β] {f:α->β} {xs:List α} {k:Nat} (h:k<xs.length):G (xs.map f) k=f (G xs k):=by rw[cV (by simpa using h),cV h];simp

abbrev oB (a b:BA):Int:=Lib.compareBytes a.data.toList b.data.toList
def oC (x y:Pr):Int:=if oB x.a y.a=0 then oB x.b y.b else oB x.a y.a
theorem yR:∀(a b:List UInt8),Lib.compareBytes a b=0↔a=b
 | [],[]=>by simp[Lib.compareBytes]
 | [],_::_=>by simp[Lib.compareBytes]
 | _::_,[]=>by simp[Lib.compareBytes]
 | a::l,b::m=>by
  simp only[Lib.compareBytes,List.cons.injEq]
  by_cases h1:a<b
  · simp only[h1,if_true]
    constructor
    · intro h;omega
    · rintro⟨rfl,_⟩;exact absurd h1 (UInt8.lt_irrefl _)
  · by_cases h2:b<a
    · simp only[h1,h2,if_true,if_false]
      constructor
      · intro h;omega
      · rintro⟨rfl,_⟩;exact absurd h2 (UInt8.lt_irrefl _)
    · simp only[h1,h2,if_false,yR l m]
      have:a=b:=UInt8.le_antisymm (UInt8.not_lt.1 h2) (UInt8.not_lt.1 h1)
      simp[this]
theorem yS:∀(a b:List UInt8),Op.bytesLess a b=decide (Lib.compareBytes a b<0)
 | [],[]=>by simp[Lib.compareBytes,Op.bytesLess]
 | [],_::_=>by simp[Lib.compareBytes,Op.bytesLess]
 | _::_,[]=>by simp[Lib.compareBytes,Op.bytesLess]
 | a::l,b::m=>by
  simp only[Lib.compareBytes,Op.bytesLess]
  by_cases h1:a<b
  · simp[h1]
  · by_cases h2:b<a
    · have:¬ a=b:=λe=>by subst e;exact UInt8.lt_irrefl _ h2
      simp[h1,h2,this]
    · have:a=b:=UInt8.le_antisymm (UInt8.not_lt.1 h2) (UInt8.not_lt.1 h1)
      subst this
      simp[h1,yS l m]
theorem Lc (x y:Pr):decide (oC x y<0)=cB x y:=by
 unfold oC cB
 have e1:x.a.toList=x.a.data.toList:=ByteArray.toList_eq ..
 have e2:y.a.toList=y.a.data.toList:=ByteArray.toList_eq ..
 have e3:x.b.toList=x.b.data.toList:=ByteArray.toList_eq ..
 have e4:y.b.toList=y.b.data.toList:=ByteArray.toList_eq ..
 have h1:=yR x.a.data.toList y.a.data.toList
 have h2:(x.a.data.toList=y.a.data.toList)↔x.a=y.a:=⟨λh=>ByteArray.ext (Array.toList_inj.1 h),λh=>by rw[h]⟩
 rw[h2]at h1
 rw[e1,e2,e3,e4,yS,yS]
 by_cases h:x.a=y.a
 · have h0:=h1.2 h
   simp only[oB,h,decide_true,Bool.true_and]
   rw[(yR _ _).2 rfl]
   simp
 · have h0:¬ oB x.a y.a=0:=λe=>h (h1.1 e)
   simp[h0,h]
def k8 (cs vs l:List BA):Int:=if decide (((l.length:Nat):Int)=0)||decide (200< ((l.length:Nat):Int))then 2 else if !decide (G l 0∈cs)|| (l.drop 1).any (λs=>!(decide (s∈cs)||decide (s∈vs)))then 12 else 0
theorem IL {d:Db} {l:List BA}:k8 d.bH d.vars l=if decide (((l.length:Nat):Int)=0)||decide (200< ((l.length:Nat):Int))then 2 else iz d l:=by
 unfold k8
 by_cases h:(decide (((l.length:Nat):Int)=0)||decide (200< ((l.length:Nat):Int)))=true
 · simp only[h,if_true]
 · simp only[h,Bool.false_eq_true,if_false]
   have h0:0<l.length:=by simp at h;exact List.length_pos_iff.2 h.1
   by_cases hc:G l 0∈d.bH
   · by_cases ha:(l.drop 1).any (λs=>!(decide (s∈d.bH)||decide (s∈d.vars)))=true
     · rw[if_pos (by rw[ha,Bool.or_true])]
       obtain⟨x,Z,hn⟩:=any_eq_true.1 ha
       rw[List.mem_drop_iff_getElem]at Z
       obtain⟨j,hj,rfl⟩:=Z
       refine(Et (j:=1+j) oz oz ?_).symm
       rw[<-cV oz]at hn
       simpa [fG]using hn
     · rw[if_neg (by simp only[hc,decide_true,Bool.not_true,Bool.false_or];exact ha)]
       refine(Eu hc λj h1 h2=>?_).symm
       simp only[any_eq_true,not_exists,not_and,Bool.not_eq_true]at ha
       have:=ha (G l j) (by
        rw[List.mem_drop_iff_getElem]
        exact⟨j-1,oz,by rw[<-cV oz];congr 1;omega⟩)
       simp only[Bool.not_eq_false']at this
       exact this
   · rw[if_pos (by simp[hc]),Es hc]
def iP (cs vs fs:List BA) (hm:List (BA×Hy)) (tm:List (BA×BA)) (ls:List BA) (ts:List (BA×BA)) (y:Hy) (dm:Bool):Int:=
 if gY y dm then 2 else if((decide (y.ae∈cs)||decide (y.ae∈vs))||decide (y.ae∈fs))||decide (y.ae∈ls)then 6
 else if y.be&& (!decide (G y.ac 0∈cs)|| !decide (G y.ac 1∈vs))then 12
 else if y.be&& (((aw tm (G y.ac 1)).isSome&& !decide ((aw tm (G y.ac 1)).getD default=G y.ac 0))|| ((aw ts (G y.ac 1)).isSome&& !decide ((aw ts (G y.ac 1)).getD default=G y.ac 0)))then 11
 else if y.be&& (aw ts (G y.ac 1)).isSome then 6
 else if !y.be&& !decide (k8 cs vs y.ac=0)then k8 cs vs y.ac
 else if(aw hm y.ae).isSome&& !kX ((aw hm y.ae).getD default) y then 6 else 0
def yC (c:UInt8):Bool:=decide ((c.toNat:Int)=(32:Int))|| ((decide ((9:Int)<=(c.toNat:Int))&&decide ((c.toNat:Int)<=(13:Int)))&& !decide ((c.toNat:Int)=(11:Int)))
def yD (c:UInt8):Bool:=decide ((c.toNat:Int)=(36:Int))
def yE (c:UInt8):Bool:=(((((decide ((48:Int)<=(c.toNat:Int))&&decide ((c.toNat:Int)<=(57:Int)))|| (decide ((65:Int)<=(c.toNat:Int))&&decide ((c.toNat:Int)<=(90:Int))))|| (decide ((97:Int)<=(c.toNat:Int))&&decide ((c.toNat:Int)<=(122:Int))))||decide ((c.toNat:Int)=(45:Int)))||decide ((c.toNat:Int)=(95:Int)))||decide ((c.toNat:Int)=(46:Int))
def yF (c:UInt8):Bool:=decide ((32:Int)< (c.toNat:Int))&&decide ((c.toNat:Int)<=(126:Int))
def gD (c:UInt8):UInt8:=if yC c then 1 else if yD c then 4 else if yE c then 2 else if yF c then 3 else 0
def kb:List UInt8:=(List.range 256).map λk=>gD (UInt8.ofNat k)
theorem pG:kb.length=256:=by simp[kb]
theorem vr (c:UInt8):G kb c.toNat=gD c:=by
 have h:=c.toNat_lt
 rw[cV (by rw[pG];exact h)]
 simp[kb]
theorem K6 {xs:List UInt8} (hl:xs.length=256) (h:∀ j,j<256->G xs j=gD (UInt8.ofNat j)):xs=kb:=
 jN (by rw[hl,pG]) λj hj=>by
  rw[hl]at hj
  rw[h j hj,cV (by rw[pG];exact hj)]
  simp[kb]
theorem zG {α:Type} [Inhabited α] {xs:List α} {k j:Nat} {v:α} (hk:k<xs.length):G (xs.set k v) j=if j=k then v else G xs j:=by
 by_cases h:j=k
 · subst h;simp[G,getD_eq_getElem?_getD,hk]
 · rw[if_neg h];simp[G,getD_eq_getElem?_getD,List.getElem?_set_ne (Ne.symm h)]
theorem vv {xs:List UInt8} {k:Nat} {v:UInt8} (hl:xs.length=256) (hk:k<256) (h:∀ j,j<k->G xs j=gD (UInt8.ofNat j)) (hv:gD (UInt8.ofNat k)=v):∀ j,j<k+1->G (xs.set k v) j=gD (UInt8.ofNat j):=λj hj=>by
 rw[zG oz]
 by_cases e:j=k
 · rw[if_pos e,e,hv]
 · rw[if_neg e];exact h j oz
theorem vt {xs:List UInt8} {k:Nat} {v:UInt8} (hl:xs.length=256) (hk:k<256) (h:∀ j,k<=j->j<256->G xs j=0):∀ j,k+1<=j->j<256->G (xs.set k v) j=0:=λj h1 h2=>by
 rw[zG oz,if_neg oz]
 exact h j oz h2
theorem QD {c:UInt8} {xs:List UInt8}:(xs.any λx':UInt8=>decide (((c).toNat:Int)=((x').toNat:Int)))=decide (c∈xs):=by
 rw[Bool.eq_iff_iff]
 simp only[any_eq_true,decide_eq_true_eq]
 constructor
 · rintro⟨x,Z,h⟩
   have:c=x:=UInt8.toNat_inj.1 oz
   rw[this];exact Z
 · exact λh=>⟨c,h,rfl⟩
def jW (s:BA) (bs:List UInt8):Bool:=if decide (s=⟨#[]⟩)||decide (60< ((s.size:Nat):Int))then false else s.data.toList.all λc=>decide (gD c∈bs)
theorem Dp:∀ n:Fin 256,(decide (gD (UInt8.ofNat n)∈[2])= !lg (UInt8.ofNat n))/\(decide (gD (UInt8.ofNat n)∈[2,3])=(lA (UInt8.ofNat n)&& !decide (((UInt8.ofNat n).toNat:Int)=36))):=by decide+kernel
theorem K7 (c:UInt8):decide (gD c∈([2]:List UInt8))= !lg c:=by
 have:=(Dp ⟨c.toNat,c.toNat_lt⟩).1
 simpa using this
theorem K8 (c:UInt8):decide (gD c∈([2,3]:List UInt8))=(lA c&& !decide ((c.toNat:Int)=36)):=by
 have:=(Dp ⟨c.toNat,c.toNat_lt⟩).2
 simpa using this
theorem Rg (s:BA):jW s [2]=fW s:=by
 unfold jW fW
 rw[show(λc=>decide (gD c∈([2]:List UInt8)))=λc=>!lg c from funext K7]
 by_cases h1:s=⟨#[]⟩
 · simp[h1]
 · by_cases h2:(60:Int)< ((s.size:Nat):Int)
   · simp[h2,show ¬ ((s.size:Nat):Int)<=60 by omega]
   · simp[h1,h2,show((s.size:Nat):Int)<=60 by omega]
theorem Rh (s:BA):jW s [2,3]=gP s:=by
 unfold jW gP oh
 rw[show(λc=>decide (gD c∈([2,3]:List UInt8)))=λc=>(lA c&& !decide ((c.toNat:Int)=36))from funext K8]
 have ha:(s.data.toList.all λc=>(lA c&& !decide ((c.toNat:Int)=36)))=(s.data.toList.all lA&&s.data.toList.all λc=>!decide ((c.toNat:Int)=36)):=by
  rw[Bool.eq_iff_iff]
  simp only[all_eq_true,Bool.and_eq_true]
  exact⟨λh=>⟨λx Z=>(h x Z).1,λx Z=>(h x Z).2⟩,λh x Z=>⟨h.1 x Z,h.2 x Z⟩⟩
 rw[ha]
 by_cases h1:s=⟨#[]⟩
 · simp[h1]
 · by_cases h2:(60:Int)< ((s.size:Nat):Int)
   · simp[h2,show ¬ ((s.size:Nat):Int)<=60 by omega]
   · simp[h1,h2,show((s.size:Nat):Int)<=60 by omega,Bool.and_comm]
theorem Iw {d:Db} {k:Nat} {e:Int} (hk:k<d.bH.length) (h:∀ j,j<k->gF d j=0) (h0:gF d k≠0) (he:gF d k=e):ec d=e:=by
 have:=i8 hk h h0
 rw[ec,this,he]
 rw[he]at h0
 simp[h0]
theorem Ix {d:Db} {k:Nat} {e:Int} (h1:fS d.bH.length (gF d)=0) (hk:k<d.vars.length) (h:∀ j,j<k->iM d j=0) (h0:iM d k≠0) (he:iM d k=e):ec d=e:=by
 rw[ec,h1,i8 hk h h0,he];rfl
theorem Vt {d:Db} (h1:fS d.bH.length (gF d)=0) (h2:fS d.vars.length (iM d)=0):ec d=0:=by
 rw[ec,h1,h2];rfl
theorem vQ {α:Type} (ls:List (List α)) (k:Nat):(ls.take k).flatten.length<=ls.flatten.length:=by
 have h:ls.flatten=(ls.take k).flatten++(ls.drop k).flatten:=by rw[<-List.flatten_append,take_append_drop]
 rw[h,length_append];omega
theorem Lo {ts:List (BA×BA)} {vis:List BA} {k:BA} (h1:vis.Nodup) (h2:∀ q∈vis,q∈ts.map (·.1)) (h3:k∉vis/\(aw ts k).isSome=true):ts.length-(vis++[k]).length<ts.length-vis.length:=by
 have hk:k∈ts.map (·.1):=by have:=h3.2;rw[lx]at this;simpa using this
 have hn:(vis++[k]).Nodup:=by
  rw[List.nodup_append]
  exact⟨h1,by simp,λx Z y hy e=>by rw[mem_singleton.1 hy]at e;subst e;exact h3.1 Z⟩
 have:=nV (ys:=ts.map (·.1)) hn λx Z=>by
  rcases mem_append.1 Z with h | h
  · exact h2 x h
  · rw[mem_singleton.1 h];exact hk
 simp at this ⊢
 omega
theorem Lp {ts tm tn:List (BA×BA)} {vis:List BA} {k:BA} (h1:∀ q,aw tn q=if q∈vis then aw ts q else aw tm q) (h3:k∉vis/\(aw ts k).isSome=true):∀ q,aw (cl tn k ((aw ts k).getD default)) q=if q∈vis++[k]then aw ts q else aw tm q:=λq=>by
 obtain⟨v,hv⟩:=Option.isSome_iff_exists.1 h3.2
 rw[kY]
 by_cases e:q=k
 · subst e;simp[hv]
 · rw[if_neg e,h1 q]
   simp[e]
def kx (vs:List BA) (f:Fr):List BA:=dl vs (f.ac::(bR f.aa).map Hy.ac).flatten
def kR (m:List BA) (h:Hy):Bool:=!h.be||decide (G h.ac 1∈m)
def mq (vs:List BA) (wide:List Pr) (i:Nat):Bool:=((!Op.bytesLess (G wide i).a.toList (G wide i).b.toList|| !decide ((G wide i).a∈vs))|| !decide ((G wide i).b∈vs))|| (decide ((0:Int)< ((i:Nat):Int))&&decide ((0:Int)<=oC (G wide (((i:Nat):Int)-1).toNat) (G wide i)))
def pf (vs:List BA) (f:Fr):Bool:=
 ((f.aa.all (kR (kx vs f))&&decide ((eG f.aa).length=(kx vs f).length))&& (List.range f.wide.length).all λi=>!mq vs f.wide i)&&decide (f.apart=f.wide.filter (iQ (kx vs f)))
def iu (vs:List BA) (f:Fr):Int:=if pf vs f then 0 else 70
theorem Uy {vs:List BA} {f:Fr} (h:f.aa.all (kR (kx vs f))=false):iu vs f=70:=by simp[iu,pf,h]
theorem Uz {vs:List BA} {f:Fr} (h:¬ (eG f.aa).length=(kx vs f).length):iu vs f=70:=by simp[iu,pf,h]
theorem UB {vs:List BA} {f:Fr} {k:Nat} (hk:k<f.wide.length) (h:mq vs f.wide k=true):iu vs f=70:=by
 have:((List.range f.wide.length).all λi=>!mq vs f.wide i)=false:=by
  rw[List.all_eq_false]
  exact⟨k,by simpa using hk,by simp[h]⟩
 simp[iu,pf,this]
theorem Ux {vs:List BA} {f:Fr} (h:¬ f.apart=f.wide.filter (iQ (kx vs f))):iu vs f=70:=by simp[iu,pf,h]
theorem UA {vs:List BA} {f:Fr} (h1:f.aa.all (kR (kx vs f))=true) (h2:(eG f.aa).length=(kx vs f).length) (h3:∀ j,j<f.wide.length->mq vs f.wide j=false) (h4:f.apart=f.wide.filter (iQ (kx vs f))):iu vs f=0:=by
 have:((List.range f.wide.length).all λi=>!mq vs f.wide i)=true:=by
  rw[all_eq_true]
  intro i hi
  simp[h3 i (by simpa using hi)]
 rw[iu,pf,h1,this,decide_eq_true h2,decide_eq_true h4]
 rfl
abbrev bG (f:Fr):List Hy:=f.aa++f.bA
def mS (l:List Hy):List BA:=l.foldl (λs h=>cU s h.ae) []
def iL (l:List Hy):List (BA×BA):=l.foldl (λt h=>if h.be then cl t (G h.ac 1) (G h.ac 0)else t) []
def mN (hm:List (BA×Hy)) (l:List Hy):List (BA×Hy):=l.foldl (λm h=>cl m h.ae h) hm
def lm (cs vs fs:List BA) (hm:List (BA×Hy)) (tm:List (BA×BA)) (f:Fr) (i:Nat):Int:=
 iP cs vs (cU fs f.ae) hm tm (mS ((bG f).take i)) (iL ((bG f).take i)) (G (bG f) i) (decide (((f.aa.length:Nat):Int)<=((i:Nat):Int)))
def sc (f:Fr):Bool:=decide ((0:Int)< ((f.proof.length:Nat):Int))&& ((!f.thm||decide ((8000:Int)< ((f.proof.length:Nat):Int)))||f.proof.any λs=>!fq s)
def gG (cs vs fs:List BA) (hm:List (BA×Hy)) (tm:List (BA×BA)) (f:Fr) (bf:List Hy):Int:=
 if !fW f.ae then 2 else if((aw hm f.ae).isSome|| (decide (f.ae∈cs)||decide (f.ae∈vs)))||decide (f.ae∈fs)then 6
 else if decide ((40:Int)< ((f.aa.length:Nat):Int))||decide ((40:Int)< ((f.bA.length:Nat):Int))then 4
 else if !decide (fS (bG f).length (lm cs vs fs hm tm f)=0)then fS (bG f).length (lm cs vs fs hm tm f)
 else if !decide (k8 cs vs f.ac=0)then k8 cs vs f.ac
 else if !decide (iu vs f=0)then iu vs f
 else if sc f then 2
 else if((bR f.aa).drop (gp (bf.map Hy.ae) ((bR f.aa).map Hy.ae))).any λy=>(aw hm y.ae).isSome then 7 else 0
theorem Fq {cs vs fs:List BA} {hm:List (BA×Hy)} {tm:List (BA×BA)} {ls:List BA} {ts:List (BA×BA)} {y:Hy} {dm:Bool} (h:iP cs vs fs hm tm ls ts y dm=0):gY y dm=false:=by
 cases hf:gY y dm with
 | false=>rfl
 | true=>simp[iP,hf]at h
theorem N3 {y:Hy} {dm:Bool} (h:gY y dm=false):y.ac.length<=200:=by
 cases hf:y.be with
 | true=>have:=im h hf;omega
 | false=>simp[gY,hf]at h;omega
theorem AD (l:List Hy) (y:Hy):mS (l++[y])=cU (mS l) y.ae:=by simp[mS]
theorem uB (l:List Hy) (y:Hy):iL (l++[y])=if y.be then cl (iL l) (G y.ac 1) (G y.ac 0)else iL l:=by simp[iL]
theorem OO (hm:List (BA×Hy)) (l:List Hy) (y:Hy):mN hm (l++[y])=cl (mN hm l) y.ae y:=by simp[mN]
theorem VD:∀(l:List Hy),(∀ y∈l,y.be=true->y.ac.length=2)->(∀ y∈l,∀ s∈y.ac,s.size<=9223372036854775807)->∀ q∈(iL l).map (·.1),q.size<=9223372036854775807:=by
 intro l
 rw[<-List.reverse_reverse l]
 induction l.reverse with
 | nil=>simp[iL]
 | cons y m ih=>
  intro h1 h2 q hq
  rw[List.reverse_cons]at h1 h2 hq
  rw[uB]at hq
  have ih':=ih (λz hz=>h1 z (by simp at hz ⊢;exact .inl hz)) (λz hz=>h2 z (by simp at hz ⊢;exact .inl hz))
  by_cases hf:y.be=true
  · rw[if_pos hf,Gb]at hq
    split at hq
    · exact ih' q hq
    · rcases mem_append.1 hq with h | h
      · exact ih' q h
      · rw[mem_singleton.1 h]
        exact h2 y yz _ (aC (by have:=h1 y yz hf;omega))
  · rw[if_neg hf]at hq;exact ih' q hq
def vA (tm ts:List (BA×BA)):List (BA×BA):=ts.foldr (λp m=>cl m p.1 p.2) tm
theorem Dt (tm:List (BA×BA)):∀(ts:List (BA×BA)) (k:BA),aw (vA tm ts) k=if(aw ts k).isSome then aw ts k else aw tm k
 | [],k=>by simp[vA,oT]
 | p::ts,k=>by
  have ih:=Dt tm ts k
  simp only[vA,List.foldr_cons,kY,l5]at ih ⊢
  by_cases h:k=p.1
  · simp[h]
  · simp only[if_neg h];exact ih
theorem pB:∀ x:List UInt8,Op.bytesLess x x=false
 | []=>rfl
 | a::x=>by simp[Op.bytesLess,pB x]
theorem pC:∀ x y z:List UInt8,Op.bytesLess x y=true->Op.bytesLess y z=true->Op.bytesLess x z=true
 | _,_,[],_,h=>by cases ‹List UInt8› <;>simp[Op.bytesLess]at h
 | x,[],_::_,h,_=>by cases x<;>simp[Op.bytesLess]at h
 | [],_::_,_::_,_,_=>rfl
 | a::x,b::y,c::z,h1,h2=>by
  simp only[Op.bytesLess,Bool.or_eq_true,Bool.and_eq_true,decide_eq_true_eq,beq_iff_eq]at h1 h2 ⊢
  rcases h1 with h1 | ⟨rfl,h1⟩
  · rcases h2 with h2 | ⟨rfl,h2⟩
    · exact Or.inl (UInt8.lt_trans h1 h2)
    · exact Or.inl h1
  · rcases h2 with h2 | ⟨rfl,h2⟩
    · exact Or.inl h2
    · exact Or.inr ⟨rfl,pC x y z h1 h2⟩
theorem q8:∀ x y:List UInt8,Op.bytesLess x y=false->Op.bytesLess y x=false->x=y
 | [],[],_,_=>rfl
 | [],_::_,h,_=>by simp[Op.bytesLess]at h
 | _::_,[],_,h=>by simp[Op.bytesLess]at h
 | a::x,b::y,h1,h2=>by
  simp only[Op.bytesLess,Bool.or_eq_false_iff,Bool.and_eq_false_iff,decide_eq_false_iff_not]at h1 h2
  have hab:a=b:=by
   have h3:=h1.1
   have h4:=h2.1
   rw[UInt8.lt_iff_toNat_lt]at h3 h4
   exact UInt8.toNat_inj.1 oz
  subst hab
  have h3:=h1.2
  have h4:=h2.2
  simp at h3 h4
  rw[q8 x y h3 h4]
theorem toList_inj {a b:BA} (h:a.toList=b.toList):a=b:=by
 rw[ByteArray.toList_eq,ByteArray.toList_eq]at h
 exact ByteArray.ext (Array.toList_inj.1 h)
theorem rN {x y z:Pr} (h1:cB x y=true) (h2:cB y z=true):cB x z=true:=by
 simp only[cB,Bool.or_eq_true,Bool.and_eq_true,decide_eq_true_eq]at h1 h2 ⊢
 rcases h1 with h1 | ⟨e1,h1⟩
 · rcases h2 with h2 | ⟨e2,h2⟩
   · exact .inl (pC _ _ _ h1 h2)
   · exact .inl (e2▸h1)
 · rcases h2 with h2 | ⟨e2,h2⟩
   · exact .inl (e1▸h2)
   · exact .inr ⟨e1.trans e2,pC _ _ _ h1 h2⟩
theorem FT {x y:Pr} (h1:cB x y=false) (h2:ib x y=false):cB y x=true:=by
 simp only[cB,Bool.or_eq_false_iff,Bool.and_eq_false_iff,decide_eq_false_iff_not]at h1
 simp only[cB,Bool.or_eq_true,Bool.and_eq_true,decide_eq_true_eq]
 by_cases ha:x.a=y.a
 · right
   refine⟨ha.symm,?_⟩
   have h3:=h1.2.resolve_left (λh=>h ha)
   cases hb:Op.bytesLess y.b.toList x.b.toList with
   | true=>rfl
   | false=>simp[ib,ha,toList_inj (q8 _ _ h3 hb)]at h2
 · left
   cases hb:Op.bytesLess y.a.toList x.a.toList with
   | true=>rfl
   | false=>exact absurd (toList_inj (q8 _ _ h1.1 hb)) ha
def iZ (l:List Pr):Prop:=l.Pairwise λx y=>cB x y=true
theorem Hd:∀ {l:List Pr} {p x:Pr},x∈fA l p->x∈l∨x=p
 | [],p,x,h=>by simpa [fA]using h
 | y::l,p,x,h=>by
  simp only[fA]at h
  split at h
  · rcases mem_cons.1 h with rfl | h
    · exact .inl yz
    · rcases Hd h with h | h
      · exact .inl (by simp[h])
      · exact .inr h
  · split at h
    · exact .inl h
    · rcases mem_cons.1 h with rfl | h
      · exact .inr rfl
      · exact .inl h
theorem He:∀ {l:List Pr} {p:Pr},iZ l->iZ (fA l p)
 | [],_,_=>by simp[fA,iZ]
 | y::l,p,h=>by
  have h':=List.pairwise_cons.1 h
  simp only[fA]
  by_cases h1:cB y p=true
  · rw[if_pos h1]
    refine List.pairwise_cons.2 ⟨λx Z=>?_,He h'.2⟩
    rcases Hd Z with Z | rfl
    · exact h'.1 x Z
    · exact h1
  · rw[if_neg h1]
    by_cases h2:ib y p=true
    · rw[if_pos h2];exact h
    · rw[if_neg h2]
      have h3:=FT (by simpa using h1) (by simpa using h2)
      refine List.pairwise_cons.2 ⟨λx Z=>?_,h⟩
      rcases mem_cons.1 Z with rfl | Z
      · exact h3
      · exact rN h3 (h'.1 x Z)
theorem Ep:∀(w:List Pr) {a:List Pr},iZ a->iZ (w.foldl fA a)
 | [],_,h=>h
 | _::w,_,h=>Ep w (He h)
theorem Hb:∀ {l:List Pr} {p:Pr},(∀ x∈l,cB x p=true)->fA l p=l++[p]
 | [],_,_=>rfl
 | y::l,p,h=>by
  have ih:fA l p=l++[p]:=Hb λx Z=>h x (List.mem_cons_of_mem _ Z)
  simp only[fA,h y yz,if_true,ih,List.cons_append]
theorem Eo:∀(w a:List Pr),iZ (a++w)->w.foldl fA a=a++w
 | [],a,_=>by simp
 | p::w,a,h=>by
  have h1:∀ x∈a,cB x p=true:=λx Z=>(List.pairwise_append.1 h).2.2 x Z p yz
  rw[foldl_cons,Hb h1,Eo w (a++[p]) (by simpa using h)]
  simp
theorem FD (w:List Pr):w=mR w []↔iZ w:=by
 unfold mR
 rw[List.append_nil]
 constructor
 · intro h
   rw[h]
   exact Ep w .nil
 · intro h
   rw[Eo w [] (by simpa using h)]
   simp
theorem UZ {w:List Pr} (h:∀ i,0<i->i<w.length->cB (G w (i-1)) (G w i)=true):iZ w:=by
 have key:∀ d i,i+1+d<w.length->cB (G w i) (G w (i+1+d))=true:=by
  intro d
  induction d with
  | zero=>intro i hi;simpa using h (i+1) oz oz
  | succ d ih=>
   intro i hi
   refine rN (ih i oz) ?_
   have:=h (i+1+d+1) oz oz
   rw[show i+1+d+1-1=i+1+d by omega]at this
   exact this
 rw[iZ,List.pairwise_iff_getElem]
 intro i j hi hj gH
 have:=key (j-i-1) i oz
 rw[show i+1+(j-i-1)=j by omega]at this
 rwa [cV hi,cV hj]at this
theorem JJ {vs:List BA} {d:Db} (hv:vs=d.vars) (w:List Pr):((List.range w.length).all λi=>!mq vs w i)=(!w.any (pz d)&&decide (w=mR w [])):=by
 subst hv
 have hk:∀ i,0<i->(0<=oC (G w (((i:Nat):Int)-1).toNat) (G w i)↔cB (G w (i-1)) (G w i)=false):=λi h=>by
  rw[show(((i:Nat):Int)-1).toNat=i-1 by omega,<-Lc,decide_eq_false_iff_not];omega
 rw[Bool.eq_iff_iff]
 simp only[all_eq_true,List.mem_range,Bool.not_eq_true',Bool.and_eq_true,List.any_eq_false,decide_eq_true_eq,FD]
 constructor
 · intro h
   refine⟨λp hp=>?_,UZ λi h1 h2=>?_⟩
   · obtain⟨i,hi,rfl⟩:=ee hp
     have:=h i hi
     simp only[mq,Bool.or_eq_false_iff]at this
     simp only[pz,Bool.or_eq_true,not_or,Bool.not_eq_true]
     exact this.1
   · have:=h i h2
     simp only[mq,Bool.or_eq_false_iff,Bool.and_eq_false_iff,decide_eq_false_iff_not]at this
     have h3:=this.2.resolve_left oz
     rw[hk i h1]at h3
     simpa using h3
 · rintro⟨h1,h2⟩ i hi
   have h3:=h1 _ (aC hi)
   simp only[pz,Bool.or_eq_true,not_or,Bool.not_eq_true]at h3
   simp only[mq,Bool.or_eq_false_iff,Bool.and_eq_false_iff,decide_eq_false_iff_not]
   refine⟨h3,?_⟩
   by_cases h0:0<i
   · right
     rw[hk i h0]
     have:=List.pairwise_iff_getElem.1 h2 (i-1) i oz hi oz
     rw[cV hi,cV oz,this];decide
   · left;omega

structure ld (l:List Hy) (tm:List (BA×BA)):Prop where
 hit:∀ x∈l,∀ v,gu x [v]=true->aw tm v=some (G x.ac 0)
 got:∀ v t,aw tm v=some t->∃ x∈l,gu x [v]=true/\G x.ac 0=t
structure sz (l:List Hy) (hm:List (BA×Hy)):Prop where
 hit:∀ x∈l,aw hm x.ae=some x
 got:∀ s x,aw hm s=some x->x∈l/\x.ae=s
structure ng (d:Db) (k:Nat) (fs:List BA) (hm:List (BA×Hy)) (tm:List (BA×BA)) (bf:List Hy):Prop where
 fr:∀ s,s∈fs↔fo d k s=true
 hy:sz (iV d k) hm
 ty:ld (iV d k) tm
 bf:bf.map Hy.ae=j8 d k
theorem PW (d:Db):ng d 0 [] [] [] []:=⟨λs=>by simp[fo],⟨λx Z=>by simp[Gx]at Z,λs x h=>by simp[oT]at h⟩,⟨λx Z=>by simp[Gx]at Z,λs x h=>by simp[oT]at h⟩,by simp[j8]⟩
theorem t7 {x:Hy} {v:BA}:gu x [v]=true↔x.be=true/\x.ac.length=2/\G x.ac 1=v:=by
 simp only[gu,Bool.and_eq_true,decide_eq_true_eq,mem_singleton]
 constructor
 · rintro⟨⟨h1,h2⟩,h3⟩;exact⟨h1,oz,h3⟩
 · rintro⟨h1,h2,h3⟩;exact⟨⟨h1,oz⟩,h3⟩
theorem sV {l:List BA} (h:l.length=2):l.drop 1=[G l 1]:=by
 match l,h with
 | [a,b],_=>rfl
theorem Fp {d:Db} {k:Nat} {s:BA}:iC d k s=(iV d k).any λx=>decide (x.ae=s):=by
 simp only[iC,iV,Aq]
 induction d.ab.take k with
 | nil=>rfl
 | cons f l ih=>rw[List.any_cons,ih,List.flatMap_cons,List.any_append (xs:=f.aa++f.bA)]
section
variable {d:Db} {k:Nat} {fs:List BA} {hm:List (BA×Hy)} {tm:List (BA×BA)} {bf:List Hy}
theorem sz.some {l:List Hy} (h:sz l hm) (s:BA):(aw hm s).isSome=l.any λx=>decide (x.ae=s):=by
 rw[Bool.eq_iff_iff,any_eq_true]
 constructor
 · intro e
   obtain⟨x,Z⟩:=Option.isSome_iff_exists.1 e
   have:=h.got s x Z
   exact⟨x,this.1,by simpa using this.2⟩
 · rintro⟨x,Z,e⟩
   simp only[decide_eq_true_eq]at e
   rw[<-e,h.hit x Z];rfl
theorem ld.bad {l:List Hy} (h:ld l tm) (y:Hy) (h2:y.ac.length=2):((aw tm (G y.ac 1)).isSome&& !decide ((aw tm (G y.ac 1)).getD default=G y.ac 0))=l.any (jz y):=by
 rw[Bool.eq_iff_iff,any_eq_true]
 unfold jz
 rw[sV h2]
 constructor
 · intro e
   simp only[Bool.and_eq_true,Bool.not_eq_true',decide_eq_false_iff_not]at e
   obtain⟨t,ht⟩:=Option.isSome_iff_exists.1 e.1
   obtain⟨x,Z,h3,h4⟩:=h.got _ _ ht
   refine⟨x,Z,?_⟩
   rw[ht]at e
   simp only[Option.getD_some]at e
   simp[h3,h4,e.2]
 · rintro⟨x,Z,e⟩
   simp only[Bool.and_eq_true,Bool.not_eq_true',decide_eq_false_iff_not]at e
   rw[h.hit x Z _ e.1]
   simp[e.2]
theorem ld.have {l:List Hy} (h:ld l tm) (y:Hy) (h2:y.ac.length=2):(aw tm (G y.ac 1)).isSome=l.any (gZ y):=by
 rw[Bool.eq_iff_iff,any_eq_true]
 unfold gZ
 rw[sV h2]
 constructor
 · intro e
   obtain⟨t,ht⟩:=Option.isSome_iff_exists.1 e
   obtain⟨x,Z,h3,_⟩:=h.got _ _ ht
   exact⟨x,Z,h3⟩
 · rintro⟨x,Z,e⟩
   rw[h.hit x Z _ e];rfl
theorem sz.bad {l:List Hy} (h:sz l hm) (y:Hy):((aw hm y.ae).isSome&& !kX ((aw hm y.ae).getD default) y)=l.any (fL y):=by
 rw[Bool.eq_iff_iff,any_eq_true]
 unfold fL
 constructor
 · intro e
   simp only[Bool.and_eq_true,Bool.not_eq_true']at e
   obtain⟨x,Z⟩:=Option.isSome_iff_exists.1 e.1
   have:=h.got _ _ Z
   rw[Z]at e
   exact⟨x,this.1,by simpa [this.2]using e.2⟩
 · rintro⟨x,Z,e⟩
   simp only[Bool.and_eq_true,Bool.not_eq_true',decide_eq_true_eq]at e
   rw[<-e.1,h.hit x Z]
   simpa using e.2
theorem Qj (l:List Hy) (s:BA):s∈mS l↔ ∃ x∈l,x.ae=s:=by
 rw[<-List.reverse_reverse l]
 induction l.reverse with
 | nil=>simp[mS]
 | cons y m ih=>
  rw[List.reverse_cons,AD,AP,ih]
  simp only[mem_append,mem_singleton]
  constructor
  · rintro(⟨x,h,e⟩ | rfl)
    · exact⟨x,.inl h,e⟩
    · exact⟨y,.inr rfl,rfl⟩
  · rintro⟨x,h | rfl,e⟩
    · exact .inl ⟨x,h,e⟩
    · exact .inr e.symm
theorem IP {l:List Hy} {ts:List (BA×BA)} {y:Hy} (h:ld l ts) (h2:y.be=true->y.ac.length=2) (h3:y.be=true->l.any (gZ y)=false):ld (l++[y]) (if y.be then cl ts (G y.ac 1) (G y.ac 0)else ts):=by
 by_cases hf:y.be=true
 · rw[if_pos hf]
   have h2':=h2 hf
   have h3':=h3 hf
   rw[List.any_eq_false]at h3'
   refine⟨λx Z v hv=>?_,λv t hv=>?_⟩
   · rw[kY]
     rcases mem_append.1 Z with Z | Z
     · have:¬ v=G y.ac 1:=λe=>h3' x Z (by rw[gZ,sV h2',<-e];exact hv)
       rw[if_neg this]
       exact h.hit x Z v hv
     · rw[mem_singleton.1 Z]at hv ⊢
       rw[if_pos (t7.1 hv).2.2.symm]
   · rw[kY]at hv
     split at hv
     · rename_i e
       refine⟨y,by simp,t7.2 ⟨hf,h2',e.symm⟩,by simpa using hv⟩
     · obtain⟨x,Z,h4⟩:=h.got v t hv
       exact⟨x,by simp[Z],h4⟩
 · rw[if_neg hf]
   refine⟨λx Z v hv=>?_,λv t hv=>?_⟩
   · rcases mem_append.1 Z with Z | Z
     · exact h.hit x Z v hv
     · rw[mem_singleton.1 Z]at hv
       exact absurd (t7.1 hv).1 hf
   · obtain⟨x,Z,h4⟩:=h.got v t hv
     exact⟨x,by simp[Z],h4⟩
theorem zZ:∀(l:List Hy) (hm:List (BA×Hy)) (x:Hy),(∀ y∈l,y.ae=x.ae->y=x)->(x∈l∨aw hm x.ae=some x)->aw (mN hm l) x.ae=some x
 | [],_,_,_,h=>by simpa [mN]using h
 | y::l,hm,x,h,h1=>by
  show aw (mN (cl hm y.ae y) l) x.ae=_
  refine zZ l _ x (λz hz=>h z (by simp[hz])) ?_
  by_cases Z:x∈l
  · exact .inl Z
  · right
    rw[kY]
    by_cases e:x.ae=y.ae
    · rw[if_pos e,h y yz e.symm]
    · rw[if_neg e]
      refine h1.resolve_left λhm'=>?_
      rcases mem_cons.1 hm' with rfl | h'
      · exact e rfl
      · exact Z h'
theorem E9:∀(l:List Hy) (hm:List (BA×Hy)) (s:BA) (x:Hy),aw (mN hm l) s=some x->(x∈l/\x.ae=s)∨aw hm s=some x
 | [],_,_,_,h=>.inr h
 | y::l,hm,s,x,h=>by
  rcases E9 l (cl hm y.ae y) s x h with⟨h1,h2⟩ | h1
  · exact .inl ⟨by simp[h1],h2⟩
  · rw[kY]at h1
    split at h1
    · rename_i e
      have:y=x:=by simpa using h1
      subst this
      exact .inl ⟨by simp,e.symm⟩
    · exact .inr h1
theorem Ga (g:Nat->Int):∀ n,(∀ j,j<n->g j=0)∨ ∃ i,(i<n/\g i≠0)/\∀ j,j<i->g j=0
 | 0=>.inl λ_ h=>absurd h (Nat.not_lt_zero _)
 | n+1=>by
  rcases Ga g n with h | ⟨i,⟨h1,h2⟩,h3⟩
  · by_cases e:g n=0
    · exact .inl (cF h e)
    · exact .inr ⟨n,⟨oz,e⟩,h⟩
  · exact .inr ⟨i,⟨oz,h2⟩,h3⟩
theorem MN {n:Nat} {g h:Nat->Int} (hh:∀ i,i<n->(∀ j,j<i->g j=0)->g i=h i):fS n g=fS n h:=by
 by_cases e:∃ i,i<n/\g i≠0
 · obtain⟨i,hi,rE⟩:∃ i,(i<n/\g i≠0)/\∀ j,j<i->g j=0:=by
    rcases Ga g n with h0 | h0
    · obtain⟨i,hi,hn⟩:=e
      exact absurd (h0 i hi) hn
    · exact h0
   have h0:∀ j,j<i->h j=0:=λj hj=>by rw[<-hh j oz λq hq=>rE q oz];exact rE j hj
   have h1:=hh i hi.1 rE
   rw[i8 hi.1 rE hi.2,i8 hi.1 h0 (by rw[<-h1];exact hi.2),h1]
 · have h0:∀ j,j<n->g j=0:=λj hj=>Classical.byContradiction λh=>e ⟨j,hj,h⟩
   rw[mB h0,mB λj hj=>by rw[<-hh j hj λq hq=>h0 q oz];exact h0 j hj]
end
structure Bd where
 var:BA
 ac:List BA
instance instInhBd:Inhabited Bd:=⟨⟨ByteArray.empty,[]⟩⟩
def ff (b:Bd):List CD:=[.lit (.string b.var),ai b.ac]
def fj (l:List Bd):CD:=.sl (l.map ff)
abbrev BM:=List (BA×List BA)
def np (M:BM) (b:Bd):BM:=if(aw M b.var).isSome then M else cl M b.var b.ac
def ay (l:List Bd):BM:=l.foldl np []
def bg (M:BM) (s:BA):List BA:=match aw M s with
 | some t=>t
 | none=>[s]
def bz (M:BM) (ac:List BA):List BA:=ac.flatMap (bg M)
def b7 (M:BM) (ac:List BA) (most:Nat):Bool:=decide ((bz M ac).length<=most)
def lN (pattern:List BA) (l:List Bd) (ac:List BA):Bool:=decide (bz (ay l) pattern=ac)
def kA (set:List BA) (out:List BA) (s:BA):List BA:=if s∈set/\s∉out then out++[s]else out
def cZ (ac set:List BA):List BA:=ac.foldl (kA set) []
def cX (l:List BA):List BA:=l.foldl cU []
theorem CT (l:List Bd) (b:Bd):ay (l++[b])=np (ay l) b:=by simp[ay]
theorem uZ (M:BM) (a b:List BA):bz M (a++b)=bz M a++bz M b:=by simp[bz]
theorem JA (M:BM) (s:BA):bz M [s]=bg M s:=by simp[bz]
theorem j5 {M:BM} {ac:List BA} {j:Nat} (h:j<ac.length):bz M (ac.take (j+1))=bz M (ac.take j)++bg M (G ac j):=by
 rw[dG h,uZ,JA]
theorem px (M:BM) (ac:List BA) (j:Nat):(bz M (ac.take j)).length<=(bz M ac).length:=by
 rw[<-take_append_drop j ac,uZ,take_append_drop]
 simp
theorem QU (set ac:List BA) (s:BA):cZ (ac++[s]) set=kA set (cZ ac set) s:=by simp[cZ]
theorem wX {set ac:List BA} {j:Nat} (h:j<ac.length):cZ (ac.take (j+1)) set=kA set (cZ (ac.take j) set) (G ac j):=by
 rw[dG h,QU]
theorem Qp (l:List BA) (s:BA):cX (l++[s])=cU (cX l) s:=by simp[cX]
theorem Qq {l:List BA} {j:Nat} (h:j<l.length):cX (l.take (j+1))=cU (cX (l.take j)) (G l j):=by
 rw[dG h,Qp]
theorem CU {l:List Bd} {j:Nat} (h:j<l.length):ay (l.take (j+1))=np (ay (l.take j)) (G l j):=by
 rw[dG h,CT]
theorem QE {l:List BA} {x:BA}:x∈cX l↔x∈l:=by
 have key:∀(l out:List BA),x∈l.foldl cU out↔x∈out∨x∈l:=by
  intro l
  induction l with
  | nil=>intro out;simp
  | cons s r ih=>
   intro out
   rw[foldl_cons,ih,AP,mem_cons]
   constructor
   · rintro((h | h) | h)
     · exact .inl h
     · exact .inr (.inl h)
     · exact .inr (.inr h)
   · rintro(h | h | h)
     · exact .inl (.inl h)
     · exact .inl (.inr h)
     · exact .inr h
 have:=key l []
 simpa [cX]using this
def dN (x y:BA):Int:=if Op.bytesLess x.toList y.toList then-1 else if x=y then 0 else 1
def ix (p q:Pr):Int:=if dN p.a q.a=0 then dN p.b q.b else dN p.a q.a
def kZ (l:List Int):Int:=(l.find? λz=>decide (¬ z=0)).getD 0
theorem Gv {l:List Int} {k:Nat} (hk:k<l.length) (h1:∀ j,j<k->G l j=0) (h2:¬ G l k=0):kZ l=G l k:=by
 induction l generalizing k with
 | nil=>simp at hk
 | cons x r ih=>
  cases k with
  | zero=>
   have h3:¬ x=0:=h2
   show((x::r).find? _).getD 0=x
   rw[List.find?_cons_of_pos (by simpa using h3)]
   rfl
  | succ k=>
   have h3:x=0:=h1 0 oz
   have h4:=ih (k:=k) (by simpa using hk) (λj hj=>by have:=h1 (j+1) oz;simpa [G]using this) (by simpa [G]using h2)
   have h5:kZ (x::r)=kZ r:=by
    show((x::r).find? _).getD 0=(r.find? _).getD 0
    rw[List.find?_cons_of_neg (by simpa using h3)]
   rw[h5,h4]
   simp[G]
theorem Gw {l:List Int} (h1:∀ j,j<l.length->G l j=0):kZ l=0:=by
 have:l.find? (λz=>decide (¬ z=0))=none:=List.find?_eq_none.2 λx Z=>by
  obtain⟨j,hj,rfl⟩:=ee Z
  simpa using h1 j hj
 rw[kZ,this]
 rfl
theorem Dr (p q:Pr):kZ [dN p.a q.a,dN p.b q.b]=ix p q:=by
 unfold ix kZ
 by_cases h:dN p.a q.a=0
 · by_cases h2:dN p.b q.b=0<;>simp[h,h2]
 · simp[h]
def c8 (p:Pr):Pr:=if Op.bytesLess p.b.toList p.a.toList then⟨p.b,p.a⟩else p
def fe (l:List Bd) (apart:List Pr) (vars:List BA):List Pr:=
 apart.flatMap λp=>(cZ (bg (ay l) p.a) (cX vars)).flatMap λx=>(cZ (bg (ay l) p.b) (cX vars)).map λy=>c8 ⟨x,y⟩
def gC (wide:List Pr) (p:Pr):Bool:=!decide (p∈wide.map c8)||decide (p.a=p.b)
def jL (l:List Bd) (apart:List Pr) (vars:List BA) (wide:List Pr):Option Pr:=(fe l apart vars).find? (gC wide)
def fB (l:List Bd) (apart:List Pr) (vars:List BA) (wide:List Pr):Pr:=(jL l apart vars wide).getD ⟨⟨#[]⟩,⟨#[]⟩⟩
def eL (l:List Bd) (apart:List Pr) (vars:List BA) (wide:List Pr):Bool:=(jL l apart vars wide).isSome
theorem QH {α κ:Type} [DecidableEq κ] (L:List (κ×α)) (k k':κ) (v:α):aw (cl L k v) k'=if k'=k then some v else aw L k':=by
 induction L with
 | nil=>by_cases h:k'=k<;>simp[cl,aw,h]
 | cons p L ih=>
  unfold cl
  by_cases h:k=p.1
  · rw[if_pos h]
    by_cases h2:k'=k
    · simp[aw,h2,h]
    · have:¬ k'=p.1:=λe=>h2 (e.trans h.symm)
      simp[aw,h2,this]
  · rw[if_neg h]
    by_cases h2:k'=p.1
    · have:¬ p.1=k:=λe=>h e.symm
      simp[aw,h2,this]
    · have e1:aw (p::cl L k v) k'=aw (cl L k v) k':=by simp[aw,h2]
      have e2:aw (p::L) k'=aw L k':=by simp[aw,h2]
      rw[e1,e2,ih]
theorem QG (M:BM) (b:Bd) (s:BA):aw (np M b) s=match aw M s with
 | some t=>some t
 | none=>if s=b.var then some b.ac else none:=by
 unfold np
 split
 · rename_i h
   cases h2:aw M s with
   | some t=>rfl
   | none=>
    have:¬ s=b.var:=λe=>by rw[<-e,h2]at h;cases h
    simp[this]
 · rename_i h
   rw[QH]
   by_cases e:s=b.var
   · subst e
     have:aw M b.var=none:=by simpa using h
     simp[this]
   · simp only[e,if_false]
     cases aw M s<;>rfl
theorem qh (l:List Bd) (s:BA):aw (ay l) s=(l.find? λb=>decide (b.var=s)).map Bd.ac:=by
 have key:∀(l:List Bd) (M:BM),aw (l.foldl np M) s=match aw M s with
  | some t=>some t
  | none=>(l.find? λb=>decide (b.var=s)).map Bd.ac:=by
  intro l
  induction l with
  | nil=>intro M;cases h:aw M s<;>simp[h]
  | cons b l ih=>
   intro M
   rw[foldl_cons,ih,QG]
   cases h:aw M s with
   | some t=>rfl
   | none=>
    by_cases e:s=b.var
    · subst e;simp
    · have e':¬ b.var=s:=λh=>e h.symm
      simp[e,e']
 exact key l []
theorem qa {l:List Bd} {m:Nat} (hm:1<=m) (hl:∀ b∈l,b.ac.length<=m) (s:BA):(bg (ay l) s).length<=m:=by
 unfold bg
 rw[qh]
 cases h:l.find? λb=>decide (b.var=s)with
 | none=>simpa using hm
 | some b=>exact hl b (List.mem_of_find?_eq_some h)
theorem MT {M:BM} {pattern ac:List BA} {k j p:Nat} (hk:k<pattern.length) (hj:j< (bg M (G pattern k)).length) (h:ac.take p=bz M (pattern.take k)++(bg M (G pattern k)).take j) (hp:p<=ac.length)
 (hb:p=ac.length∨ ¬ G ac p=G (bg M (G pattern k)) j):¬ bz M pattern=ac:=by
 intro e
 have e1:bz M pattern=bz M (pattern.take k)++bg M (G pattern k)++bz M (pattern.drop (k+1)):=by
  rw[<-j5 hk,<-uZ,take_append_drop]
 have hl:p=(bz M (pattern.take k)).length+j:=by
  have:=congrArg List.length h
  rw[length_take,length_append,length_take]at this
  omega
 have hlen:(bz M pattern).length=ac.length:=by rw[e]
 rw[e1,length_append,length_append]at hlen
 rcases hb with hb | hb
 · omega
 · apply hb
   have dv:ac[p]?=some (G (bg M (G pattern k)) j):=by
    rw[<-e,e1,List.append_assoc,List.getElem?_append_right oz,List.getElem?_append_left oz]
    rw[hl,Nat.add_sub_cancel_left]
    exact mF hj
   rw[G,getD_eq_getElem?_getD,dv]
   rfl
theorem D3 {M:BM} {pattern ac:List BA} {p:Nat} (h:ac.take p=bz M pattern) (hp:p<=ac.length):decide (((p:Nat):Int)=((ac.length:Nat):Int))=decide (bz M pattern=ac):=by
 congr 1
 apply propext
 constructor
 · intro e
   rw[<-h,List.take_of_length_le oz]
 · intro e
   have:=congrArg List.length h
   rw[e,length_take]at this
   omega
end Go.Proofs.YtdfadihhfppjaaaGreatDoor
