/-
  THE STACK MACHINE AS DATA (plain): letters, items, steps, runs.
  THE ENGINE: a struct of which only some fields are given; an array of two at an index.
  THE ENGINE: a region in which several operations turn what is owned, in whatever order the text leaves open.
-/
import Derived.Test.YtapelgeodldlcaaGreatDoorXW
import Derived.Lib.Join
namespace Go.Proofs.YtapelgeodldlcaaGreatDoor
def ZaB {α:Type} (x y:α) (k:Nat):α:=if k=0 then x else y
structure Lt where
 number:Int
 tagged:Bool
instance instInhLt:Inhabited Lt:=⟨⟨0,false⟩⟩
def ltC (l:Lt):List CD:=[.lit (.int .i64 l.number),.lit (.bool l.tagged)]
def ZuQ (l:Lt):Value:=.agg #[.int .i64 l.number,.bool l.tagged]
structure Itm where
 kind:Int
 text:List ByteArray
 number:Int
 tagged:Bool
instance instInhItm:Inhabited Itm:=⟨⟨0,[],0,false⟩⟩
def itC (x:Itm):List CD:=[.lit (.int .i64 x.kind),Zb x.text,.lit (.int .i64 x.number),.lit (.bool x.tagged)]
def XL (l:List Itm):CD:=.sl (l.map itC)
def vdC (p:Int×Int):List CD:=[.lit (.int .i64 p.1),.lit (.int .i64 p.2)]
def lettersD:List UInt8→Int→Bool→List Lt×Bool
 | [],_,inside=>([],inside)
 | b::r,n,inside=>
  if decide (85≤b.toNat)&&decide (b.toNat≤89)then
   if 1000000<5*n+((b.toNat:Int)-85)+1 then([],true)else lettersD r (5*n+((b.toNat:Int)-85)+1) true
  else if decide (65≤b.toNat)&&decide (b.toNat≤84)then
   if 1000000<20*n+((b.toNat:Int)-65)+1 then([],true)
   else match r with
    | []=>([⟨20*n+((b.toNat:Int)-65)+1,false⟩],false)
    | c::r'=>if c.toNat=90 then(⟨20*n+((b.toNat:Int)-65)+1,true⟩::(lettersD r' 0 false).1,(lettersD r' 0 false).2)
     else(⟨20*n+((b.toNat:Int)-65)+1,false⟩::(lettersD (c::r') 0 false).1,(lettersD (c::r') 0 false).2)
  else if decide (b.toNat=63)&& !inside then(⟨0,false⟩::(lettersD r n inside).1,(lettersD r n inside).2)
  else([],true)
 termination_by l=>l.length
def YB (s:ByteArray):List Lt×Bool:=lettersD s.data.toList 0 false
theorem QV (b:UInt8) (r:List UInt8) (n:Int) (inside:Bool):lettersD (b::r) n inside=
 if decide (85≤b.toNat)&&decide (b.toNat≤89)then
  if 1000000<5*n+((b.toNat:Int)-85)+1 then([],true)else lettersD r (5*n+((b.toNat:Int)-85)+1) true
 else if decide (65≤b.toNat)&&decide (b.toNat≤84)then
  if 1000000<20*n+((b.toNat:Int)-65)+1 then([],true)
  else match r with
   | []=>([⟨20*n+((b.toNat:Int)-65)+1,false⟩],false)
   | c::r'=>if c.toNat=90 then(⟨20*n+((b.toNat:Int)-65)+1,true⟩::(lettersD r' 0 false).1,(lettersD r' 0 false).2)
    else(⟨20*n+((b.toNat:Int)-65)+1,false⟩::(lettersD (c::r') 0 false).1,(lettersD (c::r') 0 false).2)
 else if decide (b.toNat=63)&& !inside then(⟨0,false⟩::(lettersD r n inside).1,(lettersD r n inside).2)
 else([],true):=by
 rw[lettersD.eq_def]
theorem QU {D:List UInt8} {p:Nat} (h:p<D.length):D.drop p=ge D p::D.drop (p+1):=by rw[List.drop_eq_getElem_cons h,Xc h]
section
variable {D:List UInt8} {p:Nat} {n:Int} {ins:Bool} (h:p<D.length)
include h
theorem let_U (h1:85≤(ge D p).toNat∧(ge D p).toNat≤89):lettersD (D.drop p) n ins=if 1000000<5*n+(((ge D p).toNat:Int)-85)+1 then([],true)else lettersD (D.drop (p+1)) (5*n+(((ge D p).toNat:Int)-85)+1) true:=by
 rw[QU h,QV,if_pos (by simp[h1])]
variable (h1:¬ (85≤(ge D p).toNat∧(ge D p).toNat≤89))
include h1
theorem Zth (h2:65≤(ge D p).toNat∧(ge D p).toNat≤84) (h3:1000000<20*n+(((ge D p).toNat:Int)-65)+1):lettersD (D.drop p) n ins=([],true):=by
 rw[QU h,QV,if_neg (by simpa using h1),if_pos (by simp[h2]),if_pos h3]
theorem let_Z (h2:65≤(ge D p).toNat∧(ge D p).toNat≤84) (h3:¬ 1000000<20*n+(((ge D p).toNat:Int)-65)+1) (h4:p+1<D.length) (h5:(ge D (p+1)).toNat=90):lettersD (D.drop p) n ins=(⟨20*n+(((ge D p).toNat:Int)-65)+1,true⟩::(lettersD (D.drop (p+1+1)) 0 false).1,(lettersD (D.drop (p+1+1)) 0 false).2):=by
 rw[QU h,QU h4,QV,if_neg (by simpa using h1),if_pos (by simp[h2]),if_neg h3]
 simp only[h5,if_pos]
theorem let_N (h2:65≤(ge D p).toNat∧(ge D p).toNat≤84) (h3:¬ 1000000<20*n+(((ge D p).toNat:Int)-65)+1) (h4:¬ (p+1<D.length∧(ge D (p+1)).toNat=90)):lettersD (D.drop p) n ins=(⟨20*n+(((ge D p).toNat:Int)-65)+1,false⟩::(lettersD (D.drop (p+1)) 0 false).1,(lettersD (D.drop (p+1)) 0 false).2):=by
 rw[QU h,QV,if_neg (by simpa using h1),if_pos (by simp[h2]),if_neg h3]
 by_cases h6:p+1<D.length
 · rw[QU h6]
   simp only[if_neg (show ¬ (ge D (p+1)).toNat=90 from fun e=>h4 ⟨h6,e⟩)]
 · rw[List.drop_eq_nil_of_le (by omega)]
   simp[lettersD]
variable (h2:¬ (65≤(ge D p).toNat∧(ge D p).toNat≤84))
include h2
theorem let_Q (h3:(ge D p).toNat=63) (h4:ins=false):lettersD (D.drop p) n ins=(⟨0,false⟩::(lettersD (D.drop (p+1)) n ins).1,(lettersD (D.drop (p+1)) n ins).2):=by
 rw[QU h,QV,if_neg (by simpa using h1),if_neg (by simpa using h2),if_pos (by simp[h3,h4])]
theorem Zti (h3:¬ ((ge D p).toNat=63∧ins=false)):lettersD (D.drop p) n ins=([],true):=by
 rw[QU h,QV,if_neg (by simpa using h1),if_neg (by simpa using h2),if_neg (by simpa using h3)]
end
theorem Zm9 {D:List UInt8} {p:Nat} {n:Int} {ins:Bool} (h:¬ p<D.length):lettersD (D.drop p) n ins=([],ins):=by
 rw[List.drop_eq_nil_of_le (by omega),lettersD]
def Zaj (fs:List Fr):List (ByteArray×Int):=fs.zipIdx.foldl (fun m p=>QT m p.1.label (p.2:Int)) []
def ZcB (f:Fr) (label:ByteArray):Option Hy:=(f.hyps++f.dummies).find? fun h=>decide (h.label=label)
theorem ge_z {α:Type} [Inhabited α] (x:α) (l:List α):ge (x::l) 0=x:=rfl
theorem ge_s {α:Type} [Inhabited α] (x:α) (l:List α) (k:Nat):ge (x::l) (k+1)=ge l k:=by simp[ge]
theorem Znn {f:Fr} {s:ByteArray} {k j:Nat} (hk:k<2) (h1:∀ i,i<k→∀ h∈ZaB f.hyps f.dummies i,¬ h.label=s) (hj:j< (ZaB f.hyps f.dummies k).length) (h2:∀ i,i<j→¬ (ge (ZaB f.hyps f.dummies k) i).label=s) (h3:(ge (ZaB f.hyps f.dummies k) j).label=s):ZcB f s=some (ge (ZaB f.hyps f.dummies k) j):=by
 have key:∀(l:List Hy) (j:Nat),j<l.length→(∀ i,i<j→¬ (ge l i).label=s)→(ge l j).label=s→l.find? (fun h=>decide (h.label=s))=some (ge l j):=by
  intro l
  induction l with
  | nil=>intro j hj;simp at hj
  | cons x r ih=>
   intro j hj h2 h3
   cases j with
   | zero=>simp only[ge_z]at h3 ⊢;simp[h3]
   | succ j=>
    have h4:=h2 0 (by omega)
    simp only[ge_z,ge_s]at h3 h4 ⊢
    rw[List.find?_cons_of_neg (by simpa using h4)]
    exact ih j (by simpa using hj) (fun i hi=>by have:=h2 (i+1) (by omega);simpa only[ge_s]using this) h3
 unfold ZcB
 rw[List.find?_append]
 match k,hk with
 | 0,_=>simp only[ZaB,if_pos]at hj h2 h3 ⊢;rw[key _ _ hj h2 h3];rfl
 | 1,_=>
  simp only[ZaB,if_neg (show ¬ (1:Nat)=0 by omega)]at hj h2 h3 ⊢
  rw[List.find?_eq_none.2 fun x hx=>by simpa using h1 0 (by omega) x (by simpa [ZaB]using hx),key _ _ hj h2 h3];rfl
theorem ZgW {f:Fr} {s:ByteArray} (h1:∀ i,i<2→∀ h∈ZaB f.hyps f.dummies i,¬ h.label=s):ZcB f s=none:=by
 unfold ZcB
 rw[List.find?_eq_none]
 intro x hx
 rcases List.mem_append.1 hx with hx | hx
 · simpa using h1 0 (by omega) x (by simpa [ZaB]using hx)
 · simpa using h1 1 (by omega) x (by simpa [ZaB]using hx)
theorem Zsj {f:Fr} {k:Nat} {x:Hy} (h:x∈ZaB f.hyps f.dummies k):x∈f.hyps++f.dummies:=by
 unfold ZaB at h
 split at h<;>simp[h]
def ZY (f:Fr) (M:List (ByteArray×Int)) (label:ByteArray):Itm:=
 if decide (label=(⟨#[63]⟩:ByteArray))then⟨0,[],0,false⟩
 else match ZcB f label with
  | some h=>⟨1,h.text,0,false⟩
  | none=>match ZB M label with
   | some n=>⟨2,[],n,false⟩
   | none=>⟨3,[],0,false⟩
section
variable {f:Fr} {M:List (ByteArray×Int)} {s:ByteArray}
theorem ZmY (h:s=⟨#[63]⟩):ZY f M s=⟨0,[],0,false⟩:=by simp[ZY,h]
theorem ZmX (h:¬ s=⟨#[63]⟩) (h2:(ZcB f s).isSome=true):ZY f M s=⟨1,((ZcB f s).getD default).text,0,false⟩:=by
 obtain⟨x,hx⟩:=Option.isSome_iff_exists.1 h2
 simp[ZY,h,hx]
theorem ZmW (h:¬ s=⟨#[63]⟩) (h2:¬ (ZcB f s).isSome=true) (h3:(ZB M s).isSome=true):ZY f M s=⟨2,[],(ZB M s).getD default,false⟩:=by
 obtain⟨x,hx⟩:=Option.isSome_iff_exists.1 h3
 simp at h2
 simp[ZY,h,h2,hx]
theorem ZmV (h:¬ s=⟨#[63]⟩) (h2:¬ (ZcB f s).isSome=true) (h3:¬ (ZB M s).isSome=true):ZY f M s=⟨3,[],0,false⟩:=by
 simp at h2 h3
 simp[ZY,h,h2,h3]
end
def ZaJ (l:List ByteArray):Bool:=decide (0<l.length)&&decide (ge l 0=(⟨#[40]⟩:ByteArray))
def isV (s x:ByteArray):Bool:=decide (s=x)
def Zey (l:List ByteArray) (s:ByteArray):ByteArray:=⟨(Lib.join (l.map (·.data.toList)) s.data.toList).toArray⟩
def XZ (proof:List ByteArray):Option (List ByteArray×ByteArray):=
 let k:=Yz (isV ⟨#[41]⟩) proof
 if k<0 then none
 else if((proof.take k.toNat).drop 1).any fun w=>!Zc3 w then none
 else some ((proof.take k.toNat).drop 1,Zey (proof.drop (k.toNat+1)) ⟨#[]⟩)
def ZcZ (l:List ByteArray):Nat:=(l.map (·.size)).sum
theorem ZlE (x:ByteArray):x.data.toList.length=x.size:=rfl
theorem Zjq:∀ l:List ByteArray,(Lib.join (l.map (·.data.toList)) []).length=ZcZ l
 | []=>rfl
 | [x]=>by
  rw[List.map_cons,List.map_nil,Lib.join_one,ZlE]
  simp[ZcZ]
 | x::y::r=>by
  have h:=Zjq (y::r)
  simp only[Lib.join,List.intercalate,List.map_cons,ZcZ,List.sum_cons]at h ⊢
  rw[List.intersperse_cons_cons]
  simp only[List.flatten_cons,List.length_append,List.length_nil,Nat.zero_add,h,ZlE]
theorem ZlH (l:List ByteArray) (k:Nat):ZcZ (l.drop k)≤ZcZ l:=by
 have h:ZcZ (l.take k++l.drop k)=ZcZ (l.take k)+ZcZ (l.drop k):=by
  unfold ZcZ
  rw[List.map_append,List.sum_append]
 rw[List.take_append_drop]at h
 omega
theorem ZgR (l:List ByteArray) (k:Nat):(Lib.join ((l.drop k).map (·.data.toList)) (⟨#[]⟩:ByteArray).data.toList).length≤ZcZ l:=by
 have:=Zjq (l.drop k)
 have:=ZlH l k
 show(Lib.join ((l.drop k).map (·.data.toList)) []).length≤ZcZ l
 omega
theorem ZrG {l:List ByteArray} (h0:ZaJ l=true) (h:¬ Yz (isV ⟨#[41]⟩) l<0):1≤(Yz (isV ⟨#[41]⟩) l).toNat∧(Yz (isV ⟨#[41]⟩) l).toNat<l.length∧0≤Yz (isV ⟨#[41]⟩) l:=by
 have h1:=Xa (p:=isV ⟨#[41]⟩) (xs:=l) (by omega)
 refine⟨?_,h1.2.1,h1.1⟩
 rcases Nat.eq_zero_or_pos (Yz (isV ⟨#[41]⟩) l).toNat with h2 | h2
 · have h3:=h1.2.2.1
   rw[h2]at h3
   simp only[ZaJ,Bool.and_eq_true,decide_eq_true_eq]at h0
   rw[h0.2]at h3
   exact absurd h3 (by decide)
 · exact h2
theorem Zpi {l:List ByteArray} (h:Yz (isV ⟨#[41]⟩) l<0):XZ l=none:=by simp only[XZ];rw[if_pos h]
theorem Zms {l:List ByteArray} (h:¬ Yz (isV ⟨#[41]⟩) l<0) (h2:(((l.take (Yz (isV ⟨#[41]⟩) l).toNat).drop 1).any fun w=>!Zc3 w)=true):XZ l=none:=by simp only[XZ];rw[if_neg h,if_pos h2]
theorem Zph {l:List ByteArray} (h:¬ Yz (isV ⟨#[41]⟩) l<0) (h2:(((l.take (Yz (isV ⟨#[41]⟩) l).toNat).drop 1).any fun w=>!Zc3 w)=false):XZ l=some ((l.take (Yz (isV ⟨#[41]⟩) l).toNat).drop 1,Zey (l.drop ((Yz (isV ⟨#[41]⟩) l).toNat+1)) ⟨#[]⟩):=by simp only[XZ];rw[if_neg h,h2];rfl
def Zdv (l:List ByteArray):Bool:=(List.range l.length).any fun j=>decide (ge l j∈l.take j)
theorem ZlA {l:List ByteArray} {k:Nat} (hk:k<l.length) (h:ge l k∈l.take k):Zdv l=true:=List.any_eq_true.2 ⟨k,by simpa using hk,by simpa using h⟩
theorem ZoI {l:List ByteArray} (h:∀ j,j<l.length→¬ ge l j∈l.take j):Zdv l=false:=List.any_eq_false.2 fun j hj=>by simpa using h j (by simpa using hj)
def QG (f:Fr) (M:List (ByteArray×Int)) (labels:List ByteArray) (tags:Nat) (l:Lt):Option Itm:=
 if l.number=0 then some ⟨0,[],0,l.tagged⟩
 else if l.number≤f.hyps.length then some ⟨1,(ge f.hyps (l.number-1).toNat).text,0,l.tagged⟩
 else if l.number≤((f.hyps.length+labels.length:Nat):Int)then some { ZY f M (ge labels (l.number-1-f.hyps.length).toNat)with tagged:=l.tagged }
 else if l.number≤((f.hyps.length+labels.length+tags:Nat):Int)then some ⟨4,[],l.number-1-f.hyps.length-labels.length,l.tagged⟩
 else none
def Yd (f:Fr) (M:List (ByteArray×Int)) (labels:List ByteArray):List Lt→Nat→Option (List Itm)
 | [],_=>some []
 | l::r,tags=>match QG f M labels tags l with
  | none=>none
  | some x=>match Yd f M labels r (if l.tagged then tags+1 else tags)with
   | none=>none
   | some xs=>some (x::xs)
def YF (f:Fr) (M:List (ByteArray×Int)) (proof:List ByteArray):Except Int (List Itm):=
 if !ZaJ proof then if 2000<proof.length then .error 10 else .ok (proof.map (ZY f M))
 else match XZ proof with
  | none=>.error 20
  | some (labels,text)=>
   if Zdv labels||labels.any fun s=>f.hyps.any fun h=>decide (h.label=s)then .error 20
   else match Yd f M labels (YB text).1 0 with
    | none=>.error 21
    | some xs=>if(YB text).2 then .error 21 else if 2000<xs.length then .error 10 else .ok xs
def ZrV (hs:List Hy) (sk:List (List ByteArray)) (b j:Nat):Option Bd:=if(ge hs j).floating then some ⟨ge (ge hs j).text 1,(ge sk (b+j)).drop 1⟩else none
def XM (hs:List Hy) (sk:List (List ByteArray)) (b k:Nat):List Bd:=(List.range k).filterMap (ZrV hs sk b)
def Zot (hs:List Hy) (sk:List (List ByteArray)) (b j:Nat):Bool:=!(ge hs j).floating||decide (ge (ge sk (b+j)) 0=ge (ge hs j).text 0)
def ZrA (hs:List Hy) (sk:List (List ByteArray)) (b:Nat) (l:List Bd) (j:Nat):Bool:=(ge hs j).floating||fitB (ge hs j).text l (ge sk (b+j))
def ZoF (vars:List ByteArray) (wide:List Pr) (g:Fr) (sk:List (List ByteArray)) (b:Nat):Except Int (List ByteArray):=
 if !(List.range g.hyps.length).all (Zot g.hyps sk b)then .error 24
 else if !(List.range g.hyps.length).all (ZrA g.hyps sk b (XM g.hyps sk b g.hyps.length))then .error 25
 else if !ZdU (Yp (XM g.hyps sk b g.hyps.length)) g.text 2000 then .error 15
 else if Zip (XM g.hyps sk b g.hyps.length) g.apart vars wide then .error 26
 else .ok (Zah (Yp (XM g.hyps sk b g.hyps.length)) g.text)
def ZcY (vars:List ByteArray) (wide:List Pr) (g:Fr) (sk:List (List ByteArray)):Except Int (List (List ByteArray)):=
 if sk.length<g.hyps.length then .error 23
 else match ZoF vars wide g sk (sk.length-g.hyps.length)with
  | .error c=>.error c
  | .ok t=>.ok (sk.take (sk.length-g.hyps.length)++[t])
theorem Zhh (hs:List Hy) (sk:List (List ByteArray)) (b k:Nat):XM hs sk b (k+1)=XM hs sk b k++(ZrV hs sk b k).toList:=by
 unfold XM
 rw[List.range_succ,List.filterMap_append]
 cases h:ZrV hs sk b k<;>simp[h]
theorem ZjV (hs:List Hy) (sk:List (List ByteArray)) (b k:Nat):(XM hs sk b k).length≤k:=by
 unfold XM
 have:=List.length_filterMap_le (ZrV hs sk b) (List.range k)
 simpa using this
theorem Zhg {hs:List Hy} {sk:List (List ByteArray)} {b k m:Nat} (hm:∀ t∈sk,t.length≤m) (hb:b+k≤sk.length):∀ x∈XM hs sk b k,x.text.length≤m:=by
 intro x hx
 obtain⟨j,hj,he⟩:=List.mem_filterMap.1 hx
 have hj:j<k:=by simpa using hj
 unfold ZrV at he
 split at he
 · cases he
   have:=hm _ (ZF (xs:=sk) (k:=b+j) (by omega))
   simp only[List.length_drop]
   omega
 · cases he
theorem QL {p:Nat→Bool} {k:Nat} (h:∀ j,j<k→p j=true):(List.range k).all p=true:=List.all_eq_true.2 fun j hj=>h j (by simpa using hj)
theorem ZcW {p:Nat→Bool} {k j:Nat} (hj:j<k) (h:p j=false):(List.range k).all p=false:=List.all_eq_false.2 ⟨j,by simpa using hj,by simp[h]⟩
section
variable {vars:List ByteArray} {wide:List Pr} {g:Fr} {sk:List (List ByteArray)} {j:Nat}
theorem Zse (h:sk.length<g.hyps.length):ZcY vars wide g sk= .error 23:=by rw[ZcY,if_pos h]
theorem Zsd (h0:¬ sk.length<g.hyps.length) (hj:j<g.hyps.length) (h:Zot g.hyps sk (sk.length-g.hyps.length) j=false):ZcY vars wide g sk= .error 24:=by
 rw[ZcY,if_neg h0,ZoF,ZcW hj h];rfl
theorem Zsc (h0:¬ sk.length<g.hyps.length) (hk:∀ j,j<g.hyps.length→Zot g.hyps sk (sk.length-g.hyps.length) j=true) (hj:j<g.hyps.length) (h:ZrA g.hyps sk (sk.length-g.hyps.length) (XM g.hyps sk (sk.length-g.hyps.length) g.hyps.length) j=false):ZcY vars wide g sk= .error 25:=by
 rw[ZcY,if_neg h0,ZoF,QL hk,ZcW hj h];rfl
variable (h0:¬ sk.length<g.hyps.length) (hk:∀ j,j<g.hyps.length→Zot g.hyps sk (sk.length-g.hyps.length) j=true) (hm:∀ j,j<g.hyps.length→ZrA g.hyps sk (sk.length-g.hyps.length) (XM g.hyps sk (sk.length-g.hyps.length) g.hyps.length) j=true)
include h0 hk hm
theorem Zsf (h:ZdU (Yp (XM g.hyps sk (sk.length-g.hyps.length) g.hyps.length)) g.text 2000=false):ZcY vars wide g sk= .error 15:=by
 rw[ZcY,if_neg h0,ZoF,QL hk,QL hm,h];rfl
theorem Zsb (h:ZdU (Yp (XM g.hyps sk (sk.length-g.hyps.length) g.hyps.length)) g.text 2000=true) (h2:Zip (XM g.hyps sk (sk.length-g.hyps.length) g.hyps.length) g.apart vars wide=true):ZcY vars wide g sk= .error 26:=by
 rw[ZcY,if_neg h0,ZoF,QL hk,QL hm,h,h2];rfl
theorem Zr9 (h:ZdU (Yp (XM g.hyps sk (sk.length-g.hyps.length) g.hyps.length)) g.text 2000=true) (h2:Zip (XM g.hyps sk (sk.length-g.hyps.length) g.hyps.length) g.apart vars wide=false):ZcY vars wide g sk= .ok (sk.take (sk.length-g.hyps.length)++[Zah (Yp (XM g.hyps sk (sk.length-g.hyps.length) g.hyps.length)) g.text]):=by
 rw[ZcY,if_neg h0,ZoF,QL hk,QL hm,h,h2];rfl
end
def Y4 (fs:List Fr) (vars:List ByteArray) (f:Fr) (sk tg:List (List ByteArray)) (x:Itm):Except Int (List (List ByteArray)):=
 if x.kind=1 then .ok (sk++[x.text])
 else if x.kind=2 then ZcY vars f.wide (ge fs x.number.toNat) sk
 else if x.kind=4 then .ok (sk++[ge tg x.number.toNat])
 else if x.kind=0 then .error 27 else .error 22
theorem Zsa {vars:List ByteArray} {wide:List Pr} {g:Fr} {sk:List (List ByteArray)} {c:Int} (h:ZcY vars wide g sk= .error c):c≠0:=by
 unfold ZcY ZoF at h
 split at h
 · injection h with h;omega
 split at h
 · rename_i e
   injection h with h
   subst h
   split at e
   · injection e with e;omega
   split at e
   · injection e with e;omega
   split at e
   · injection e with e;omega
   split at e
   · injection e with e;omega
   · cases e
 · cases h
theorem Zp1 {fs:List Fr} {vars:List ByteArray} {f:Fr} {sk tg:List (List ByteArray)} {x:Itm} {c:Int} (h:Y4 fs vars f sk tg x= .error c):c≠0:=by
 unfold Y4 at h
 split at h
 · cases h
 split at h
 · exact Zsa h
 split at h
 · cases h
 split at h<;>(injection h with h;omega)
def Zen (f:Fr) (sk:List (List ByteArray)) (k:Nat):Int×Int:=
 if sk.length≠1 then(23,(k:Int))else if !decide (ge sk 0=f.text)then(28,(k:Int))else(0,0)
structure Ms where
 sk:List (List ByteArray)
 tg:List (List ByteArray)
 n:Nat
 kn:Bool
 v:Int×Int
 did:Bool
def Zcq (f:Fr) (len:Nat) (m:Ms):Ms:=if m.n<len then m else { m with kn:=true,v:=Zen f m.sk m.n }
def ZS (fs:List Fr) (vars:List ByteArray) (f:Fr) (xs:List Itm) (m:Ms):Ms:=
 if m.kn then { m with did:=false }
 else match Y4 fs vars f m.sk m.tg (ge xs m.n)with
  | .error c=> { m with kn:=true,v:=(c,(m.n:Int)),did:=false }
  | .ok s=>Zcq f xs.length ⟨s,if(ge xs m.n).tagged=true then m.tg++[ge s ((s.length:Int)-1).toNat]else m.tg,m.n+1,m.kn,m.v,true⟩
section
variable {fs:List Fr} {vars:List ByteArray} {f:Fr} {xs:List Itm} {sk tg s:List (List ByteArray)} {n:Nat} {kn:Bool} {v:Int×Int} {b:Bool} {c:Int}
theorem Zc8 (h:kn=true):ZS fs vars f xs ⟨sk,tg,n,kn,v,b⟩=⟨sk,tg,n,kn,v,false⟩:=by simp[ZS,h]
theorem Zdy (h:kn=false) (hk:Y4 fs vars f sk tg (ge xs n)= .error c):ZS fs vars f xs ⟨sk,tg,n,kn,v,b⟩=⟨sk,tg,n,true,(c,(n:Int)),false⟩:=by simp[ZS,h,hk]
theorem Zc7 (h:kn=false) (hk:Y4 fs vars f sk tg (ge xs n)= .ok s):ZS fs vars f xs ⟨sk,tg,n,kn,v,b⟩=Zcq f xs.length ⟨s,if(ge xs n).tagged=true then tg++[ge s ((s.length:Int)-1).toNat]else tg,n+1,kn,v,true⟩:=by simp[ZS,h,hk]
theorem ZgP {x:Itm} (h:Y4 fs vars f sk tg x= .ok s):1≤s.length∧s.length≤sk.length+1:=by
 unfold Y4 at h
 split at h
 · injection h with h;subst h;simp
 split at h
 · unfold ZcY at h
   split at h
   · cases h
   split at h
   · cases h
   · injection h with h;subst h;simp
 split at h
 · injection h with h;subst h;simp
 split at h<;>cases h
abbrev GI (fs:List Fr) (vars:List ByteArray) (f:Fr) (sk tg:List (List ByteArray)) (x:Itm) (vs:Value):Type:= {q:Int×Value×List (List ByteArray) // (q.1=0∧Y4 fs vars f sk tg x= .ok q.2.2)∨(q.1≠0∧Y4 fs vars f sk tg x= .error q.1∧q.2.1=vs∧q.2.2=sk)}
theorem gi_err {x:Itm} {vs:Value} (z:GI fs vars f sk tg x vs) (h:¬ z.1.1=0):Y4 fs vars f sk tg x= .error z.1.1∧z.1.2.2=sk:=by
 rcases z.2 with h2 | h2
 · exact absurd h2.1 h
 · exact⟨h2.2.1,h2.2.2.2⟩
theorem gi_ok {x:Itm} {vs:Value} (z:GI fs vars f sk tg x vs) (h:z.1.1=0):Y4 fs vars f sk tg x= .ok z.1.2.2:=by
 rcases z.2 with h2 | h2
 · exact h2.2
 · exact absurd h h2.1
end
def okI (frames tags:Nat) (x:Itm):Prop:=0≤x.kind∧x.kind≤4∧(x.kind=2→0≤x.number∧x.number<frames)∧(x.kind=4→0≤x.number∧x.number<tags)
def okF (g:Fr):Prop:=g.hyps.length≤2000∧∀ h∈g.hyps,h.floating=true→h.text.length=2
def Zga (fs:List Fr) (vars:List ByteArray) (f:Fr) (xs:List Itm):Nat→Ms→Ms
 | 0,m=>m
 | k+1,m=>Zga fs vars f xs k (ZS fs vars f xs m)
def X6 (f:Fr) (r:Except Int (List Itm)):List Itm×Ms:=
 match r with
 | .error c=>([],⟨[],[],0,true,(c,0),true⟩)
 | .ok xs=>(xs,Zcq f xs.length ⟨[],[],0,false,(0,0),true⟩)
def QZ (d:Db) (z:Int):Int:=if ¬ Qf d=0 then Qf d else if z<0∨(d.frames.length:Int)≤z then 5 else 0
def Zeo (fs:List Fr) (vars:List ByteArray) (f:Fr) (M:List (ByteArray×Int)) (proof:List ByteArray):Int×Int:=
 let s:=X6 f (YF f M proof)
 (Zga fs vars f s.1 (s.1.length+1) s.2).v
end Go.Proofs.YtapelgeodldlcaaGreatDoor
namespace Go.Proofs.YtapelgeodldlcaaGreatDoor
open Go.RowKit
theorem Zg4 {k:Nat} {place:Nat→Option (Nat×Nat)} (hp:∀ j,j<k→place j=some (j,1)):∀(ps:List (Nat×Value)) (cells:Array Value),cells.size=k→(∀ p∈ps,p.1<k∧p.2.oneCell'=true)→
 Instr.fill place cells ps=some (ps.foldl (fun c p=>c.setIfInBounds p.1 p.2) cells)
 | [],_,_,_=>by simp[Instr.fill]
 | (i,u)::ps,cells,hc,h1=>by
  obtain⟨h2,h3⟩:=h1 (i,u) (by simp)
  have hcell:u.cells= #[u]:=by revert h3;cases u<;>simp[Value.cells,Value.oneCell']
  simp only[Instr.fill,hp i h2,hcell]
  rw[if_neg (by simp;omega)]
  have e:(Array.foldl (fun cs (x:Value×Nat)=>cs.setIfInBounds (i+x.snd) x.fst) cells #[u].zipIdx)=cells.setIfInBounds i u:=rfl
  rw[e,Zg4 hp ps _ (by simpa using hc) fun p hq=>h1 p (by simp[hq])]
  rfl
def Zem (P:Program) (t:TypeId) (z:List Value):Prop:=∃ place:Nat→Option (Nat×Nat),(∀ j,j<z.length→place j=some (j,1))∧∀ parts,P.built t parts=Instr.fill place z.toArray parts
theorem Xk {P:Program} {n:Rn} {S:Nat→Prop} {X:World→Prop} {o:Oper} {a:Act} {w:World} {t:TypeId} {z:List Value} {parts:Array (Nat×Operand)} {ps:List (Nat×Value)} {us:List Value} {cs:List CD} (h1:Zem P t z) (hop:o.op= .build t parts) (hp:(parts.map fun(i,x)=>(i,a.eval x)).toList=ps) (hq:∀ p∈ps,p.1<z.length∧p.2.oneCell'=true)
 (hu:ps.foldl (fun c p=>c.set p.1 p.2) z=us) (h:RdL S w cs us) (hx:X w):Z5 n P o a w (Yu S X (.agg cs) w):=by
 obtain⟨place,hpl,hb⟩:=h1
 have hf:=Zg4 hpl ps z.toArray (by simp) hq
 have hfold:∀(ps:List (Nat×Value)) (z:List Value),ps.foldl (fun c p=>c.setIfInBounds p.1 p.2) z.toArray=(ps.foldl (fun c p=>c.set p.1 p.2) z).toArray:=by
  intro ps
  induction ps with
  | nil=>intro z;rfl
  | cons p ps ih=>intro z;simp only[List.foldl_cons,List.setIfInBounds_toArray,ih]
 have hrun:=run_build (P:=P) w t (parts.map fun(i,x)=>(i,a.eval x)) us.toArray (by
  rw[hp,hb,hf,hfold,hu])
 refine Zt (v:=.agg us.toArray) ?_ (by simp only[Rel];exact⟨us,rfl,h⟩) hx
 rw[execOp,hop]
 simp only[Sem.run_bind]
 rw[hrun]
 rfl
theorem XU {S:Nat→Prop} {w:World} {c:CD} {cs:List CD} {u:Value} {us:List Value} (h:Rd S w c u) (k:RdL S w cs us):RdL S w (c::cs) (u::us):=⟨h,k⟩
theorem Rel.oneC {S:Nat→Prop} {w:World} {c:CD} {u:Value} (h:Rel S w (.rd c) u):u.oneCell'=true:=by
 simp only[Rel]at h
 exact h.one
theorem ZjY {k i:Nat} {u:Value} {ps:List (Nat×Value)} (hi:i<k) (h:u.oneCell'=true) (hr:∀ p∈ps,p.1<k∧p.2.oneCell'=true):∀ p∈(i,u)::ps,p.1<k∧p.2.oneCell'=true:=by
 intro p hp
 rcases List.mem_cons.1 hp with rfl | hp
 · exact⟨hi,h⟩
 · exact hr p hp
theorem ZjZ {k:Nat}:∀ p∈([]:List (Nat×Value)),p.1<k∧p.2.oneCell'=true:=by simp
theorem r_gtrS {P:Program} {n:Rn} {S:Nat→Prop} {X:World→Prop} {o:Oper} {a:Act} {w:World} {t u:TypeId} {x y:Operand} {i j:ByteArray} (hop:o.op= .binOp .gtr t x y u) (h1:Rel S w (.str i) (a.eval x)) (h2:Rel S w (.str j) (a.eval y)) (hx:X w):Z5 n P o a w (Yu S X (.bool (!(Op.bytesLess i.toList j.toList||decide (i=j)))) w):=
 ZaG True.intro (Za1 ..) (by simp only[binOp,Op.stringOp,Zaf];rfl) hop h1 h2 hx
section
variable {n:Rn} {N:Nat} {P:Program} {J X:World→Prop} {S S' S'':Nat→Prop} {O:List OB} {w0:World} {env:List (Nat×AV)} {Q:Exit→Act→World→Prop}
variable {o:Oper} {a:Act} {w:World} {x y:Operand} {t:TypeId} {b:Nat} {cs:List CD}
theorem Zfv {fn:Func} {d m q u:Nat} {k:Nat} {cs':List CD} {r1 r2:AV} (hr:fn.results= #[.cell d t,.tmp u]) (h1:X4 P t k) (h:St All (SO S (OB.var b cs::O)) w0 N env (XO J S w0.heap.size (OB.var b cs::O)) a w) (he:env[m]?=some (d,.at b 0)) (hl:cs.length=k) (hE:cs=cs') (he2:env[q]?=some (u,r1)) (hE2:r1=r2):
 bodyPost P fn (fun e w'=>∃ v,e= .returned v∧Rel S w' (.tup [.agg cs',r2]) v∧Keeps All w0 w'∧J w') .ret a w:=by
 subst hE
 subst hE2
 obtain⟨h0,us,e,hb,hrd⟩:=h.x.2.1 (OB.var b cs) (by simp)
 have hd:a.tmps.getD d undef= .pointer (some ⟨b,0,none⟩):=(h.get m he).lit
 have hrun:=YN (P:=P) b 0 w us 0 #[] fun j u hj=>by rw[Nat.zero_add];simp[World.cell?,hb,hj]
 rw[show us.length=k by rw[hrd.length,hl]]at hrun
 have hd':a.tmps[d]?.getD undef= .pointer (some ⟨b,0,none⟩):=by rw[←Array.getD_eq_getD_getElem?];exact hd
 refine⟨h.defs,.tuple #[.agg us.toArray,a.tmps.getD u undef],by simp[results,hr,hd',asAddr,Sem.run_bind,loadVar,loadCells,h1.1 w,h1.2 w,hrun],_,rfl,?_,h.keep,h.x.1⟩
 have h2:=(h.get q he2).sub (T:=S) fun _ _ hk=>hk.1
 simp only[Rel,RelL]
 exact⟨_,rfl,_,_,rfl,⟨us,rfl,hrd.sub fun _ _ hk=>hk.1⟩,_,_,rfl,h2,rfl⟩
end
section
variable {N:Nat} {J:World→Prop} {S:Nat→Prop} {O:List OB} {w0:World} {env:List (Nat×AV)} {a:Act} {w:World} {b:Nat} {cs cs':List CD}
theorem ZiQ {k:Nat} (h:SO S (OB.var b cs::O) k):SO S (OB.var b cs'::O) k:=⟨h.1,fun p hp=>by
 rcases List.mem_cons.1 hp with rfl | hp
 · exact h.2 (OB.var b cs) (by simp)
 · exact h.2 p (by simp[hp])⟩
theorem ZbX {v:Value} {e:TypeId} {size:Nat} {rows:List (List CD)} {j:Nat} (hS:∀ b,w0.heap.size≤b→S b) (hj:cs[j]?=some (.lit v)) (hc:cs'=cs.set j (.sl rows)) (h:St All (SO S (OB.row v e size rows::OB.var b cs::O)) w0 N env (XO J S w0.heap.size (OB.row v e size rows::OB.var b cs::O)) a w):
 St All (SO S (OB.var b cs'::O)) w0 N env (XO J S w0.heap.size (OB.var b cs'::O)) a w:=by
 have h':=Zy h
 have hrow:=ZeM (v:=v) (e:=e) (size:=size) (rows:=rows) (Zch hS h) (OB.sub (h.x.2.1 (OB.row v e size rows) (by simp)) fun k _ hk=>hk.drop)
 refine⟨h'.defs,h'.size,h'.keep,⟨h'.x.1,fun p hp=>?_,?_⟩,fun p hp=>⟨(h'.env p hp).1,(h'.env p hp).2.sub fun _ _ hk=>ZiQ hk⟩⟩
 · rcases List.mem_cons.1 hp with rfl | hp
   · obtain⟨h0,us,e',hb,hr⟩:=h'.x.2.1 (OB.var b cs) (by simp)
     refine⟨h0,us,e',hb,RdL.of_get (by rw[hc,List.length_set];exact hr.length) fun i c u h1 h2=>?_⟩
     rw[hc,List.getElem?_set]at h1
     split at h1
     · rename_i hij
       subst hij
       split at h1
       · cases h1
         obtain rfl:=(hr.get hj h2).of_lit
         simp only[Rel]at hrow
         exact hrow.sub fun _ _ hk=>ZiQ hk
       · cases h1
     · exact(hr.get h1 h2).sub fun _ _ hk=>ZiQ hk
   · exact OB.sub (h'.x.2.1 p (List.mem_cons_of_mem _ hp)) fun _ _ hk=>ZiQ hk
 · have:=List.pairwise_cons.1 h'.x.2.2
   exact List.pairwise_cons.2 ⟨fun p hp k h1 h2=>this.1 p hp k h1 h2,this.2⟩
end
theorem two_at {α:Type} {f:α→CD} {x y:α} {k:Nat} (h:k<2):([f x,f y]:List CD)[((k:Nat):Int).toNat]?=some (f (ZaB x y k)):=by
 match k,h with
 | 0,_=>rfl
 | 1,_=>rfl
section
variable {n:Rn} {P:Program} {l:List Oper} {Q:Exit→Act→World→Prop}
variable {N:Nat} {J:World→Prop} {S:Nat→Prop} {O:List OB} {w0:World} {env:List (Nat×AV)} {avs:Nat→AV} {conds:Nat→Bool} {T:Array Value} {γ:Type}
def Zkn (D:Nat→Bool) (k:Nat):Nat→Bool:=fun j=>if j=k then true else D j
def EffR (n:Rn) (P:Program) (J:World→Prop) (S:Nat→Prop) (w0:World) (env:List (Nat×AV)) (l:List Oper) (avs:Nat→AV) (conds:Nat→Bool) (Stg:(Nat→Bool)→γ→List OB) (sv:Nat→γ→Value) (ch:List Nat) (k i:Nat):Prop:=
 ∃ o,l[i]?=some o∧o.guard=none∧conds i=true∧
  ∀ D g a w,D k=false→(∀ k' i',ch[k']?=some i'→ZaF l l.length i i'=true→D k'=true)→(∀ k1 k2 i1 i2,ch[k1]?=some i1→ch[k2]?=some i2→D k1=true→ZaF l l.length i1 i2=true→D k2=true)→
   Keeps All w0 w→XO J S w0.heap.size (Stg D g) w→Look (SO S (Stg D g)) w env l avs conds i a→(∀(k' i':Nat) (o':Oper) (d:Nat),D k'=true→ch[k']?=some i'→l[i']?=some o'→o'.dst=some d→a.eval (.tmp d)=sv k' g)→
   Z5 n P o a w fun v w'=>∃ g',(∀ k',D k'=true→sv k' g'=sv k' g)∧(o.dst.isSome=true→v=sv k g')∧Rel (SO S (Stg (Zkn D k) g')) w' (avs i) v∧ZaM J S w0 (Stg D g) w (Stg (Zkn D k) g') w'
structure DInv (J:World→Prop) (S:Nat→Prop) (w0:World) (N:Nat) (env:List (Nat×AV)) (l:List Oper) (avs:Nat→AV) (conds:Nat→Bool) (T:Array Value) (Stg:(Nat→Bool)→γ→List OB) (sv:Nat→γ→Value) (ch:List Nat) (D:Nat→Bool) (g:γ) (b:Nat→Bool) (a:Act) (w:World):Prop where
 inv:RInv All (SO S (Stg D g)) (SO S (Stg D g)) w0 N env (XO J S w0.heap.size (Stg D g)) l avs conds T b a w
 done:∀(k i:Nat),ch[k]?=some i→b i=D k
 out:∀ k,ch.length≤k→D k=false
 slot:∀(k i:Nat) (o:Oper) (d:Nat),D k=true→ch[k]?=some i→l[i]?=some o→o.dst=some d→a.tmps.getD d undef=sv k g
theorem ZoZ (Or:List OB) {id:Nat} {draw:Bool} {a:Act} {w:World} (avs:Nat→AV) (conds:Nat→Bool) (env':List (Nat×(γ→AV))) (Stg:(Nat→Bool)→γ→List OB) (sv:Nat→γ→Value) (ch:List Nat) (g0:γ) (h0:∀ g,Stg (fun _=>false) g=O)
 (h:St All (SO S O) w0 N env (XO J S w0.heap.size O) a w) (hJ:Stab J) (hm:P.follows .mixedOrders=true) (hu:Y3 l=true) (hN:Zaz l N=true) (hback:Zbx l=true) (hnd:Zjg ch=true)
 (hsub:∀ D g p,p∈Or→p∈Stg D g) (ob:Obs (ObP n P J S Or w0 env l avs conds ch) 0 l) (eff:Effs (EffR n P J S w0 env l avs conds Stg sv ch) 0 ch) (hf:FromGs env l avs conds sv ch env')
 (hq:∀ g a w,St All (SO S (Stg (fun k=>decide (k<ch.length)) g)) w0 N (env'.map fun p=>(p.1,p.2 g)) (XO J S w0.heap.size (Stg (fun k=>decide (k<ch.length)) g)) a w→Q .normal a w):(Code.region id l.toArray draw).wpIn n.F n.d P Q a w:=by
 have start:∀ w',Keeps All w w'→DInv J S w0 N env l avs conds a.tmps Stg sv ch (fun _=>false) g0 (fun _=>false) a w':=fun w' hk=>
  ⟨by
   rw[h0]
   exact⟨h.defs,h.size,h.keep.trans hk,Yw hJ _ _ hk h.x,fun _ _=>rfl,fun _ _ _ _ _ e _=>(by cases e),fun _ _ _ _ _ e _=>(by cases e),fun _ _ _ e=>(by cases e),fun _ h=>h,fun p hp=>⟨(h.env p hp).1,(h.env p hp).2.on hk⟩⟩,
   fun _ _ _=>rfl,fun _ _=>rfl,fun _ _ _ _ hk=>by cases hk⟩
 have hnodup:∀(k k' i:Nat),ch[k]?=some i→ch[k']?=some i→k=k':=fun k k' i h1 h2=>by
  have g1:=List.all_eq_true.1 hnd (i,k) (by rw[List.mem_zipIdx_iff_getElem?];simpa using h1)
  have g2:=List.all_eq_true.1 g1 (i,k') (by rw[List.mem_zipIdx_iff_getElem?];simpa using h2)
  simpa using g2
 refine Zfl (I:=fun b a' w'=>∃ D g,DInv J S w0 N env l avs conds a.tmps Stg sv ch D g b a' w') hm hback ?_ ?_ ⟨_,g0,start w (Keeps.refl _ _)⟩ ⟨_,g0,start _ (Keeps.refl _ _).drew⟩
 · rintro Q b a1 w1 i o rest hi hb hd ⟨D,g,hg⟩ hK
   by_cases hin:∃ k:Nat,ch[k]?=some i
   · obtain⟨k,hk⟩:=hin
     obtain⟨o',ho',hgd,hc,hob⟩:=eff.get k i hk
     rw[hi]at ho';cases ho'
     simp only[Nat.zero_add]at hob
     refine wpListIn_plain hgd fun K' hKr=>?_
     refine hob D g a1 w1 (by rw[←hg.done k i hk];exact hb) (fun k' i' hk' hun=>?_) (fun k1 k2 i1 i2 h1 h2 hD hun=>?_) hg.inv.keep hg.inv.x (hg.inv.look hi hb hd) (fun k' i' o' d hk' hi' hl' hd'=>hg.slot k' i' o' d hk' hi' hl' hd') K' Q fun u w2 ⟨g',e2,e3,e4,hs⟩=>?_
     · rw[←hg.done k' i' hk']
       exact XN hg.inv.closed _ i _ o hi hd hun
     · rw[←hg.done k2 i2 h2]
       rw[←hg.done k1 i1 h1]at hD
       cases hl:l[i1]? with
       | none=>
        have:∀ f,ZaF l f i1 i2=false:=fun f=>by cases f<;>simp[ZaF,hl]
        rw[this]at hun;cases hun
       | some p=>exact XN hg.inv.closed _ _ _ p hl (hg.inv.closed _ p hl hD) hun
     refine hKr _ _ (hK _ _ ⟨Zkn D k,g',hg.inv.step3 hu hN hi hd u hs.1 hs.2.2 hs.2.1 hc e4,fun k' i' hk'=>?_,fun k' hk'=>?_,fun k' i' o' d hk' hi' hl' hd'=>?_⟩)
     · by_cases e:i'=i
       · subst e
         have:=hnodup k' k i' hk' hk
         subst this
         simp[Z1,Zkn]
       · simp only[Z1,if_neg e]
         rw[hg.done k' i' hk']
         have:k'≠k:=fun e'=>by subst e';rw[hk]at hk';cases hk';exact e rfl
         simp[Zkn,this]
     · have hkl:k<ch.length:=(List.getElem?_eq_some_iff.1 hk).1
       have:k'≠k:=by omega
       simp[Zkn,this,hg.out k' hk']
     · by_cases e:k'=k
       · subst e
         rw[hk]at hi';cases hi'
         rw[hi]at hl';cases hl'
         rw[hd',Xz _ _ _ (by rw[hg.inv.size];exact Z2 hN hi hd')]
         exact e3 (by simp[hd'])
       · have hne:i'≠i:=fun e'=>e (by subst e';exact hnodup k' k i' hi' hk)
         have hk'':D k'=true:=by simpa [Zkn,e]using hk'
         rw[Yr _ _ _ _ (fun e'=>hne (Z3 hu hl' hi hd' e'))]
         rw[hg.slot k' i' o' d hk'' hi' hl' hd',e2 k' hk'']
   · have hnin:ch.contains i=false:=by
      simp only[List.contains_eq_mem,decide_eq_false_iff_not]
      intro hmem
      obtain⟨k,hk,he⟩:=List.getElem_of_mem hmem
      exact hin ⟨k,by rw[List.getElem?_eq_getElem hk,he]⟩
     have hobi:=ZaW l 0 ob i o hi
     rw[Nat.zero_add]at hobi
     refine hg.inv.does2 hu hN hi hb hd (hobi hnin _ (hsub D g)) fun a' w' h' hsl=>hK _ _ ⟨D,g,h',fun k' i' hk'=>?_,hg.out,fun k' i' o' d hk' hi' hl' hd'=>?_⟩
     · have:i'≠i:=fun e=>hin ⟨k',e▸hk'⟩
       simp only[Z1,if_neg this]
       exact hg.done k' i' hk'
     · have hne:i'≠i:=fun e=>hin ⟨k',e▸hi'⟩
       rw[hsl d (fun e'=>hne (Z3 hu hl' hi hd' e'))]
       exact hg.slot k' i' o' d hk' hi' hl' hd'
 · rintro a1 w1 ⟨D,g,hg⟩
   have hall:∀ k,k<ch.length→D k=true:=fun k hk=>by
    have hget:ch[k]?=some (ch[k]'hk):=List.getElem?_eq_getElem _
    obtain⟨o',ho',_⟩:=eff.get k _ hget
    have hb:=hg.done k _ hget
    have hlt2:ch[k]<l.length:=(List.getElem?_eq_some_iff.1 ho').1
    simpa [hlt2]using hb.symm
   have hD:D=fun k=>decide (k<ch.length):=by
    funext k
    by_cases hk:k<ch.length
    · rw[hall k hk];simp[hk]
    · rw[hg.out k (by omega)];simp[hk]
   subst hD
   refine hq g a1 w1 ⟨hg.inv.defs,hg.inv.size,hg.inv.keep,hg.inv.x,fun p hp=>?_⟩
   obtain⟨q,hq',rfl⟩:=List.mem_map.1 hp
   cases hf.mem q hq' with
   | old m s av he hn=>
    have h1:=hg.inv.env (s,av) (List.mem_of_getElem? he)
    refine⟨h1.1,?_⟩
    show Rel _ w1 av (a1.tmps.getD s undef)
    rw[hg.inv.old s fun i o hi ho=>by
     have:=List.all_eq_true.1 hn o (List.mem_of_getElem? hi)
     simp[ho]at this]
    exact h1.2
   | new i s av hs hc he=>
    cases hi:l[i]? with
    | none=>rw[hi]at hs;cases hs
    | some o=>
     rw[hi]at hs
     have hs':o.dst=some s:=hs
     have hlt:i<l.length:=(List.getElem?_eq_some_iff.1 hi).1
     refine⟨Z2 hN hi hs',?_⟩
     have hr:=hg.inv.new i o s hi hs' (by simpa using hlt) hc
     rw[he]at hr
     exact hr
   | eff k i s f hk hs hf ho=>
    cases hi:l[i]? with
    | none=>rw[hi]at hs;cases hs
    | some o=>
     rw[hi]at hs
     have hs':o.dst=some s:=hs
     refine⟨Z2 hN hi hs',?_⟩
     have hr:=hg.slot k i o s (by simpa using(List.getElem?_eq_some_iff.1 hk).1) hk hi hs'
     simp only
     rw[hr,hf]
     exact Rel.of_lit _ (ho g)
def EffD (n:Rn) (P:Program) (J:World→Prop) (S:Nat→Prop) (w0:World) (env:List (Nat×AV)) (l:List Oper) (avs:Nat→AV) (conds:Nat→Bool) (Stg:(Nat→Bool)→γ→List OB) (sv:Nat→γ→Value) (ch:List Nat) (k i:Nat):Prop:=
 ∃ o,l[i]?=some o∧o.guard=none∧avs i= .any∧conds i=true∧
  ∀ D g a w,D k=false→(∀ k' i',ch[k']?=some i'→ZaF l l.length i i'=true→D k'=true)→(∀ k1 k2 i1 i2,ch[k1]?=some i1→ch[k2]?=some i2→D k1=true→ZaF l l.length i1 i2=true→D k2=true)→
   Keeps All w0 w→XO J S w0.heap.size (Stg D g) w→Look (SO S (Stg D g)) w env l avs conds i a→(∀(k' i':Nat) (o':Oper) (d:Nat),D k'=true→ch[k']?=some i'→l[i']?=some o'→o'.dst=some d→a.eval (.tmp d)=sv k' g)→
   Z5 n P o a w fun v w'=>∃ g',(∀ k',D k'=true→sv k' g'=sv k' g)∧(o.dst.isSome=true→v=sv k g')∧ZaM J S w0 (Stg D g) w (Stg (Zkn D k) g') w'
theorem ZrL {Stg:(Nat→Bool)→γ→List OB} {sv:Nat→γ→Value} {ch:List Nat}:∀ {k:Nat} {l':List Nat},Effs (EffD n P J S w0 env l avs conds Stg sv ch) k l'→Effs (EffR n P J S w0 env l avs conds Stg sv ch) k l'
 | _,[],_=>trivial
 | _,_::_,⟨⟨o,h1,h2,h3,h4,h5⟩,hr⟩=>⟨⟨o,h1,h2,h4,fun D g a w q1 q2 q3 q4 q5 q6 q7=>Zp (h5 D g a w q1 q2 q3 q4 q5 q6 q7) fun _ _ ⟨g',e1,e2,e3⟩=>⟨g',e1,e2,by rw[h3];simp only[Rel],e3⟩⟩,ZrL hr⟩
theorem Zo0 {id:Nat} {draw:Bool} {a:Act} {w:World} (avs:Nat→AV) (conds:Nat→Bool) (env':List (Nat×(γ→AV))) (Stg:(Nat→Bool)→γ→List OB) (sv:Nat→γ→Value) (ch:List Nat) (g0:γ) (h0:∀ g,Stg (fun _=>false) g=O)
 (h:St All (SO S O) w0 N env (XO J S w0.heap.size O) a w) (hJ:Stab J) (hm:P.follows .mixedOrders=true) (hu:Y3 l=true) (hN:Zaz l N=true) (hback:Zbx l=true) (hnd:Zjg ch=true)
 (hsub:∀ D g p,p∈O→p∈Stg D g) (ob:Obs (ObP n P J S O w0 env l avs conds ch) 0 l) (eff:Effs (EffD n P J S w0 env l avs conds Stg sv ch) 0 ch) (hf:FromGs env l avs conds sv ch env')
 (hq:∀ g a w,St All (SO S (Stg (fun k=>decide (k<ch.length)) g)) w0 N (env'.map fun p=>(p.1,p.2 g)) (XO J S w0.heap.size (Stg (fun k=>decide (k<ch.length)) g)) a w→Q .normal a w):(Code.region id l.toArray draw).wpIn n.F n.d P Q a w:=
 ZoZ O avs conds env' Stg sv ch g0 h0 h hJ hm hu hN hback hnd hsub ob (ZrL eff) hf hq
end
end Go.Proofs.YtapelgeodldlcaaGreatDoor
