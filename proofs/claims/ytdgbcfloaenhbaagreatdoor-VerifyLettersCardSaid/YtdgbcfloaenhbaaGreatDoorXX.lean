/-
  THE STACK MACHINE AS DATA (plain): letters, items, steps, runs.
  CONTRACTS of the program: substitution.
  THE ENGINE: a difference of two lengths.
  THE ENGINE: a slice that was cut to its length (slices.Clip): an append to it makes a new row.
  CONTRACTS of the program: the machine's small functions.
  THE ENGINE: elements of the tail of an own row, by address; appends to what was clipped.
-/
import Derived.Test.YtdgbcfloaenhbaaGreatDoorXW
import Derived.Lib.Join
import Derived.Test.YtdgbcfloaenhbaaGreatDoorXU
namespace Go.Proofs.YtdgbcfloaenhbaaGreatDoor
def Zaq {α:Type} (x y:α) (k:Nat):α:=if k=0 then x else y
structure Lt where
 number:Int
 tagged:Bool
instance instInhLt:Inhabited Lt:=⟨⟨0,false⟩⟩
def ltC (l:Lt):List CD:=[.lit (.int .i64 l.number),.lit (.bool l.tagged)]
def ZpN (l:Lt):Value:=.agg #[.int .i64 l.number,.bool l.tagged]
structure Itm where
 kind:Int
 text:List ByteArray
 number:Int
 tagged:Bool
instance instInhItm:Inhabited Itm:=⟨⟨0,[],0,false⟩⟩
def itC (x:Itm):List CD:=[.lit (.int .i64 x.kind),Zb x.text,.lit (.int .i64 x.number),.lit (.bool x.tagged)]
def XE (l:List Itm):CD:=.sl (l.map itC)
def Ql (l:List Lt):CD:=.sl (l.map ltC)
def vdC (p:Int×Int):List CD:=[.lit (.int .i64 p.1),.lit (.int .i64 p.2)]
def lettersD:List UInt8→Int→Bool→List Lt×Bool
 | [],_,inside=>([],inside)
 | b::r,n,inside=>
  if decide (85≤b.toNat)&&decide (b.toNat≤89)then
   if 1000000<5*n+((b.toNat:Int)-85)+1 then([],true)else lettersD r (5*n+((b.toNat:Int)-85)+1) true
  else if decide (65≤b.toNat)&&decide (b.toNat≤84)then
   if 1000000<20*n+((b.toNat:Int)-65)+1 then([],true)
   else match r with
    | []=>([⟨20*n+((b.toNat:Int)-65)+1,false⟩],false)
    | c::r'=>if c.toNat=90 then(⟨20*n+((b.toNat:Int)-65)+1,true⟩::(lettersD r' 0 false).1,(lettersD r' 0 false).2)
     else(⟨20*n+((b.toNat:Int)-65)+1,false⟩::(lettersD (c::r') 0 false).1,(lettersD (c::r') 0 false).2)
  else if decide (b.toNat=63)&& !inside then(⟨0,false⟩::(lettersD r n inside).1,(lettersD r n inside).2)
  else([],true)
 termination_by l=>l.length
def Zv (s:ByteArray):List Lt×Bool:=lettersD s.data.toList 0 false
theorem QM (b:UInt8) (r:List UInt8) (n:Int) (inside:Bool):lettersD (b::r) n inside=
 if decide (85≤b.toNat)&&decide (b.toNat≤89)then
  if 1000000<5*n+((b.toNat:Int)-85)+1 then([],true)else lettersD r (5*n+((b.toNat:Int)-85)+1) true
 else if decide (65≤b.toNat)&&decide (b.toNat≤84)then
  if 1000000<20*n+((b.toNat:Int)-65)+1 then([],true)
  else match r with
   | []=>([⟨20*n+((b.toNat:Int)-65)+1,false⟩],false)
   | c::r'=>if c.toNat=90 then(⟨20*n+((b.toNat:Int)-65)+1,true⟩::(lettersD r' 0 false).1,(lettersD r' 0 false).2)
    else(⟨20*n+((b.toNat:Int)-65)+1,false⟩::(lettersD (c::r') 0 false).1,(lettersD (c::r') 0 false).2)
 else if decide (b.toNat=63)&& !inside then(⟨0,false⟩::(lettersD r n inside).1,(lettersD r n inside).2)
 else([],true):=by
 rw[lettersD.eq_def]
theorem QL {D:List UInt8} {p:Nat} (h:p<D.length):D.drop p=ge D p::D.drop (p+1):=by rw[List.drop_eq_getElem_cons h,Y6 h]
section
variable {D:List UInt8} {p:Nat} {n:Int} {ins:Bool} (h:p<D.length)
include h
theorem Zn9 (h1:85≤(ge D p).toNat∧(ge D p).toNat≤89):lettersD (D.drop p) n ins=if 1000000<5*n+(((ge D p).toNat:Int)-85)+1 then([],true)else lettersD (D.drop (p+1)) (5*n+(((ge D p).toNat:Int)-85)+1) true:=by
 rw[QL h,QM,if_pos (by simp[h1])]
variable (h1:¬ (85≤(ge D p).toNat∧(ge D p).toNat≤89))
include h1
theorem ZlD (h2:65≤(ge D p).toNat∧(ge D p).toNat≤84) (h3:1000000<20*n+(((ge D p).toNat:Int)-65)+1):lettersD (D.drop p) n ins=([],true):=by
 rw[QL h,QM,if_neg (by simpa using h1),if_pos (by simp[h2]),if_pos h3]
theorem let_Z (h2:65≤(ge D p).toNat∧(ge D p).toNat≤84) (h3:¬ 1000000<20*n+(((ge D p).toNat:Int)-65)+1) (h4:p+1<D.length) (h5:(ge D (p+1)).toNat=90):lettersD (D.drop p) n ins=(⟨20*n+(((ge D p).toNat:Int)-65)+1,true⟩::(lettersD (D.drop (p+1+1)) 0 false).1,(lettersD (D.drop (p+1+1)) 0 false).2):=by
 rw[QL h,QL h4,QM,if_neg (by simpa using h1),if_pos (by simp[h2]),if_neg h3]
 simp only[h5,if_pos]
theorem let_N (h2:65≤(ge D p).toNat∧(ge D p).toNat≤84) (h3:¬ 1000000<20*n+(((ge D p).toNat:Int)-65)+1) (h4:¬ (p+1<D.length∧(ge D (p+1)).toNat=90)):lettersD (D.drop p) n ins=(⟨20*n+(((ge D p).toNat:Int)-65)+1,false⟩::(lettersD (D.drop (p+1)) 0 false).1,(lettersD (D.drop (p+1)) 0 false).2):=by
 rw[QL h,QM,if_neg (by simpa using h1),if_pos (by simp[h2]),if_neg h3]
 by_cases h6:p+1<D.length
 · rw[QL h6]
   simp only[if_neg (show ¬ (ge D (p+1)).toNat=90 from fun e=>h4 ⟨h6,e⟩)]
 · rw[List.drop_eq_nil_of_le (by omega)]
   simp[lettersD]
variable (h2:¬ (65≤(ge D p).toNat∧(ge D p).toNat≤84))
include h2
theorem let_Q (h3:(ge D p).toNat=63) (h4:ins=false):lettersD (D.drop p) n ins=(⟨0,false⟩::(lettersD (D.drop (p+1)) n ins).1,(lettersD (D.drop (p+1)) n ins).2):=by
 rw[QL h,QM,if_neg (by simpa using h1),if_neg (by simpa using h2),if_pos (by simp[h3,h4])]
theorem Zhh (h3:¬ ((ge D p).toNat=63∧ins=false)):lettersD (D.drop p) n ins=([],true):=by
 rw[QL h,QM,if_neg (by simpa using h1),if_neg (by simpa using h2),if_neg (by simpa using h3)]
end
theorem Zhg {D:List UInt8} {p:Nat} {n:Int} {ins:Bool} (h:¬ p<D.length):lettersD (D.drop p) n ins=([],ins):=by
 rw[List.drop_eq_nil_of_le (by omega),lettersD]
def Zbf (fs:List Fr):List (ByteArray×Int):=fs.zipIdx.foldl (fun m p=>QY m p.1.label (p.2:Int)) []
def ZcI (f:Fr) (label:ByteArray):Option Hy:=(f.hyps++f.dummies).find? fun h=>decide (h.label=label)
theorem ge_z {α:Type} [Inhabited α] (x:α) (l:List α):ge (x::l) 0=x:=rfl
theorem ge_s {α:Type} [Inhabited α] (x:α) (l:List α) (k:Nat):ge (x::l) (k+1)=ge l k:=by simp[ge]
theorem ZlT {f:Fr} {s:ByteArray} {k j:Nat} (hk:k<2) (h1:∀ i,i<k→∀ h∈Zaq f.hyps f.dummies i,¬ h.label=s) (hj:j< (Zaq f.hyps f.dummies k).length) (h2:∀ i,i<j→¬ (ge (Zaq f.hyps f.dummies k) i).label=s) (h3:(ge (Zaq f.hyps f.dummies k) j).label=s):ZcI f s=some (ge (Zaq f.hyps f.dummies k) j):=by
 have key:∀(l:List Hy) (j:Nat),j<l.length→(∀ i,i<j→¬ (ge l i).label=s)→(ge l j).label=s→l.find? (fun h=>decide (h.label=s))=some (ge l j):=by
  intro l
  induction l with
  | nil=>intro j hj;simp at hj
  | cons x r ih=>
   intro j hj h2 h3
   cases j with
   | zero=>simp only[ge_z]at h3 ⊢;simp[h3]
   | succ j=>
    have h4:=h2 0 (by omega)
    simp only[ge_z,ge_s]at h3 h4 ⊢
    rw[List.find?_cons_of_neg (by simpa using h4)]
    exact ih j (by simpa using hj) (fun i hi=>by have:=h2 (i+1) (by omega);simpa only[ge_s]using this) h3
 unfold ZcI
 rw[List.find?_append]
 match k,hk with
 | 0,_=>simp only[Zaq,if_pos]at hj h2 h3 ⊢;rw[key _ _ hj h2 h3];rfl
 | 1,_=>
  simp only[Zaq,if_neg (show ¬ (1:Nat)=0 by omega)]at hj h2 h3 ⊢
  rw[List.find?_eq_none.2 fun x hx=>by simpa using h1 0 (by omega) x (by simpa [Zaq]using hx),key _ _ hj h2 h3];rfl
theorem Zgj {f:Fr} {s:ByteArray} (h1:∀ i,i<2→∀ h∈Zaq f.hyps f.dummies i,¬ h.label=s):ZcI f s=none:=by
 unfold ZcI
 rw[List.find?_eq_none]
 intro x hx
 rcases List.mem_append.1 hx with hx | hx
 · simpa using h1 0 (by omega) x (by simpa [Zaq]using hx)
 · simpa using h1 1 (by omega) x (by simpa [Zaq]using hx)
theorem Zqg {f:Fr} {k:Nat} {x:Hy} (h:x∈Zaq f.hyps f.dummies k):x∈f.hyps++f.dummies:=by
 unfold Zaq at h
 split at h<;>simp[h]
def Z7 (f:Fr) (M:List (ByteArray×Int)) (label:ByteArray):Itm:=
 if decide (label=(⟨#[63]⟩:ByteArray))then⟨0,[],0,false⟩
 else match ZcI f label with
  | some h=>⟨1,h.text,0,false⟩
  | none=>match ZD M label with
   | some n=>⟨2,[],n,false⟩
   | none=>⟨3,[],0,false⟩
section
variable {f:Fr} {M:List (ByteArray×Int)} {s:ByteArray}
theorem Zlu (h:s=⟨#[63]⟩):Z7 f M s=⟨0,[],0,false⟩:=by simp[Z7,h]
theorem Zlt (h:¬ s=⟨#[63]⟩) (h2:(ZcI f s).isSome=true):Z7 f M s=⟨1,((ZcI f s).getD default).text,0,false⟩:=by
 obtain⟨x,hx⟩:=Option.isSome_iff_exists.1 h2
 simp[Z7,h,hx]
theorem Zls (h:¬ s=⟨#[63]⟩) (h2:¬ (ZcI f s).isSome=true) (h3:(ZD M s).isSome=true):Z7 f M s=⟨2,[],(ZD M s).getD default,false⟩:=by
 obtain⟨x,hx⟩:=Option.isSome_iff_exists.1 h3
 simp at h2
 simp[Z7,h,h2,hx]
theorem Zlr (h:¬ s=⟨#[63]⟩) (h2:¬ (ZcI f s).isSome=true) (h3:¬ (ZD M s).isSome=true):Z7 f M s=⟨3,[],0,false⟩:=by
 simp at h2 h3
 simp[Z7,h,h2,h3]
end
def Qn (l:List ByteArray):Bool:=decide (0<l.length)&&decide (ge l 0=(⟨#[40]⟩:ByteArray))
def isV (s x:ByteArray):Bool:=decide (s=x)
def ZaO (l:List ByteArray) (s:ByteArray):ByteArray:=⟨(Lib.join (l.map (·.data.toList)) s.data.toList).toArray⟩
def XL (proof:List ByteArray):Option (List ByteArray×ByteArray):=
 let k:=Z9 (isV ⟨#[41]⟩) proof
 if k<0 then none
 else if((proof.take k.toNat).drop 1).any fun w=>!QN w then none
 else some ((proof.take k.toNat).drop 1,ZaO (proof.drop (k.toNat+1)) ⟨#[]⟩)
def Zaf (l:List ByteArray):Nat:=(l.map (·.size)).sum
theorem Zkt (x:ByteArray):x.data.toList.length=x.size:=rfl
theorem ZeX:∀ l:List ByteArray,(Lib.join (l.map (·.data.toList)) []).length=Zaf l
 | []=>rfl
 | [x]=>by
  rw[List.map_cons,List.map_nil,Lib.join_one,Zkt]
  simp[Zaf]
 | x::y::r=>by
  have h:=ZeX (y::r)
  simp only[Lib.join,List.intercalate,List.map_cons,Zaf,List.sum_cons]at h ⊢
  rw[List.intersperse_cons_cons]
  simp only[List.flatten_cons,List.length_append,List.length_nil,Nat.zero_add,h,Zkt]
theorem Zc5 (l:List ByteArray) (k:Nat):Zaf (l.drop k)≤Zaf l:=by
 have h:Zaf (l.take k++l.drop k)=Zaf (l.take k)+Zaf (l.drop k):=by
  unfold Zaf
  rw[List.map_append,List.sum_append]
 rw[List.take_append_drop]at h
 omega
theorem Zge (l:List ByteArray) (k:Nat):(Lib.join ((l.drop k).map (·.data.toList)) (⟨#[]⟩:ByteArray).data.toList).length≤Zaf l:=by
 have:=ZeX (l.drop k)
 have:=Zc5 l k
 show(Lib.join ((l.drop k).map (·.data.toList)) []).length≤Zaf l
 omega
theorem Zel {l:List ByteArray} (h0:Qn l=true) (h:¬ Z9 (isV ⟨#[41]⟩) l<0):1≤(Z9 (isV ⟨#[41]⟩) l).toNat∧(Z9 (isV ⟨#[41]⟩) l).toNat<l.length∧0≤Z9 (isV ⟨#[41]⟩) l:=by
 have h1:=Qx (p:=isV ⟨#[41]⟩) (xs:=l) (by omega)
 refine⟨?_,h1.2.1,h1.1⟩
 rcases Nat.eq_zero_or_pos (Z9 (isV ⟨#[41]⟩) l).toNat with h2 | h2
 · have h3:=h1.2.2.1
   rw[h2]at h3
   simp only[Qn,Bool.and_eq_true,decide_eq_true_eq]at h0
   rw[h0.2]at h3
   exact absurd h3 (by decide)
 · exact h2
theorem Zid {l:List ByteArray} (h:Z9 (isV ⟨#[41]⟩) l<0):XL l=none:=by simp only[XL];rw[if_pos h]
theorem ZfL {l:List ByteArray} (h:¬ Z9 (isV ⟨#[41]⟩) l<0) (h2:(((l.take (Z9 (isV ⟨#[41]⟩) l).toNat).drop 1).any fun w=>!QN w)=true):XL l=none:=by simp only[XL];rw[if_neg h,if_pos h2]
theorem Zic {l:List ByteArray} (h:¬ Z9 (isV ⟨#[41]⟩) l<0) (h2:(((l.take (Z9 (isV ⟨#[41]⟩) l).toNat).drop 1).any fun w=>!QN w)=false):XL l=some ((l.take (Z9 (isV ⟨#[41]⟩) l).toNat).drop 1,ZaO (l.drop ((Z9 (isV ⟨#[41]⟩) l).toNat+1)) ⟨#[]⟩):=by simp only[XL];rw[if_neg h,h2];rfl
def XY (l:List ByteArray):Bool:=(List.range l.length).any fun j=>decide (ge l j∈l.take j)
theorem Zc4 {l:List ByteArray} {k:Nat} (hk:k<l.length) (h:ge l k∈l.take k):XY l=true:=List.any_eq_true.2 ⟨k,by simpa using hk,by simpa using h⟩
theorem ZeA {l:List ByteArray} (h:∀ j,j<l.length→¬ ge l j∈l.take j):XY l=false:=List.any_eq_false.2 fun j hj=>by simpa using h j (by simpa using hj)
def Zbg (f:Fr) (M:List (ByteArray×Int)) (labels:List ByteArray) (tags:Nat) (l:Lt):Option Itm:=
 if l.number=0 then some ⟨0,[],0,l.tagged⟩
 else if l.number≤f.hyps.length then some ⟨1,(ge f.hyps (l.number-1).toNat).text,0,l.tagged⟩
 else if l.number≤((f.hyps.length+labels.length:Nat):Int)then some { Z7 f M (ge labels (l.number-1-f.hyps.length).toNat)with tagged:=l.tagged }
 else if l.number≤((f.hyps.length+labels.length+tags:Nat):Int)then some ⟨4,[],l.number-1-f.hyps.length-labels.length,l.tagged⟩
 else none
def YC (f:Fr) (M:List (ByteArray×Int)) (labels:List ByteArray):List Lt→Nat→Option (List Itm)
 | [],_=>some []
 | l::r,tags=>match Zbg f M labels tags l with
  | none=>none
  | some x=>match YC f M labels r (if l.tagged then tags+1 else tags)with
   | none=>none
   | some xs=>some (x::xs)
def YL (f:Fr) (M:List (ByteArray×Int)) (proof:List ByteArray):Except Int (List Itm):=
 if !Qn proof then if 2000<proof.length then .error 10 else .ok (proof.map (Z7 f M))
 else match XL proof with
  | none=>.error 20
  | some (labels,text)=>
   if XY labels||labels.any fun s=>f.hyps.any fun h=>decide (h.label=s)then .error 20
   else match YC f M labels (Zv text).1 0 with
    | none=>.error 21
    | some xs=>if(Zv text).2 then .error 21 else if 2000<xs.length then .error 10 else .ok xs
def ZpV (hs:List Hy) (sk:List (List ByteArray)) (b j:Nat):Option Bd:=if(ge hs j).floating then some ⟨ge (ge hs j).text 1,(ge sk (b+j)).drop 1⟩else none
def XF (hs:List Hy) (sk:List (List ByteArray)) (b k:Nat):List Bd:=(List.range k).filterMap (ZpV hs sk b)
def Zm0 (hs:List Hy) (sk:List (List ByteArray)) (b j:Nat):Bool:=!(ge hs j).floating||decide (ge (ge sk (b+j)) 0=ge (ge hs j).text 0)
def ZpE (hs:List Hy) (sk:List (List ByteArray)) (b:Nat) (l:List Bd) (j:Nat):Bool:=(ge hs j).floating||fitB (ge hs j).text l (ge sk (b+j))
def Zne (vars:List ByteArray) (wide:List Pr) (g:Fr) (sk:List (List ByteArray)) (b:Nat):Except Int (List ByteArray):=
 if !(List.range g.hyps.length).all (Zm0 g.hyps sk b)then .error 24
 else if !(List.range g.hyps.length).all (ZpE g.hyps sk b (XF g.hyps sk b g.hyps.length))then .error 25
 else if !Zdl (Yi (XF g.hyps sk b g.hyps.length)) g.text 2000 then .error 15
 else if ZhB (XF g.hyps sk b g.hyps.length) g.apart vars wide then .error 26
 else .ok (Zaa (Yi (XF g.hyps sk b g.hyps.length)) g.text)
def ZcE (vars:List ByteArray) (wide:List Pr) (g:Fr) (sk:List (List ByteArray)):Except Int (List (List ByteArray)):=
 if sk.length<g.hyps.length then .error 23
 else match Zne vars wide g sk (sk.length-g.hyps.length)with
  | .error c=>.error c
  | .ok t=>.ok (sk.take (sk.length-g.hyps.length)++[t])
theorem ZgH (hs:List Hy) (sk:List (List ByteArray)) (b k:Nat):XF hs sk b (k+1)=XF hs sk b k++(ZpV hs sk b k).toList:=by
 unfold XF
 rw[List.range_succ,List.filterMap_append]
 cases h:ZpV hs sk b k<;>simp[h]
theorem ZiP (hs:List Hy) (sk:List (List ByteArray)) (b k:Nat):(XF hs sk b k).length≤k:=by
 unfold XF
 have:=List.length_filterMap_le (ZpV hs sk b) (List.range k)
 simpa using this
theorem ZgG {hs:List Hy} {sk:List (List ByteArray)} {b k m:Nat} (hm:∀ t∈sk,t.length≤m) (hb:b+k≤sk.length):∀ x∈XF hs sk b k,x.text.length≤m:=by
 intro x hx
 obtain⟨j,hj,he⟩:=List.mem_filterMap.1 hx
 have hj:j<k:=by simpa using hj
 unfold ZpV at he
 split at he
 · cases he
   have:=hm _ (ZM (xs:=sk) (k:=b+j) (by omega))
   simp only[List.length_drop]
   omega
 · cases he
theorem QC {p:Nat→Bool} {k:Nat} (h:∀ j,j<k→p j=true):(List.range k).all p=true:=List.all_eq_true.2 fun j hj=>h j (by simpa using hj)
theorem ZcC {p:Nat→Bool} {k j:Nat} (hj:j<k) (h:p j=false):(List.range k).all p=false:=List.all_eq_false.2 ⟨j,by simpa using hj,by simp[h]⟩
section
variable {vars:List ByteArray} {wide:List Pr} {g:Fr} {sk:List (List ByteArray)} {j:Nat}
theorem Zqd (h:sk.length<g.hyps.length):ZcE vars wide g sk= .error 23:=by rw[ZcE,if_pos h]
theorem Zqc (h0:¬ sk.length<g.hyps.length) (hj:j<g.hyps.length) (h:Zm0 g.hyps sk (sk.length-g.hyps.length) j=false):ZcE vars wide g sk= .error 24:=by
 rw[ZcE,if_neg h0,Zne,ZcC hj h];rfl
theorem Zqb (h0:¬ sk.length<g.hyps.length) (hk:∀ j,j<g.hyps.length→Zm0 g.hyps sk (sk.length-g.hyps.length) j=true) (hj:j<g.hyps.length) (h:ZpE g.hyps sk (sk.length-g.hyps.length) (XF g.hyps sk (sk.length-g.hyps.length) g.hyps.length) j=false):ZcE vars wide g sk= .error 25:=by
 rw[ZcE,if_neg h0,Zne,QC hk,ZcC hj h];rfl
variable (h0:¬ sk.length<g.hyps.length) (hk:∀ j,j<g.hyps.length→Zm0 g.hyps sk (sk.length-g.hyps.length) j=true) (hm:∀ j,j<g.hyps.length→ZpE g.hyps sk (sk.length-g.hyps.length) (XF g.hyps sk (sk.length-g.hyps.length) g.hyps.length) j=true)
include h0 hk hm
theorem Zqe (h:Zdl (Yi (XF g.hyps sk (sk.length-g.hyps.length) g.hyps.length)) g.text 2000=false):ZcE vars wide g sk= .error 15:=by
 rw[ZcE,if_neg h0,Zne,QC hk,QC hm,h];rfl
theorem Zqa (h:Zdl (Yi (XF g.hyps sk (sk.length-g.hyps.length) g.hyps.length)) g.text 2000=true) (h2:ZhB (XF g.hyps sk (sk.length-g.hyps.length) g.hyps.length) g.apart vars wide=true):ZcE vars wide g sk= .error 26:=by
 rw[ZcE,if_neg h0,Zne,QC hk,QC hm,h,h2];rfl
theorem Zp8 (h:Zdl (Yi (XF g.hyps sk (sk.length-g.hyps.length) g.hyps.length)) g.text 2000=true) (h2:ZhB (XF g.hyps sk (sk.length-g.hyps.length) g.hyps.length) g.apart vars wide=false):ZcE vars wide g sk= .ok (sk.take (sk.length-g.hyps.length)++[Zaa (Yi (XF g.hyps sk (sk.length-g.hyps.length) g.hyps.length)) g.text]):=by
 rw[ZcE,if_neg h0,Zne,QC hk,QC hm,h,h2];rfl
end
def Xd (fs:List Fr) (vars:List ByteArray) (f:Fr) (sk tg:List (List ByteArray)) (x:Itm):Except Int (List (List ByteArray)):=
 if x.kind=1 then .ok (sk++[x.text])
 else if x.kind=2 then ZcE vars f.wide (ge fs x.number.toNat) sk
 else if x.kind=4 then .ok (sk++[ge tg x.number.toNat])
 else if x.kind=0 then .error 27 else .error 22
theorem Zp9 {vars:List ByteArray} {wide:List Pr} {g:Fr} {sk:List (List ByteArray)} {c:Int} (h:ZcE vars wide g sk= .error c):c≠0:=by
 unfold ZcE Zne at h
 split at h
 · injection h with h;omega
 split at h
 · rename_i e
   injection h with h
   subst h
   split at e
   · injection e with e;omega
   split at e
   · injection e with e;omega
   split at e
   · injection e with e;omega
   split at e
   · injection e with e;omega
   · cases e
 · cases h
theorem Zoi {fs:List Fr} {vars:List ByteArray} {f:Fr} {sk tg:List (List ByteArray)} {x:Itm} {c:Int} (h:Xd fs vars f sk tg x= .error c):c≠0:=by
 unfold Xd at h
 split at h
 · cases h
 split at h
 · exact Zp9 h
 split at h
 · cases h
 split at h<;>(injection h with h;omega)
def ZdQ (f:Fr) (sk:List (List ByteArray)) (k:Nat):Int×Int:=
 if sk.length≠1 then(23,(k:Int))else if !decide (ge sk 0=f.text)then(28,(k:Int))else(0,0)
structure Ms where
 sk:List (List ByteArray)
 tg:List (List ByteArray)
 n:Nat
 kn:Bool
 v:Int×Int
 did:Bool
def Zcz (f:Fr) (len:Nat) (m:Ms):Ms:=if m.n<len then m else { m with kn:=true,v:=ZdQ f m.sk m.n }
def ZW (fs:List Fr) (vars:List ByteArray) (f:Fr) (xs:List Itm) (m:Ms):Ms:=
 if m.kn then { m with did:=false }
 else match Xd fs vars f m.sk m.tg (ge xs m.n)with
  | .error c=> { m with kn:=true,v:=(c,(m.n:Int)),did:=false }
  | .ok s=>Zcz f xs.length ⟨s,if(ge xs m.n).tagged=true then m.tg++[ge s ((s.length:Int)-1).toNat]else m.tg,m.n+1,m.kn,m.v,true⟩
section
variable {fs:List Fr} {vars:List ByteArray} {f:Fr} {xs:List Itm} {sk tg s:List (List ByteArray)} {n:Nat} {kn:Bool} {v:Int×Int} {b:Bool} {c:Int}
theorem ZcN (h:kn=true):ZW fs vars f xs ⟨sk,tg,n,kn,v,b⟩=⟨sk,tg,n,kn,v,false⟩:=by simp[ZW,h]
theorem Zc8 (h:kn=false) (hk:Xd fs vars f sk tg (ge xs n)= .error c):ZW fs vars f xs ⟨sk,tg,n,kn,v,b⟩=⟨sk,tg,n,true,(c,(n:Int)),false⟩:=by simp[ZW,h,hk]
theorem ZcM (h:kn=false) (hk:Xd fs vars f sk tg (ge xs n)= .ok s):ZW fs vars f xs ⟨sk,tg,n,kn,v,b⟩=Zcz f xs.length ⟨s,if(ge xs n).tagged=true then tg++[ge s ((s.length:Int)-1).toNat]else tg,n+1,kn,v,true⟩:=by simp[ZW,h,hk]
theorem Zgc {x:Itm} (h:Xd fs vars f sk tg x= .ok s):1≤s.length∧s.length≤sk.length+1:=by
 unfold Xd at h
 split at h
 · injection h with h;subst h;simp
 split at h
 · unfold ZcE at h
   split at h
   · cases h
   split at h
   · cases h
   · injection h with h;subst h;simp
 split at h
 · injection h with h;subst h;simp
 split at h<;>cases h
abbrev GI (fs:List Fr) (vars:List ByteArray) (f:Fr) (sk tg:List (List ByteArray)) (x:Itm) (vs:Value):Type:= {q:Int×Value×List (List ByteArray) // (q.1=0∧Xd fs vars f sk tg x= .ok q.2.2)∨(q.1≠0∧Xd fs vars f sk tg x= .error q.1∧q.2.1=vs∧q.2.2=sk)}
theorem gi_err {x:Itm} {vs:Value} (z:GI fs vars f sk tg x vs) (h:¬ z.1.1=0):Xd fs vars f sk tg x= .error z.1.1∧z.1.2.2=sk:=by
 rcases z.2 with h2 | h2
 · exact absurd h2.1 h
 · exact⟨h2.2.1,h2.2.2.2⟩
theorem gi_ok {x:Itm} {vs:Value} (z:GI fs vars f sk tg x vs) (h:z.1.1=0):Xd fs vars f sk tg x= .ok z.1.2.2:=by
 rcases z.2 with h2 | h2
 · exact h2.2
 · exact absurd h h2.1
end
def okI (frames tags:Nat) (x:Itm):Prop:=0≤x.kind∧x.kind≤4∧(x.kind=2→0≤x.number∧x.number<frames)∧(x.kind=4→0≤x.number∧x.number<tags)
def okF (g:Fr):Prop:=g.hyps.length≤2000∧∀ h∈g.hyps,h.floating=true→h.text.length=2
def ZkH (fs:List Fr) (vars:List ByteArray) (f:Fr) (xs:List Itm):Nat→Ms→Ms
 | 0,m=>m
 | k+1,m=>ZkH fs vars f xs k (ZW fs vars f xs m)
def XZ (f:Fr) (r:Except Int (List Itm)):List Itm×Ms:=
 match r with
 | .error c=>([],⟨[],[],0,true,(c,0),true⟩)
 | .ok xs=>(xs,Zcz f xs.length ⟨[],[],0,false,(0,0),true⟩)
def Zbm (d:Db) (z:Int):Int:=if ¬ Zd1 d=0 then Zd1 d else if z<0∨(d.frames.length:Int)≤z then 5 else 0
def Zfp (fs:List Fr) (vars:List ByteArray) (f:Fr) (M:List (ByteArray×Int)) (proof:List ByteArray):Int×Int:=
 let s:=XZ f (YL f M proof)
 (ZkH fs vars f s.1 (s.1.length+1) s.2).v
end Go.Proofs.YtdgbcfloaenhbaaGreatDoor
set_option maxHeartbeats 8000000
set_option maxRecDepth 100000
namespace Go.Proofs.YtdgbcfloaenhbaaGreatDoor
open Go.RowKit
theorem Zle {J:World→Prop} (hJ:Stab J) (l:List Bd)  :FnM (ι:=Nat) Tryz.prog J 118 [] [.rd (ZhC l)] [] (fun i'=>.lit (.map (some (i')))) (fun i'=>[OB.map keyS (fun z':List ByteArray=>AV.rd (Zb z')) (i') (Yi l)]):=by
 refine Ya (N:=31) Tryz.func118 rfl rfl (lb rfl) fun S w0 R hS hJ0 hH=>?_
 refine Z8 (B:=St All (SO S (R)) w0 31 [(0,.rd (ZhC l))] (XO J S w0.heap.size (R))) ?_ fun a w h=>h
 refine ln 0 fun hl1=>?_
 refine ZN tb hJ [0] [.rd (.lit (Go.Value.map none))] [0] [_] rfl ⟨fun _ _ _ hx _ _=>Xy rfl (Rel.of_lit (Go.Value.map none)) hx,trivial⟩ ?_
 refine tsq ?_
 refine Zfz keyS (fun z':List ByteArray=>AV.rd (Zb z')) hJ rfl rfl rfl (lb rfl) fun m1=>?_
 refine snK 1 tb rfl ?_
 refine seK [0,2] [_,_] rfl ?_
 refine nx (Zk (ZN tb hJ [0,1000,1001,1002] [_,.int (l.length:Nat),_] [1] [_,_,_,_] rfl ⟨YK Zfu,trivial⟩ ?_))
 refine Zf (lpo (ι:=Nat×(List (ByteArray×List ByteArray))) (fun(k,bm)=>(k≤l.length)∧(bm=Yi (l.take k))) (fun(_,bm)=>(OB.map keyS (fun z':List ByteArray=>AV.rd (Zb z')) m1 bm::R)) (fun(k,_)=>[(11,.int (k:Nat))]) (fun(k,_)=>l.length-k) [0,1,2,3] [_,_,_] (0,([]:List (ByteArray×List ByteArray))) ⟨Nat.zero_le _,rfl⟩ ?_)
 rintro⟨k,bm⟩ ⟨f1_1,f1_2⟩
 refine qso tb hJ [0,1,2,3,1000] [_] [_,_,_,_,_] ?_
 refine cjS 4 (fun hb1=>?_) fun hb1=>?_
 try simp at hb1
 refine Zc (nx (Zk (Zf (tsq ?_))))
 refine sq (.ptr (bdC (ge l k))) rfl rfl (lb rfl) (fun _ _ h=>Yg (i:=(k:Int)) Zbl rfl (h.get 1 rfl) (h.get 3 rfl) (Int.natCast_nonneg _) (Yu (xs:=l) (k:=k) sfz) rfl h.x) ?_
 refine snK 1 tb rfl ?_
 refine X8 (cs:=bdC (ge l k)) Zkj rfl rfl rfl (lb rfl) rfl rfl rfl (by decide) (m:=0) rfl rfl (fun a w h=>Zq hS _ h.keep h.x _ (Nat.le_refl _)) (fun a w h w' hk'=>Yq hJ _ _ hk' h.x) ?_
 refine seK [0,3,4,5,6] [_,_,_,_,_] rfl ?_
 refine nx (ZN tb hJ [0,1,2,3,4,1005,1007,1008] [_,_,_,.tup [.rd (Zb ((ZD bm ((ge l k).var)).getD default)),.bool ((ZD bm ((ge l k).var)).isSome)],_,_,_,_,_] [3] [_,_,_,_,_,_,_,_] rfl ⟨fun _ _ _ hx hl _=>XQ (Kd:=keyS) (f:=(fun z':List ByteArray=>AV.rd (Zb z'))) (L:=bm) Zam Zbz ((ge l k).var) rfl (Zd hx (mo 0 rfl)) (hl.D 0 16 rfl rfl) (hl.D 2 18 rfl rfl) hx,trivial⟩ ?_)
 refine ln 5 fun hl2=>?_
 refine qso tb hJ [0,1,2,3,4,1001] [_,_] [_,_,_,_,_,_] ?_
 refine cj 5 (fun hb2=>?_) fun hb2=>?_
 try simp at hb2
 refine Zz (snK 5 tb rfl ?_)
 refine ZkA (f:=(fun z':List ByteArray=>AV.rd (Zb z'))) Zam hJ hJ0 ((ge l k).var) ((ge l k).text) rfl rfl (.inl rfl) (fun a w h=>⟨(h.get 4 rfl),(h.get 2 rfl),(h.get 0 rfl)⟩) ?_
 refine seK [0,6,7,8,9] [_,_,_,_,_] rfl ?_
 refine nx (ln 0 fun hl3=>?_)
 refine Y3 tb hJ [1,2,3,1001] [.int (k+1:Nat),_] [0] [_,_,_,_] rfl ⟨Yw,trivial⟩ ?_
 exact XB (k+1,QY bm ((ge l k).var) ((ge l k).text)) [0,1,2,3] ⟨by omega,by rw[ZgF (by omega),←f1_2];simp[ZpU,hb2]⟩
 try simp at hb2
 refine Zc (nx (Y3 tb hJ [1,2,3,1001] [.int (k+1:Nat),_] [0] [_,_,_,_] rfl ⟨Yw,trivial⟩ ?_))
 exact XB (k+1,bm) [0,1,2,3] ⟨by omega,by rw[ZgF (by omega),←f1_2];simp[ZpU,hb2]⟩
 try simp at hb1
 refine ZB (nx (qso tb hJ [1001] [_,_] [_] ?_))
 refine tw (ob0 (congrArg (fun z'=>OB.map keyS (fun z':List ByteArray=>AV.rd (Zb z')) m1 (z')) (show bm=(Yi l)from by rw[f1_2,ZJ (by omega)]))) ?_
 exact Zg (fun a w h=>ZS  (m:=0) m1 rfl h rfl rfl)
theorem Zde {J:World→Prop} (hJ:Stab J) (M:Nat) (bm:List (ByteArray×List ByteArray)) (s:ByteArray)  :FnR Tryz.prog J 119 [OB.map keyS (fun z':List ByteArray=>AV.rd (Zb z')) M bm] [.lit (.map (some M)),.str s] (.rd (Zb (Xm bm s))):=by
 refine Yc (N:=17) Tryz.func119 rfl rfl (lb rfl) fun S w0 hS hJ0 hH=>?_
 clear hJ0
 refine qs tb hJ [0,1] [_] [_,_] ?_
 refine Zk (hqs tb hJ [1,1004,1006,1007] [_,_,.tup [.rd (Zb ((ZD bm s).getD default)),.bool ((ZD bm s).isSome)],_,_,_,_,_] [2] [_,_,_,_] rfl ⟨fun _ _ hk hx hl _=>XQ (Kd:=keyS) (f:=(fun z':List ByteArray=>AV.rd (Zb z'))) (L:=bm) Zam Zbz s rfl (Y5 hH hk (mo 0 rfl)) (hl.D 0 8 rfl rfl) (hl.D 1 9 rfl rfl) hx,trivial⟩ ?_)
 refine ln 1 fun hl1=>?_
 refine qs tb hJ [0,2,1000] [_] [_,_,_] ?_
 refine cj 2 (fun hb1=>?_) fun hb1=>?_
 try simp at hb1
 refine qs tb hJ [1001] [_,_] [_] ?_
 exact Zg (rtn (m:=0) rfl rfl (congrArg (fun z=>AV.rd (Zb z)) (show((ZD bm s).getD default)=(Xm bm s)from by cases h9:ZD bm s<;>simp_all[Xm])))
 try simp at hb1
 refine Zc (nx (hqs tb hJ [1001,1002] [_,.rd (Zb ([s])),_] [1] [_,_] rfl ⟨fun _ _ hk hx hl _=>Xk Zi Zcj rfl (hl.D 0 15 rfl rfl) (hS _ hk.size) (js hJ hx),trivial⟩ ?_))
 refine ln 0 fun hl2=>?_
 exact Zg (rtn (m:=1) rfl rfl (congrArg (fun z=>AV.rd (Zb z)) (show([s])=(Xm bm s)from by cases h9:ZD bm s<;>simp_all[Xm])))
theorem ZqP {J:World→Prop} (hJ:Stab J) (M:Nat) (bm:List (ByteArray×List ByteArray)) (t:List ByteArray) (hb:(Zaa bm t).length≤2000):FnR Tryz.prog J 120 [OB.map keyS (fun z':List ByteArray=>AV.rd (Zb z')) M bm] [.lit (.map (some M)),.rd (Zb t)] (.rd (Zb (Zaa bm t))):=by
 refine Yc (N:=21) Tryz.func120 rfl rfl (lb rfl) fun S w0 hS hJ0 hH=>?_
 refine tw Yn ?_
 refine ln 1 fun hl1=>?_
 refine qso tb hJ [0,1] [_] [_,_] ?_
 refine qso tb hJ [0,1,1000] [_] [_,_,_] ?_
 refine Zk (ZN tb hJ [0,2,1000,1001,1002] [_,.int (t.length:Nat),_] [1] [_,_,_,_,_] rfl ⟨YK Zx,trivial⟩ ?_)
 refine Zf (tw (Yy 9 1 hJ) ?_)
 refine lpo (ι:=Nat×Value×(List ByteArray)) (fun(k,_,out)=>(k≤t.length)∧(out=Zaa bm (t.take k))) (fun(_,v,out)=>[OB.row v 9 1 (out.map Zav)]) (fun(k,v,_)=>[(10,.int (k:Nat)),(5,.lit v)]) (fun(k,_,_)=>t.length-k) [0,2,3,4,1] [_,_,_] (0,(.slice none 0 0),([]:List ByteArray)) ⟨Nat.zero_le _,rfl⟩ ?_
 rintro⟨k,v,out⟩ ⟨f1_1,f1_2⟩
 refine qso tb hJ [0,1,2,3,4,1000] [_] [_,_,_,_,_,_] ?_
 refine cjS 5 (fun hb1=>?_) fun hb1=>?_
 try simp at hb1
 refine Zc (nx (Zk (Zf (ZN tb hJ [0,1,2,3,4,1002] [.ptr [.lit (.string (ge t k))],_,_] [0] [_,_,_,_,_,_] rfl ⟨iIx Zi,trivial⟩ ?_))))
 refine Zz (snK 3 tb rfl ?_)
 refine sq (.rd (Zb (Xm bm (ge t k)))) rfl rfl (lb rfl) (fun _ _ h=>Xj (Zde hJ (M:=M) (bm:=bm) (s:=(ge t k)) ) ZbT rfl (Zq hS _ h.keep h.x) (h.x.1) (ZH (Ye hH h.keep h.x (mo 0 rfl)) Zs) (Za (h.get 1 rfl) (Za (h.get 0 rfl) Ze)) (jo hJ h.x)) ?_
 refine YE (f:=Zav) (m:=3) (s:=14) out (Xm bm (ge t k)) (fun _=>rfl) XV hJ hJ0 rfl rfl rfl (lb rfl) rfl rfl (fun a w h=>(h.get 0 rfl)) (by have h9:=QR bm t (k+1);rw[Qc (by omega),List.length_append,←f1_2]at h9;omega) (by have h9:=QR bm t (k+1);rw[Qc (by omega),List.length_append,←f1_2]at h9;omega) fun v1=>?_
 refine snK 1 tb rfl ?_
 refine seK [0,2,6,7,8,9] [_,_,_,_,_,_] rfl ?_
 refine nx (ln 1 fun hl2=>?_)
 refine Y3 tb hJ [0,2,3,4,1001] [.int (k+1:Nat),_] [0] [_,_,_,_,_] rfl ⟨Yw,trivial⟩ ?_
 exact XB (k+1,v1,out++(Xm bm (ge t k))) [1,2,3,4,0] ⟨by omega,by rw[Qc (by omega),←f1_2]⟩
 try simp at hb1
 refine ZB (nx (qso tb hJ [1001] [_,_] [_] ?_))
 refine tw (fun h=>Yr hS h (m:=0) (s:=4) rfl) ?_
 exact Zg (Qt (m:=0) rfl rfl (congrArg (fun z=>AV.rd (Zb z)) (show out=(Zaa bm t)from by rw[f1_2,ZJ (by omega)])))
theorem ZnL {J:World→Prop} (hJ:Stab J) (l:List ByteArray)  :FnM (ι:=Nat) Tryz.prog J 133 [] [.rd (Zb l)] [] (fun i'=>.lit (.map (some (i')))) (fun i'=>[OB.set keyS (i') (X3 l)]):=by
 refine Ya (N:=17) Tryz.func133 rfl rfl (lb rfl) fun S w0 R hS hJ0 hH=>?_
 refine Z8 (B:=St All (SO S (R)) w0 17 [(0,.rd (Zb l))] (XO J S w0.heap.size (R))) ?_ fun a w h=>h
 refine ln 0 fun hl1=>?_
 refine ZN tb hJ [0] [.rd (.lit (Go.Value.map none))] [0] [_] rfl ⟨fun _ _ _ hx _ _=>Xy rfl (Rel.of_lit (Go.Value.map none)) hx,trivial⟩ ?_
 refine tsq ?_
 refine ZaE keyS hJ rfl rfl rfl (lb rfl) fun m1=>?_
 refine snK 1 tb rfl ?_
 refine seK [0,2] [_,_] rfl ?_
 refine nx (Zk (ZN tb hJ [0,1000,1001,1002] [_,.int (l.length:Nat),_] [1] [_,_,_,_] rfl ⟨YK Zx,trivial⟩ ?_))
 refine Zf (lpo (ι:=Nat×(List ByteArray)) (fun(k,ys)=>(k≤l.length)∧(ys=X3 (l.take k))) (fun(_,ys)=>(OB.set keyS m1 ys::R)) (fun(k,_)=>[(9,.int (k:Nat))]) (fun(k,_)=>l.length-k) [0,1,2,3] [_,_,_] (0,([]:List ByteArray)) ⟨Nat.zero_le _,rfl⟩ ?_)
 rintro⟨k,ys⟩ ⟨f1_1,f1_2⟩
 refine qso tb hJ [0,1,2,3,1000] [_] [_,_,_,_,_] ?_
 refine cjS 4 (fun hb1=>?_) fun hb1=>?_
 try simp at hb1
 refine Zc (nx (Zk (Zf (ZN tb hJ [0,1,2,3,1002] [.ptr [.lit (.string (ge l k))],_,_] [0] [_,_,_,_,_] rfl ⟨iIx Zi,trivial⟩ ?_))))
 refine Zz (snK 2 tb rfl ?_)
 refine Zbo X2 hJ hJ0 (ge l k) rfl rfl (.inl rfl) (fun a w h=>⟨(h.get 1 rfl),(h.get 0 rfl),(Rel.of_lit (Go.Value.bool true))⟩) ?_
 refine seK [2,3,4,5] [_,_,_,_] rfl ?_
 refine nx (Y3 tb hJ [0,1,2,1001] [.int (k+1:Nat),_] [0] [_,_,_,_] rfl ⟨Yw,trivial⟩ ?_)
 exact XB (k+1,X6 ys (ge l k)) [0,1,2,3] ⟨by omega,by rw[Zf9 (by omega),←f1_2]⟩
 try simp at hb1
 refine ZB (nx (qso tb hJ [1001] [_,_] [_] ?_))
 refine tw (ob0 (congrArg (fun z'=>OB.set keyS m1 (z')) (show ys=(X3 l)from by rw[f1_2,ZJ (by omega)]))) ?_
 exact Zg (fun a w h=>ZS  (m:=0) m1 rfl h rfl rfl)
theorem Zco {J:World→Prop} (hJ:Stab J) (M:Nat) (vs:List ByteArray) (t:List ByteArray) (hb:t.length≤2000):FnR Tryz.prog J 134 [OB.set keyS M vs] [.rd (Zb t),.lit (.map (some M))] (.rd (Zb (QK t vs))):=by
 refine Yc (N:=33) Tryz.func134 rfl rfl (lb rfl) fun S w0 hS hJ0 hH=>?_
 refine tw Yn ?_
 refine ln 0 fun hl1=>?_
 refine qso tb hJ [0,1] [_] [_,_] ?_
 refine qso tb hJ [0,1,1000] [_] [_,_,_] ?_
 refine tsq ?_
 refine ZaE keyS hJ rfl rfl rfl (lb rfl) fun m1=>?_
 refine snK 1 tb rfl ?_
 refine seK [0,2,3,4] [_,_,_,_] rfl ?_
 refine nx (Zk (ZN tb hJ [0,2,3,1000,1001,1002] [_,.int (t.length:Nat),_] [1] [_,_,_,_,_,_] rfl ⟨YK Zx,trivial⟩ ?_))
 refine Zf (tw (Yy 9 1 hJ) ?_)
 refine lpo (ι:=Nat×Value×(List ByteArray)×(List ByteArray)) (fun(k,_,out,ys)=>(k≤t.length)∧(out=QK (t.take k) vs)∧(ys=out)∧(out.length≤k)) (fun(_,v,out,ys)=>[OB.row v 9 1 (out.map Zav),OB.set keyS m1 ys]) (fun(k,v,_,_)=>[(12,.int (k:Nat)),(5,.lit v)]) (fun(k,_,_,_)=>t.length-k) [0,1,3,4,5,2] [_,_,_,_] (0,(.slice none 0 0),([]:List ByteArray),([]:List ByteArray)) ⟨Nat.zero_le _,rfl,rfl,Nat.le_refl _⟩ ?_
 rintro⟨k,v,out,ys⟩ ⟨f1_1,f1_2,f1_3,f1_4⟩
 refine qso tb hJ [0,1,2,3,4,5,1000] [_] [_,_,_,_,_,_,_] ?_
 refine cjS 6 (fun hb1=>?_) fun hb1=>?_
 try simp at hb1
 refine Zc (nx (Zk (Zf (ZN tb hJ [0,1,2,3,4,5,1002] [.ptr [.lit (.string (ge t k))],_,_] [0] [_,_,_,_,_,_,_] rfl ⟨iIx Zi,trivial⟩ ?_))))
 refine ZN tb hJ [0,1,2,3,4,5,6,1008] [_,_,.bool (decide ((ge t k)∈vs)),_,_,_,.bool (decide ((ge t k)∈ys)),_,_] [2,6] [_,_,_,_,_,_,_,_] rfl ⟨fun _ _ hk hx hl _=>Yj (Kd:=keyS) (xs:=vs) X2 ZY (ge t k) rfl (Ye hH hk hx (mo 0 rfl)) (hl.D 0 16 rfl rfl) (hl.D 1 17 rfl rfl) hx,fun _ _ _ hx hl hc=>Yj (Kd:=keyS) (xs:=ys) X2 ZY (ge t k) rfl (Zd hx (mo 1 rfl)) (hl.D 4 20 rfl hc) (hl.D 5 21 rfl hc) hx,trivial⟩ ?_
 refine cj 7 (fun hb2=>?_) fun hb2=>?_
 try simp at hb2
 refine tsq ?_
 refine snK 2 tb rfl ?_
 refine kw pm1 ?_
 refine Zbo X2 hJ hJ0 (ge t k) rfl rfl (.inl rfl) (fun a w h=>⟨(h.get 1 rfl),(h.get 0 rfl),(Rel.of_lit (Go.Value.bool true))⟩) ?_
 refine seK [2,3,4,5,6,7,8] [_,_,_,_,_,_,_] rfl ?_
 refine nx (Zz (snK 2 tb rfl ?_))
 refine sq (.rd (Zb ([(ge t k)]))) rfl rfl (lb rfl) (fun _ _ h=>Xk Zi Zcj rfl (h.get 0 rfl) (Zq hS _ h.keep h.x _ (Nat.le_refl _)) (jo hJ h.x)) ?_
 refine kw pm1 ?_
 refine YE (f:=Zav) (m:=2) (s:=27) out ([(ge t k)]) (fun _=>rfl) XV hJ hJ0 rfl rfl rfl (lb rfl) rfl rfl (fun a w h=>(h.get 0 rfl)) sfz sfz fun v2=>?_
 refine snK 1 tb rfl ?_
 refine seK [0,2,5,6,7,8,9] [_,_,_,_,_,_,_] rfl ?_
 refine nx (ln 1 fun hl2=>?_)
 refine Y3 tb hJ [0,2,3,4,5,1001] [.int (k+1:Nat),_] [0] [_,_,_,_,_,_] rfl ⟨Yw,trivial⟩ ?_
 exact XB (k+1,v2,out++([(ge t k)]),X6 ys (ge t k)) [1,2,3,4,5,0] ⟨by omega,by rw[Zf2 (by omega),←f1_2];subst f1_3;simp_all[ZpC],by subst f1_3;simp_all[X6],by simp;omega⟩
 try simp at hb2
 refine Zc (nx (Y3 tb hJ [0,1,2,3,5,1001] [.int (k+1:Nat),_] [0] [_,_,_,_,_,_] rfl ⟨Yw,trivial⟩ ?_))
 exact XB (k+1,v,out,ys) [0,1,2,3,5,4] ⟨by omega,by rw[Zf2 (by omega),←f1_2];subst f1_3;simp[ZpC];grind,f1_3,by omega⟩
 try simp at hb1
 refine ZB (nx (qso tb hJ [1001] [_,_] [_] ?_))
 refine tw (fun h=>Yr hS h (m:=0) (s:=4) rfl) ?_
 exact Zg (Qt (m:=0) rfl rfl (congrArg (fun z=>AV.rd (Zb z)) (show out=(QK t vs)from by rw[f1_2,ZJ (by omega)])))
theorem p_Fits {J:World→Prop} (hJ:Stab J) (t:List ByteArray) (l:List Bd) (x:List ByteArray)  :Fn Tryz.prog J 108 [.rd (Zb t),.rd (ZhC l),.rd (Zb x)] (.bool (fitB t l x)):=by
 refine Zw (N:=49) Tryz.func108 rfl rfl (lb rfl) fun S w0 hS hJ0=>?_
 refine tw Yn ?_
 refine ln 0 fun hl1=>?_
 refine ln 1 fun hl2=>?_
 refine ln 2 fun hl3=>?_
 refine qso tb hJ [0,1,2] [_] [_,_,_] ?_
 refine ZhP (tsq ?_)
 refine snK 1 tb rfl ?_
 refine Xt (O:=[]) (R:=[]) (Zle hJ (l:=l) ) Zfa rfl rfl rfl (lb rfl) hS hJ0 Zs (fun a w h=>(Za (h.get 0 rfl) Ze)) fun z1=>?_
 refine snK 1 tb rfl ?_
 refine seK [0,3,5] [_,_,_] rfl ?_
 refine nx (qso tb hJ [0,1,2,1000] [_] [_,_,_,_] ?_)
 refine Zk (ZhQ (nx (Zk (ZN tb hJ [0,2,3,1000,1001,1002] [_,.int (t.length:Nat),_] [1] [_,_,_,_,_,_] rfl ⟨YK Zx,trivial⟩ ?_))))
 refine Zf (lpo (ι:=Nat×Nat) (fun(k,p)=>(k≤t.length)∧(p≤x.length)∧(x.take p=Zaa (Yi l) (t.take k))) (fun(_,_)=>[OB.map keyS (fun z':List ByteArray=>AV.rd (Zb z')) z1 (Yi l)]) (fun(k,p)=>[(17,.int (k:Nat)),(8,.int (p:Nat))]) (fun(k,_)=>t.length-k) [0,1,3,4,5,2] [_,_,_,_] (0,0) ⟨Nat.zero_le _,Nat.zero_le _,rfl⟩ ?_)
 rintro⟨k,p⟩ ⟨f1_1,f1_2,f1_3⟩
 refine qso tb hJ [0,1,2,3,4,5,1000] [_] [_,_,_,_,_,_,_] ?_
 refine cjS 6 (fun hb1=>?_) fun hb1=>?_
 try simp at hb1
 refine Zc (nx (Zk (Zf (ZN tb hJ [0,1,2,3,4,5,1002] [.ptr [.lit (.string (ge t k))],_,_] [0] [_,_,_,_,_,_,_] rfl ⟨iIx Zi,trivial⟩ ?_))))
 refine ZN tb hJ [0,1,2,3,4,5,1002,1003,1004] [_,_,.rd (Zb (Xm (Yi l) (ge t k))),.int ((Xm (Yi l) (ge t k)).length:Nat),_] [2,3] [_,_,_,_,_,_,_,_,_] rfl ⟨fun _ _ hk hx hl _=>Xj (Zde hJ (M:=z1) (bm:=(Yi l)) (s:=(ge t k)) ) ZbT rfl (Zq hS _ hk hx) (hx.1) (ZH (Zd hx (mo 0 rfl)) Zs) (Za (hl.D 0 21 rfl rfl) (Za (hl.D 1 22 rfl rfl) Ze)) (jo hJ hx),YK Zx,trivial⟩ ?_
 refine ln 6 fun hl4=>?_
 refine Zf (lpo (ι:=Nat×Nat) (fun(j,q)=>(j≤(Xm (Yi l) (ge t k)).length)∧(q≤x.length)∧(x.take q=Zaa (Yi l) (t.take k)++(Xm (Yi l) (ge t k)).take j)) (fun(_,_)=>[OB.map keyS (fun z':List ByteArray=>AV.rd (Zb z')) z1 (Yi l)]) (fun(j,q)=>[(25,.int (j:Nat)),(8,.int (q:Nat))]) (fun(j,_)=>(Xm (Yi l) (ge t k)).length-j) [0,1,2,3,4,6,7,8,5] [_,_,_,_,_,_,_] (0,p) ⟨Nat.zero_le _,f1_2,by simpa using f1_3⟩ ?_)
 rintro⟨j,q⟩ ⟨f2_1,f2_2,f2_3⟩
 refine qso tb hJ [0,1,2,3,4,5,6,7,8,1000] [_] [_,_,_,_,_,_,_,_,_,_] ?_
 refine cjS 9 (fun hb2=>?_) fun hb2=>?_
 try simp at hb2
 refine Zc (nx (Zk (Zf (ZN tb hJ [0,1,2,3,4,5,6,7,8,1002] [.ptr [.lit (.string (ge (Xm (Yi l) (ge t k)) j))],_,_] [0] [_,_,_,_,_,_,_,_,_,_] rfl ⟨iIx Zi,trivial⟩ ?_))))
 refine Zk (ZN tb hJ [0,1,2,3,4,5,6,7,8,1011] [_,_,.int (x.length:Nat),_,_,_,_,.ptr [.lit (.string (ge x q))],_,_,_,_] [2,7] [_,_,_,_,_,_,_,_,_,_] rfl ⟨YK Zx,gIx Zi (hk:=fun(hc':((decide ((q:Int)=(x.length:Int)))==false)=true)=>by(try simp at hc');first | omega | (simp;omega) | grind[ZM]),trivial⟩ ?_)
 refine cj 9 (fun hb3=>?_) fun hb3=>?_
 try simp at hb3
 have e3:q=x.length∨ ¬ ge x q=ge (Xm (Yi l) (ge t k)) j:=by grind
 refine qso tb hJ [1,1000] [_] [_,_] ?_
 refine ZB (nx (ZN tb hJ [1004] [_,_,.int (x.length:Nat),_,_] [2] [_] rfl ⟨YK Zx,trivial⟩ ?_))
 exact Zg (Qt (m:=0) rfl rfl (eB (by rw[fitB,decide_eq_false (by omega),decide_eq_false (fit_no (by omega) hb2 f2_3 f2_2 e3)])))
 try simp at hb3
 have e3:q<x.length∧ge x q=ge (Xm (Yi l) (ge t k)) j:=by grind
 refine Zc (nx (Y3 tb hJ [0,1,2,3,4,5,6,7,1002] [_,.int (q+1:Nat),_] [1] [_,_,_,_,_,_,_,_,_] rfl ⟨Yw,trivial⟩ ?_))
 refine nx (Y3 tb hJ [0,1,2,3,4,5,6,8,1001] [.int (j+1:Nat),_] [0] [_,_,_,_,_,_,_,_,_] rfl ⟨Yw,trivial⟩ ?_)
 exact XB (j+1,q+1) [0,1,2,3,4,5,6,8,7] ⟨by omega,by omega,by rw[ZU e3.1,ZU hb2,←List.append_assoc,←f2_3,e3.2]⟩
 try simp at hb2
 refine ZB (nx (Y3 tb hJ [0,1,2,3,8,1001] [.int (k+1:Nat),_] [0] [_,_,_,_,_,_] rfl ⟨Yw,trivial⟩ ?_))
 exact XB (k+1,q) [0,1,2,3,5,4] ⟨by omega,f2_2,by rw[Qc (by omega),f2_3,ZJ (xs:=Xm (Yi l) (ge t k)) (by omega)]⟩
 try simp at hb1
 refine ZB (nx (ZN tb hJ [1004] [_,_,.int (x.length:Nat),_,_] [2] [_] rfl ⟨YK Zx,trivial⟩ ?_))
 exact Zg (Qt (m:=0) rfl rfl (eB (by rw[fitB,Zrm (by rw[f1_3,ZJ (by omega)]) f1_2])))
theorem Zlg {J:World→Prop} (hJ:Stab J) (t:List ByteArray) (l:List Bd) (n:Nat) (hn:n≤2000) (hl:∀ b∈l,b.text.length≤2000):Fn Tryz.prog J 109 [.rd (Zb t),.rd (ZhC l),.int (n:Nat)] (.tup [.rd (Zb (if Zdl (Yi l) t n then Zaa (Yi l) t else [])),.int (if Zdl (Yi l) t n then 0 else 15)]):=by
 refine Zw (N:=35) Tryz.func109 rfl rfl (lb rfl) fun S w0 hS hJ0=>?_
 refine tw Yn ?_
 refine ln 0 fun hl1=>?_
 refine ln 1 fun hl2=>?_
 refine qso tb hJ [0,1,2] [_,_] [_,_,_] ?_
 refine Zk (qso tb hJ [0,1,2,1001] [_,_] [_,_,_,_] ?_)
 refine cj 3 (fun hb1=>?_) fun hb1=>?_
 try simp at hb1
 exact False.elim (by omega)
 try simp at hb1
 refine Zc (nx (tsq ?_))
 refine snK 1 tb rfl ?_
 refine Xt (O:=[]) (R:=[]) (Zle hJ (l:=l) ) Zfa rfl rfl rfl (lb rfl) hS hJ0 Zs (fun a w h=>(Za (h.get 0 rfl) Ze)) fun z1=>?_
 refine snK 1 tb rfl ?_
 refine seK [0,3,5] [_,_,_] rfl ?_
 refine nx (qso tb hJ [0,1,1001] [_,_] [_,_,_] ?_)
 refine Zk (ZN tb hJ [0,1,2,1000,1001,1002] [_,.int (t.length:Nat),_] [1] [_,_,_,_,_,_] rfl ⟨YK Zx,trivial⟩ ?_)
 refine Zf (lpo (ι:=Nat×Int) (fun(k,z)=>(k≤t.length)∧(z=(n:Int)-(Zaa (Yi l) (t.take k)).length)∧(0≤z)) (fun(_,_)=>[OB.map keyS (fun z':List ByteArray=>AV.rd (Zb z')) z1 (Yi l)]) (fun(k,z)=>[(19,.int (k:Nat)),(9,.int z)]) (fun(k,_)=>t.length-k) [0,1,3,4,5,2] [_,_,_,_] (0,(n:Int)) ⟨Nat.zero_le _,by simp[Zaa],by omega⟩ ?_)
 rintro⟨k,z⟩ ⟨f1_1,f1_2,f1_3⟩
 refine qso tb hJ [0,1,2,3,4,5,1000] [_] [_,_,_,_,_,_,_] ?_
 refine cjS 6 (fun hb2=>?_) fun hb2=>?_
 try simp at hb2
 refine Zc (nx (Zk (Zf (ZN tb hJ [0,1,2,3,4,5,1002] [.ptr [.lit (.string (ge t k))],_,_] [0] [_,_,_,_,_,_,_] rfl ⟨iIx Zi,trivial⟩ ?_))))
 refine ZN tb hJ [0,1,2,3,4,1003,1006] [_,_,_,.rd (Zb (Xm (Yi l) (ge t k))),.int ((Xm (Yi l) (ge t k)).length:Nat),.int (z-(((Xm (Yi l) (ge t k)).length:Nat):Int)),_] [3,4,5] [_,_,_,_,_,_,_] rfl ⟨fun _ _ hk hx hl _=>Xj (Zde hJ (M:=z1) (bm:=(Yi l)) (s:=(ge t k)) ) ZbT rfl (Zq hS _ hk hx) (hx.1) (ZH (Zd hx (mo 0 rfl)) Zs) (Za (hl.D 1 24 rfl rfl) (Za (hl.D 2 25 rfl rfl) Ze)) (jo hJ hx),YK Zx,iSub (h0:=by have:=Zhj (m:=2000) (by omega) hl (ge t k);omega),trivial⟩ ?_
 refine ln 5 fun hl3=>?_
 refine qso tb hJ [0,1,2,3,4,6,1001] [_,_] [_,_,_,_,_,_,_] ?_
 refine cj 6 (fun hb3=>?_) fun hb3=>?_
 try simp at hb3
 have e3:Zdl (Yi l) t n=false:=by have h9:=QR (Yi l) t (k+1);rw[Qc (by omega),List.length_append]at h9;simp only[Zdl,decide_eq_false_iff_not];omega
 refine qso tb hJ [1000,1001] [_,_] [_,_] ?_
 refine tw (fun h=>YM h (m:=0) (s:=6) rfl) ?_
 exact Zg (fun a w h=>Zdp (m:=0) (k:=1) rfl (Xs h) rfl rfl (congrArg (fun z=>AV.rd (Zb z)) (show([]:List ByteArray)=(if Zdl (Yi l) t n then Zaa (Yi l) t else [])from by simp[e3])) (eI (by simp[e3])))
 try simp at hb3
 refine Zc (nx (Y3 tb hJ [0,1,2,3,5,1001] [.int (k+1:Nat),_] [0] [_,_,_,_,_,_] rfl ⟨Yw,trivial⟩ ?_))
 exact XB (k+1,z-(((Xm (Yi l) (ge t k)).length:Nat):Int)) [0,1,2,3,5,4] ⟨by omega,by rw[Qc (by omega),List.length_append,f1_2];omega,by omega⟩
 try simp at hb2
 have e4:Zdl (Yi l) t n=true:=by rw[ZJ (xs:=t) (by omega)]at f1_2;simp only[Zdl,decide_eq_true_eq];omega
 refine ZB (nx (ZN tb hJ [1002,1003,1004] [_,_,.rd (Zb (Zaa (Yi l) t)),_,_] [2] [_,_,_] rfl ⟨fun _ _ hk hx hl _=>Xj (ZqP hJ (M:=z1) (bm:=(Yi l)) (t:=t) (by simp only[Zdl,decide_eq_true_eq]at e4;omega)) ZoP rfl (Zq hS _ hk hx) (hx.1) (ZH (Zd hx (mo 0 rfl)) Zs) (Za (hl.D 0 32 rfl rfl) (Za (hl.D 1 33 rfl rfl) Ze)) (jo hJ hx),trivial⟩ ?_))
 refine ln 0 fun hl4=>?_
 exact Zg (fun a w h=>Zdp (m:=1) (k:=2) rfl (Xs h) rfl rfl (congrArg (fun z=>AV.rd (Zb z)) (show(Zaa (Yi l) t)=(if Zdl (Yi l) t n then Zaa (Yi l) t else [])from by simp[e4])) (eI (by simp[e4])))
theorem ZfN {J:World→Prop} (hJ:Stab J) (x:Pr)  :Fn Tryz.prog J 129 [.agg (prC x)] (.agg (prC (Zbr x))):=by
 refine Zw (N:=15) Tryz.func129 rfl rfl (lb rfl) fun S w0 hS hJ0=>?_
 refine tw Yn ?_
 refine tsq ?_
 refine ZkC (cs:=[.lit (.string x.a),.lit (.string x.b)]) hJ rfl rfl rfl (lb rfl) (fun a w h=>(h.get 0 rfl)) fun b1=>?_
 refine ZV Qr hJ rfl rfl rfl (lb rfl) fun b2=>?_
 refine seK [0,1] [_,_] rfl ?_
 refine nx (Zk (ZN tb hJ [0,1,1004] [.at b1 1,.str x.b,.at b1 0,.str x.a,_] [0,1,2,3] [_,_,_] rfl ⟨fun _ _ _ hx hl _=>Zo Qy rfl (hl.env 1 1 _ rfl rfl) hx,fun a _ _ hx hl _=>Zn (cs:=[.lit (.string x.a),.lit (.string x.b)]) QX rfl (Zd hx (mo 1 rfl)) (hl.D 0 3 rfl rfl) rfl hx,fun _ _ _ hx hl _=>Zo Qz rfl (hl.env 1 1 _ rfl rfl) hx,fun a _ _ hx hl _=>Zn (cs:=[.lit (.string x.a),.lit (.string x.b)]) QX rfl (Zd hx (mo 1 rfl)) (hl.D 2 5 rfl rfl) rfl hx,trivial⟩ ?_))
 refine cj 2 (fun hb1=>?_) fun hb1=>?_
 try simp at hb1
 refine Zz (sq (.at b1 1) rfl rfl (lb rfl) (fun _ _ h=>Zo Qy rfl (h.get 1 rfl) h.x) ?_)
 refine sq (.str x.b) rfl rfl (lb rfl) (fun _ _ h=>Zn (cs:=[.lit (.string x.a),.lit (.string x.b)]) QX rfl (Zd h.x (mo 1 rfl)) (h.get 0 rfl) rfl h.x) ?_
 refine sq (.at b1 0) rfl rfl (lb rfl) (fun _ _ h=>Zo Qz rfl (h.get 3 rfl) h.x) ?_
 refine sq (.str x.a) rfl rfl (lb rfl) (fun _ _ h=>Zn (cs:=[.lit (.string x.a),.lit (.string x.b)]) QX rfl (Zd h.x (mo 1 rfl)) (h.get 0 rfl) rfl h.x) ?_
 refine sq (.at b1 0) rfl rfl (lb rfl) (fun _ _ h=>Zo Qz rfl (h.get 5 rfl) h.x) ?_
 refine kw pm1 ?_
 refine ZE (b:=b1) (off:=0) (cs:=[.lit (.string x.a),.lit (.string x.b)]) (es:=[.lit (.string x.b),.lit (.string x.b)]) hJ hJ0 ZhX rfl rfl rfl (lb rfl) rfl (fun a w h=>⟨(h.get 0 rfl),(h.get 3 rfl)⟩) ?_
 refine sq (.at b1 1) rfl rfl (lb rfl) (fun _ _ h=>Zo Qy rfl (h.get 6 rfl) h.x) ?_
 refine ZE (b:=b1) (off:=1) (cs:=[.lit (.string x.b),.lit (.string x.b)]) (es:=[.lit (.string x.b),.lit (.string x.a)]) hJ hJ0 ZhX rfl rfl rfl (lb rfl) rfl (fun a w h=>⟨(h.get 0 rfl),(h.get 2 rfl)⟩) ?_
 refine seK [6,7] [_,_] rfl ?_
 refine nx (tsq ?_)
 refine sq (.agg [.lit (.string x.b),.lit (.string x.a)]) rfl rfl (lb rfl) (fun _ _ h=>Yo (cs:=[.lit (.string x.b),.lit (.string x.a)]) (ds:=[.lit (.string x.b),.lit (.string x.a)]) YZ rfl (Zd h.x (mo 0 rfl)) (h.get 1 rfl) rfl rfl h.x) ?_
 refine kw pm1 ?_
 refine ZF (b:=b2) (off:=0) (cs:=[.lit (.string (⟨#[]⟩:ByteArray)),.lit (.string (⟨#[]⟩:ByteArray))]) (es:=[.lit (.string x.b),.lit (.string x.a)]) (news:=[.lit (.string x.b),.lit (.string x.a)]) hJ hJ0 Y0 rfl rfl rfl (lb rfl) rfl (fun a w h=>⟨(h.get 1 rfl),(h.get 0 rfl)⟩) ?_
 refine seK [1] [_] rfl ?_
 exact nx (Zg (fun a w h=>Zar (cs:=[.lit (.string x.b),.lit (.string x.a)]) (m:=0) rfl YZ h rfl rfl (show([.lit (.string x.b),.lit (.string x.a)]:List CD)=[.lit (.string ((Zbr x).a)),.lit (.string ((Zbr x).b))]from by simp[Zbr,hb1])))
 try simp at hb1
 refine Zc (nx (tsq ?_))
 refine sq (.agg (prC x)) rfl rfl (lb rfl) (fun _ _ h=>Yo (cs:=[.lit (.string x.a),.lit (.string x.b)]) (ds:=[.lit (.string x.a),.lit (.string x.b)]) YZ rfl (Zd h.x (mo 1 rfl)) (h.get 1 rfl) rfl rfl h.x) ?_
 refine ZF (b:=b2) (off:=0) (cs:=[.lit (.string (⟨#[]⟩:ByteArray)),.lit (.string (⟨#[]⟩:ByteArray))]) (es:=[.lit (.string x.a),.lit (.string x.b)]) (news:=[.lit (.string x.a),.lit (.string x.b)]) hJ hJ0 Y0 rfl rfl rfl (lb rfl) rfl (fun a w h=>⟨(h.get 1 rfl),(h.get 0 rfl)⟩) ?_
 refine seK [1] [_] rfl ?_
 exact nx (Zg (fun a w h=>Zar (cs:=[.lit (.string x.a),.lit (.string x.b)]) (m:=0) rfl YZ h rfl rfl (show([.lit (.string x.a),.lit (.string x.b)]:List CD)=[.lit (.string ((Zbr x).a)),.lit (.string ((Zbr x).b))]from by simp[Zbr,hb1])))
end Go.Proofs.YtdgbcfloaenhbaaGreatDoor
namespace Go.Proofs.YtdgbcfloaenhbaaGreatDoor
section
variable {n:Rn} {P:Program} {S:Nat→Prop} {X:World→Prop} {o:Oper} {a:Act} {w:World} {t u:TypeId} {x y:Operand}
theorem ZkQ {i j:Nat} (hop:o.op= .binOp .sub t x y u) (h1:Rel S w (.int (i:Int)) (a.eval x)) (h2:Rel S w (.int (j:Int)) (a.eval y)) (hl:j≤i) (hi:i≤9223372036854775807) (hx:X w):Z4 n P o a w (Yp S X (.int ((i-j:Nat):Int)) w):=by
 rw[show((i-j:Nat):Int)=(i:Int)-(j:Int) by omega]
 exact ZdX hop h1 h2 (by omega) (by omega) hx
end
end Go.Proofs.YtdgbcfloaenhbaaGreatDoor
namespace Go.Proofs.YtdgbcfloaenhbaaGreatDoor
open Go.RowKit
def OB.clp (v:Value) (rows:List (List CD)):OB where
 blk:=fun _=>False
 inv:=fun _ S w=>(∃ ad n,v= .slice ad n n)∧Rel S w (.rd (.sl rows)) v
 mv:=fun⟨h1,h2⟩ hk _ hs=>⟨h1,Rel.move hk hs h2⟩
 lt:=fun _ _ h=>h.elim
def ZdI:Value→Value
 | .slice ad n _=>.slice ad n n
 | v=>v
section
variable {n:Rn} {N:Nat} {P:Program} {J:World→Prop} {S:Nat→Prop} {O:List OB} {w0:World} {env:List (Nat×AV)} {Q:Exit→Act→World→Prop}
theorem Zqu {v:Value} {e:TypeId} {size:Nat} {rows:List (List CD)} {lo m:Nat} {T:Nat→Prop} {w:World} (hm:m≤rows.length) (h:(OB.row v e size rows).inv lo T w):(OB.row (ZaU v m) e size (rows.take m)).inv lo T w:=by
 obtain⟨us,⟨h0,h1⟩,h2,h3⟩:=h
 have hl:us.length=rows.length*size:=h0
 refine⟨us.take (m*size),⟨?_,?_⟩,?_,fun r hr=>h3 r (List.mem_of_mem_take hr)⟩
 · rw[List.length_take,List.length_take,hl,Nat.min_eq_left hm]
   exact Nat.min_eq_left (Nat.mul_le_mul_right _ hm)
 · rw[List.length_take,Nat.min_eq_left hm]
   rcases h1 with⟨rfl,hz⟩ | ⟨g,cap,cur,rfl,hb,hg,hnc,hcm,hcs,ht⟩
   · have:m=0:=by omega
     subst this
     exact .inl ⟨rfl,rfl⟩
   · refine .inr ⟨g,cap,cur,rfl,hb,hg,Nat.le_trans hm hnc,hcm,hcs,?_⟩
     rw[←ht,List.take_take,Nat.min_eq_left (Nat.mul_le_mul_right _ hm)]
 · have hf:(rows.take m).flatten=rows.flatten.take (m*size):=by
    have key:∀(rows:List (List CD)) (m:Nat),(∀ r∈rows,r.length=size)→m≤rows.length→(rows.take m).flatten=rows.flatten.take (m*size):=by
     intro rows
     induction rows with
     | nil=>intro m _ hm;simp at hm;subst hm;simp
     | cons r rs ih=>
      intro m hr hm
      cases m with
      | zero=>simp
      | succ m=>
       have hrl:=hr r (by simp)
       simp only[List.take_succ_cons,List.flatten_cons]
       rw[ih m (fun q hq=>hr q (by simp[hq])) (by simpa using hm)]
       have e1:(m+1)*size=r.length+m*size:=by rw[hrl,Nat.succ_mul];omega
       rw[e1,List.take_length_add_append]
    exact key rows m h3 hm
   rw[hf]
   refine RdL.of_get (by rw[List.length_take,List.length_take,h2.length]) fun i c u hc hu=>?_
   rw[List.getElem?_take]at hc hu
   split at hc
   · rename_i hi
     rw[if_pos hi]at hu
     exact h2.get hc hu
   · cases hc
theorem st_cut {a:Act} {w:World} {v:Value} {e:TypeId} {size:Nat} {rows:List (List CD)} {m:Nat} (hm:m≤rows.length) (h:St All (SO S (OB.row v e size rows::O)) w0 N env (XO J S w0.heap.size (OB.row v e size rows::O)) a w):
 St All (SO S (OB.row (ZaU v m) e size (rows.take m)::O)) w0 N env (XO J S w0.heap.size (OB.row (ZaU v m) e size (rows.take m)::O)) a w:=by
 have hblk:∀ k,(OB.row (ZaU v m) e size (rows.take m)).blk k↔ (OB.row v e size rows).blk k:=fun k=>by
  show(ZaU v m).ownBlock=some k↔v.ownBlock=some k
  cases v with
  | slice ad l c=>cases ad<;>exact Iff.rfl
  | _=>exact Iff.rfl
 have hs:∀ k,SO S (OB.row v e size rows::O) k→SO S (OB.row (ZaU v m) e size (rows.take m)::O) k:=fun k hk=>⟨hk.1,fun p hp=>by
  rcases List.mem_cons.1 hp with rfl | hp
  · rw[hblk];exact hk.2 (OB.row v e size rows) (by simp)
  · exact hk.2 p (by simp[hp])⟩
 have hpw:=List.pairwise_cons.1 h.x.2.2
 refine⟨h.defs,h.size,h.keep,⟨h.x.1,fun p hp=>?_,.cons (fun p hp k hk=>hpw.1 p hp k ((hblk k).1 hk)) hpw.2⟩,fun p hp=>⟨(h.env p hp).1,(h.env p hp).2.sub fun k _=>hs k⟩⟩
 rcases List.mem_cons.1 hp with rfl | hp
 · exact OB.sub (Zqu hm (h.x.2.1 (OB.row v e size rows) (by simp))) fun k _=>hs k
 · exact OB.sub (h.x.2.1 p (by simp[hp])) fun k _=>hs k
theorem Zp3 {w:World} {v:Value} {e:TypeId} {size:Nat} {rows:List (List CD)} (hS:∀ b,w0.heap.size≤b→S b) (hk:Keeps All w0 w) (hx:XO J S w0.heap.size (OB.row v e size rows::O) w):
 Zat J S w0 (OB.row v e size rows::O) w (OB.clp (ZdI v) rows::O) w:=by
 have hi:=hx.2.1 (OB.row v e size rows) (by simp)
 have hfree:∀ k,(OB.row v e size rows).blk k→SO S O k:=fun k hk=>⟨hS k ((OB.row v e size rows).lt hi k hk).1,fun p hp=>(List.pairwise_cons.1 hx.2.2).1 p hp k hk⟩
 have hsub:∀ k,SO S O k→SO S (OB.clp (ZdI v) rows::O) k:=fun k hk=>⟨hk.1,fun p hp=>by
  rcases List.mem_cons.1 hp with rfl | hp
  · exact fun e=>e
  · exact hk.2 p hp⟩
 refine⟨hk,⟨hx.1,fun p hp=>?_,.cons (fun _ _ _ e=>e.elim) (List.pairwise_cons.1 hx.2.2).2⟩,fun av u hr=>hr.sub fun k _ hk=>hsub k hk.drop⟩
 rcases List.mem_cons.1 hp with rfl | hp
 · refine OB.sub (S:=SO S O) ?_ fun k _=>hsub k
   have hr:=ZhZ (fun k hk=>hfree k hk) (OB.sub hi fun k _ hk=>hk.drop)
   obtain⟨us,⟨h0,h1⟩,h2,h3⟩:=hi
   rcases h1 with⟨rfl,hz⟩ | ⟨g,cap,cur,rfl,hb,hg,hnc,hcm,hcs,ht⟩
   · exact⟨⟨_,_,rfl⟩,hr⟩
   · refine⟨⟨_,_,rfl⟩,?_⟩
     simp only[ZdI,Rel]
     refine Rd.of_cells (n:=size) (us:=us) (Nat.le_refl _) (by omega) (Array.getElem?_eq_some_iff.1 hg).1 (hfree g rfl) h3 (h2.sub fun k _ hk=>hk.drop) fun j u hj=>?_
     have hc:=World.ownsRow.cells (w:=w) (base:=w0.heap.size) (e:=e) (size:=size) (v:=.slice (some ⟨g,0,none⟩) rows.length cap) (n:=rows.length) (xs:=us) ⟨h0,.inr ⟨g,cap,cur,rfl,hb,hg,hnc,hcm,hcs,ht⟩⟩ (g:=g) rfl j u hj
     rw[show(⟨g,0,none⟩:Addr).add j=⟨g,0+j,none⟩ by unfold Addr.add;split<;>simp_all]at hc
     exact hc
 · exact OB.sub (hx.2.1 p (by simp[hp])) fun k _ hk=>hsub k hk.drop
theorem ZiV {t e ty:TypeId} {size bytes:Nat} (ht:Zfr P t e size bytes) (hJ:Stab J) {w:World} (hk:Keeps All w0 w) {v:Value} {rows news:List (List CD)} {y:Value} (h:XO J S w0.heap.size (OB.clp v rows::O) w) (hrl:∀ r∈rows,r.length=size)
 (hy:Rel (SO S (OB.clp v rows::O)) w (.rd (.sl news)) y) (hn:∀ r∈news,r.length=size) (hpos:0<news.length) (h63:rows.length+news.length≤maxLen) (hb:(rows.length+news.length)*bytes≤140737488355328):
 ∃ v' w',(Builtin.append_ #[t,t] ty #[v,y]).run P w= .ok v' w'∧okLit v'∧Zat J S w0 (OB.clp v rows::O) w (OB.row v' e size (rows++news)::O) w':=by
 obtain⟨ht,⟨i,z,hi,hz,his,hib,hzs⟩,hsz,hs⟩:=ht
 subst his
 subst hib
 have h63':rows.length+news.length≤9223372036854775807:=by simp only[maxLen]at h63;omega
 obtain⟨⟨ad,nn,rfl⟩,hr⟩:=h.2.1 (OB.clp v rows) (by simp)
 simp only[Rel]at hy hr
 obtain⟨ad1,cap1,hv1,hlc1,hcm1⟩:=hr.form
 injection hv1 with e1 e2 e3
 subst e1
 subst e2
 obtain⟨ad2,cap2,rfl,hlc2,hcm2⟩:=hy.form
 obtain⟨b2,off2,rfl,_⟩:=hy.at (List.getElem?_eq_getElem hpos)
 obtain⟨nu,hnl,hnr,hnc⟩:=hy.flat hn hpos
 have htl:XO J S w0.heap.size O w:=⟨h.1,fun p hp=>OB.sub (h.2.1 p (by simp[hp])) fun _ _ hk=>hk.drop,(List.pairwise_cons.1 h.2.2).2⟩
 have fin:∀(os:List Value),os.length=rows.length*i.size→RdL (SO S (OB.clp (.slice ad rows.length rows.length) rows::O)) w rows.flatten os→∀ old,old<rows.length+news.length→
  Zat J S w0 (OB.clp (.slice ad rows.length rows.length) rows::O) w (OB.row (.slice (some ⟨w.heap.size,0,none⟩) (rows.length+news.length) (grownCap w (rows.length+news.length) old e)) e i.size (rows++news)::O)
   (w.drew.alloc (.cells (os.toArray++nu.toArray++Builtin.zeroCells z.cells (grownCap w (rows.length+news.length) old e-(rows.length+news.length))) e)):=fun os hol hor old ho=>by
  have hkk:Keeps All w (w.drew.alloc (.cells (os.toArray++nu.toArray++Builtin.zeroCells z.cells (grownCap w (rows.length+news.length) old e-(rows.length+news.length))) e)):=(Keeps.refl _ _).drew.alloc _
  have hge:=grownCap_ge w (rows.length+news.length) old e
  have hcm:=grownCap_le_maxLen w (rows.length+news.length) old e h63
  have hlen:(os++nu).length=(rows.length+news.length)*i.size:=by rw[List.length_append,hol,hnl,Nat.add_mul]
  have hsub:∀ k,k<w.heap.size→SO S (OB.clp (.slice ad rows.length rows.length) rows::O) k→SO S (OB.row (.slice (some ⟨w.heap.size,0,none⟩) (rows.length+news.length) (grownCap w (rows.length+news.length) old e)) e i.size (rows++news)::O) k:=fun k hlt hk=>⟨hk.1,fun p hp=>by
   rcases List.mem_cons.1 hp with rfl | hp
   · intro e'
     have e'':some w.heap.size=some k:=e'
     injection e'' with e''
     omega
   · exact hk.2 p (by simp[hp])⟩
  have hinv:(OB.row (.slice (some ⟨w.heap.size,0,none⟩) (rows.length+news.length) (grownCap w (rows.length+news.length) old e)) e i.size (rows++news)).inv w0.heap.size (SO S ((OB.row (.slice (some ⟨w.heap.size,0,none⟩) (rows.length+news.length) (grownCap w (rows.length+news.length) old e)) e i.size (rows++news))::O)) (w.drew.alloc (.cells (os.toArray++nu.toArray++Builtin.zeroCells z.cells (grownCap w (rows.length+news.length) old e-(rows.length+news.length))) e)):=by
   refine⟨os++nu,⟨by rw[hlen,List.length_append],.inr ⟨w.heap.size,_,_,by rw[List.length_append],hk.size,heap_alloc_new w.drew _,by rw[List.length_append];exact hge,hcm,?_,?_⟩⟩,?_,fun r hr=>(List.mem_append.1 hr).elim (hrl r) (hn r)⟩
   · simp only[Array.size_append,List.size_toArray,size_zeroCells,hzs,hol,hnl,←Nat.add_mul]
     congr 1
     omega
   · simp only[Array.toList_append,List.append_assoc]
     rw[←List.append_assoc,List.length_append,←hlen]
     exact List.take_left
   · rw[List.flatten_append]
     exact RdL.append (hor.move hkk fun k hlt hs=>⟨trivial,hsub k hlt hs⟩) (hnr.move hkk fun k hlt hs=>⟨trivial,hsub k hlt hs⟩)
  obtain⟨g1,_⟩:=Zc1 hJ htl hkk (fun k hk=>by
   have e'':some w.heap.size=some k:=hk
   injection e'' with e''
   omega) hinv
  exact⟨hk.trans hkk,g1,fun av u hr=>Rel.move hkk (fun k hlt hs=>⟨trivial,hsub k hlt hs⟩) hr⟩
 cases ad with
 | none=>
  have h0:rows=[]:=by
   cases rows with
   | nil=>rfl
   | cons r rs=>obtain⟨b,off,hb',_⟩:=hr.at (i:=0) (r:=r) rfl;cases hb'
  subst h0
  simp only[List.length_nil,Nat.zero_add,List.nil_append]at fin h63' hb ⊢
  have hrun:=run_append_nil (P:=P) w t ty e i z ht hi hz ⟨b2,off2,none⟩ news.length cap2 nu hnl (fun j u hj=>by rw[Go.WideShapes.add_plain];exact hnc j u hj) hpos (by omega) (by omega)
  have hf:=fin [] (by simp) trivial 0 hpos
  simp only[Array.empty_append]at hf
  exact⟨_,_,hrun,True.intro,hf⟩
 | some ad=>
  have hos:∃ os:List Value,os.length=rows.length*i.size∧RdL (SO S (OB.clp (.slice (some ad) rows.length rows.length) rows::O)) w rows.flatten os∧∀ j u,os[j]?=some u→w.cell? (ad.add j)=some u:=by
   rcases Nat.eq_zero_or_pos rows.length with h0 | h0
   · have hr0:=List.eq_nil_of_length_eq_zero h0
     subst hr0
     exact⟨[],by simp,trivial,fun j u hj=>by simp at hj⟩
   · obtain⟨b,off,e',_⟩:=hr.at (List.getElem?_eq_getElem h0)
     injection e' with e'
     subst e'
     obtain⟨os,g1,g2,g3⟩:=hr.flat hrl h0
     exact⟨os,g1,g2,fun j u hj=>by rw[Go.WideShapes.add_plain];exact g3 j u hj⟩
  obtain⟨os,hol,hor,hoc⟩:=hos
  have hrun:=run_append_grow (P:=P) w t ty e i z ht hi hz ad rows.length rows.length os hol hoc ⟨b2,off2,none⟩ news.length cap2 nu hnl (fun j u hj=>by rw[Go.WideShapes.add_plain];exact hnc j u hj) (by omega) (by omega) (growslice_fits (by omega) hb)
  exact⟨_,_,hrun,True.intro,fin os hol hor _ (by omega)⟩
end
set_option maxHeartbeats 8000000
set_option maxRecDepth 100000
abbrev mkC (d:Db) (f:Fr) (r:List CD):List CD:=Zb d.consts::Zb d.vars::Zgm d.frames:: .lit (.string f.label):: .lit (.bool f.thm)::XW f.hyps::QI f.apart::Zb f.text::XW f.dummies::QI f.wide::Zb f.proof::r
abbrev mkM (d:Db) (f:Fr) (nm:Value) (xs:List Itm) (vs vt:Value) (n:Nat) (kn:Bool) (y1 y2:Int):List CD:=mkC d f [.lit nm,XE xs,.lit vs,.lit vt,.lit (.int .i64 n),.lit (.bool kn),.lit (.int .i64 y1),.lit (.int .i64 y2)]
abbrev mkR (d:Db) (f:Fr) (M:Nat) (v vs vt:Value) (n:Nat) (kn:Bool) (y1 y2:Int):List CD:=mkC d f [.lit (.map (some M)),.lit v,.lit vs,.lit vt,.lit (.int .i64 n),.lit (.bool kn),.lit (.int .i64 y1),.lit (.int .i64 y2)]
theorem Zpw {J:World→Prop} (hJ:Stab J) (b:Nat) (d:Db) (f:Fr) (nm:Value) (xs:List Itm) (vs:Value) (vt:Value) (n:Nat) (kn:Bool) (y1:Int) (y2:Int) (sk:List (List ByteArray)) (t:List ByteArray) (hb:sk.length≤4000):FnM (ι:=Value) Tryz.prog J 95 [] [.at b 0,.rd (Zb t)] [OB.var b (mkM d f nm xs vs vt n kn y1 y2),OB.row vs 22 1 (sk.map Zh)] (fun _=>.tup []) (fun i'=>[OB.var b (mkC d f [.lit nm,XE xs,.lit (i'),.lit vt,.lit (.int .i64 (n:Int)),.lit (.bool kn),.lit (.int .i64 y1),.lit (.int .i64 y2)]),OB.row i' 22 1 ((sk++[t]).map Zh)]):=by
 refine Ya (N:=14) Tryz.func95 rfl rfl (lb rfl) fun S w0 R hS hJ0 hH=>?_
 refine Z8 (B:=St All (SO S (OB.var b (mkM d f nm xs vs vt n kn y1 y2)::OB.row vs 22 1 (sk.map Zh)::R)) w0 14 [(0,.at b 0),(1,.rd (Zb t))] (XO J S w0.heap.size (OB.var b (mkM d f nm xs vs vt n kn y1 y2)::OB.row vs 22 1 (sk.map Zh)::R))) ?_ fun a w h=>h
 refine ln 1 fun hl1=>?_
 refine Zz (snK 2 tb rfl ?_)
 refine sq (.at b 0) rfl rfl (lb rfl) (fun _ _ h=>Zl rfl (h.get 0 rfl) h.x) ?_
 refine sq (.at b 13) rfl rfl (lb rfl) (fun _ _ h=>Zo Yh rfl (h.get 0 rfl) h.x) ?_
 refine sq (.lit vs) rfl rfl (lb rfl) (fun _ _ h=>Zn (cs:=(mkM d f nm xs vs vt n kn y1 y2)) Qu rfl (Zd h.x (mo 0 rfl)) (h.get 0 rfl) rfl h.x) ?_
 refine snK 1 tb rfl ?_
 refine sq (.rd (ZbE ([t]))) rfl rfl (lb rfl) (fun _ _ h=>Xk Z0 ZcX rfl (h.get 0 rfl) (Zq hS _ h.keep h.x _ (Nat.le_refl _)) (jo hJ h.x)) ?_
 refine kw pm1 ?_
 refine YE (f:=Zh) (m:=2) (s:=8) sk ([t]) (fun _=>rfl) Zbb hJ hJ0 rfl rfl rfl (lb rfl) rfl rfl (fun a w h=>(h.get 0 rfl)) sfz sfz fun v1=>?_
 refine sq (.at b 0) rfl rfl (lb rfl) (fun _ _ h=>Zl rfl (h.get 7 rfl) h.x) ?_
 refine sq (.at b 13) rfl rfl (lb rfl) (fun _ _ h=>Zo Yh rfl (h.get 0 rfl) h.x) ?_
 refine kw pm1 ?_
 refine ZE (b:=b) (off:=13) (cs:=(mkM d f nm xs vs vt n kn y1 y2)) (es:=(mkM d f nm xs v1 vt n kn y1 y2)) hJ hJ0 Za0 rfl rfl rfl (lb rfl) rfl (fun a w h=>⟨(h.get 0 rfl),(h.get 2 rfl)⟩) ?_
 refine seK [3] [_] rfl ?_
 refine kw (ob1 (congrArg (fun z'=>OB.row v1 22 1 ((z').map Zh)) (show(sk++([t]))=(sk++[t])from by first | rfl | grind))) ?_
 exact fun a w h=>XC  v1 rfl h rfl
theorem ZfP {J:World→Prop} (hJ:Stab J) (b:Nat) (d:Db) (f:Fr) (nm:Value) (xs:List Itm) (n:Nat) (vs:Value) (vt:Value) (kn:Bool) (y1:Int) (y2:Int) (e:Int) (p:Int)  :FnM (ι:=Unit) Tryz.prog J 73 [] [.at b 0,.int e,.int p] [OB.var b (mkM d f nm xs vs vt n kn y1 y2)] (fun _=>.tup []) (fun _=>[OB.var b (mkC d f [.lit nm,XE xs,.lit vs,.lit vt,.lit (.int .i64 (n:Int)),.lit (.bool true),.lit (.int .i64 e),.lit (.int .i64 p)])]):=by
 refine Ya (N:=15) Tryz.func73 rfl rfl (lb rfl) fun S w0 R hS hJ0 hH=>?_
 refine Z8 (B:=St All (SO S (OB.var b (mkM d f nm xs vs vt n kn y1 y2)::R)) w0 15 [(0,.at b 0),(1,.int e),(2,.int p)] (XO J S w0.heap.size (OB.var b (mkM d f nm xs vs vt n kn y1 y2)::R))) ?_ fun a w h=>h
 refine Zz (snK 4 tb rfl ?_)
 refine sq (.agg (vdC (⟨e,p⟩:Int×Int))) rfl rfl (lb rfl) (fun a _ h=>Qd (us:=[a.eval (Go.Operand.tmp 8),a.eval (Go.Operand.tmp 9)]) Zcg rfl (by simp) (Zj (h.get 1 rfl) (Zj (h.get 0 rfl) ZI)) rfl h.x) ?_
 refine sq (.at b 0) rfl rfl (lb rfl) (fun _ _ h=>Zl rfl (h.get 4 rfl) h.x) ?_
 refine sq (.at b 16) rfl rfl (lb rfl) (fun _ _ h=>Zo Zcw rfl (h.get 0 rfl) h.x) ?_
 refine ZE (b:=b) (off:=16) (cs:=(mkM d f nm xs vs vt n kn y1 y2)) (es:=(mkC d f [.lit nm,XE xs,.lit vs,.lit vt,.lit (.int .i64 (n:Int)),.lit (.bool true),.lit (.int .i64 y1),.lit (.int .i64 y2)])) hJ hJ0 Qi rfl rfl rfl (lb rfl) rfl (fun a w h=>⟨(h.get 0 rfl),(Rel.of_lit (Go.Value.bool true))⟩) ?_
 refine sq (.at b 0) rfl rfl (lb rfl) (fun _ _ h=>Zl rfl (h.get 5 rfl) h.x) ?_
 refine sq (.at b 17) rfl rfl (lb rfl) (fun _ _ h=>Zo Zcv rfl (h.get 0 rfl) h.x) ?_
 refine ZF (b:=b) (off:=17) (cs:=(mkC d f [.lit nm,XE xs,.lit vs,.lit vt,.lit (.int .i64 (n:Int)),.lit (.bool true),.lit (.int .i64 y1),.lit (.int .i64 y2)])) (es:=(mkC d f [.lit nm,XE xs,.lit vs,.lit vt,.lit (.int .i64 (n:Int)),.lit (.bool true),.lit (.int .i64 ((⟨e,p⟩:Int×Int).1)),.lit (.int .i64 ((⟨e,p⟩:Int×Int).2))])) (news:=[.lit (.int .i64 ((⟨e,p⟩:Int×Int).1)),.lit (.int .i64 ((⟨e,p⟩:Int×Int).2))]) hJ hJ0 QU rfl rfl rfl (lb rfl) rfl (fun a w h=>⟨(h.get 0 rfl),(h.get 4 rfl)⟩) ?_
 refine seK [] [] rfl ?_
 refine kw (ob0 (show OB.var b (mkC d f [.lit nm,XE xs,.lit vs,.lit vt,.lit (.int .i64 (n:Int)),.lit (.bool true),.lit (.int .i64 ((⟨e,p⟩:Int×Int).1)),.lit (.int .i64 ((⟨e,p⟩:Int×Int).2))])=OB.var b (mkC d f [.lit nm,XE xs,.lit vs,.lit vt,.lit (.int .i64 (n:Int)),.lit (.bool true),.lit (.int .i64 e),.lit (.int .i64 p)])from rfl)) ?_
 exact fun a w h=>XC  () rfl h rfl
section
variable {n:Rn} {N:Nat} {P:Program} {J X:World→Prop} {S S' S'':Nat→Prop} {O:List OB} {w0:World} {env:List (Nat×AV)} {Q:Exit→Act→World→Prop}
variable {o:Oper} {a:Act} {w:World} {x y:Operand} {t e:TypeId} {k:Nat} {v:Value} {rows:List (List CD)}
theorem QW {lo:Nat} {i:Int} (h1:Yd P t e k) (hop:o.op= .indexAddr t x y) (hi:∃ l,(OB.row v e k rows).inv l S w) (h:Rel S' w (.lit (Zd8 v lo k)) (a.eval x)) (hy:Rel S'' w (.int i) (a.eval y)) (h0:0≤i) (hl:(lo:Int)+i< (rows.length:Int)) (hx:X w):
 Z4 n P o a w (Yp S X (.lit (Xh v ((lo+i.toNat)*k))) w):=by
 obtain⟨l,hi⟩:=hi
 obtain⟨g,cap,us,cur,rfl,hc⟩:=Zah hi (by omega)
 have hcap:rows.length≤cap:=by
  obtain⟨us,⟨_,h3⟩,_⟩:=hi
  rcases h3 with⟨h4,_⟩ | ⟨g',cap',cur',h4,_,_,h5,_⟩
  · cases h4
  · injection h4 with e1 e2 e3;omega
 have hne:¬ cap=lo:=by omega
 have hsub:Zd8 (.slice (some ⟨g,0,none⟩) rows.length cap) lo k= .slice (some ⟨g,lo*k,none⟩) (rows.length-lo) (cap-lo):=by
  simp only[Zd8,if_neg hne,Option.map_some,Zbx]
  simp
 rw[hsub]at h
 have hi2:0≤i∧i< ((rows.length-lo:Nat):Int):=⟨h0,by omega⟩
 refine Zu (v:=.pointer (some ⟨g,(lo+i.toNat)*k,none⟩)) ?_ (Rel.of_lit _) hx
 rw[Nat.add_mul]
 simp[execOp,hop,h.lit,hy.lit,Instr.indexAt,asIntOf,Sem.run_bind,run_underlying h1.1,h1.2 w,hi2.1,hi2.2,Zbx]
theorem ZbG {rows:List (List CD)} {m:Nat} (hm:rows.length=m) {S':Nat→Prop} (h1:P.underlying t=some (.slice e)) (hop:o.op= .call { callee:=.builtin .len,args:= #[x],argTypes:= #[t] }) (hi:∃ lo,(OB.row v e k rows).inv lo S w) (h:Rel S' w (.lit v) (a.eval x)) (hx:X w):
 Z4 n P o a w (Yp S X (.int m) w):=by
 subst hm
 obtain⟨lo,us,g1,_⟩:=hi
 refine Zu (v:=.int .i64 rows.length) ?_ (Rel.of_lit _) hx
 rcases g1.2 with⟨hv,h4⟩ | ⟨g,cap,cur,hv,_⟩
 · simp[execOp,hop,h.lit,hv,resolve,invoke,builtin,Builtin.len_,Sem.run_bind,run_underlying h1,goInt,h4]
 · simp[execOp,hop,h.lit,hv,resolve,invoke,builtin,Builtin.len_,Sem.run_bind,run_underlying h1,goInt]
theorem Zjc {α:Type} {f:α→List CD} {ops:Array Oper} {rest:List Oper} {size bytes d m s:Nat} (xs ys:List α) (hf:∀ x,(f x).length=size) (ht:Zfr P t e size bytes) (hJ:Stab J)
 (hg:o.guard=none) (hop:o.op= .call { callee:=.builtin .append,args:= #[x,y],argTypes:= #[t,t] }) (hd:o.dst=some d) (hN:d<N) (hx:x= .tmp s) (he:env[m]?=some (s,.lit v))
 (hy:∀ a w,St All (SO S (OB.clp v (xs.map f)::O)) w0 N env (XO J S w0.heap.size (OB.clp v (xs.map f)::O)) a w→Rel (SO S (OB.clp v (xs.map f)::O)) w (.rd (.sl (ys.map f))) (a.eval y)) (hpos:0<ys.length) (hb:(xs.length+ys.length)*bytes≤140737488355328) (h63:xs.length+ys.length≤9223372036854775807)
 (next:∀ v' a w,St All (SO S (OB.row v' e size ((xs++ys).map f)::O)) w0 N ((d,.lit v')::Yx d env) (XO J S w0.heap.size (OB.row v' e size ((xs++ys).map f)::O)) a w→wpListIn n.F n.d P ops Q rest a w):
 ∀ a w,St All (SO S (OB.clp v (xs.map f)::O)) w0 N env (XO J S w0.heap.size (OB.clp v (xs.map f)::O)) a w→wpListIn n.F n.d P ops Q (o::rest) a w:=by
 refine Zb5 (O2:=fun v'=>OB.row v' e size ((xs++ys).map f)::O) (av:=fun v'=>.lit v') hg hd hN (fun a w h=>?_) next
 obtain⟨v',w',hrun,hok,hs⟩:=ZiV (ty:=o.type) ht hJ h.keep h.x (Zan hf) (hy a w h) (Zan hf) (by simpa using hpos) (by simp only[List.length_map,maxLen];exact h63) (by simp only[List.length_map];exact hb)
 rw[←List.map_append]at hs
 have hv:a.eval x=v:=by rw[hx];exact(h.get m he).lit
 refine ZP (v:=v') (w':=w') ?_ ⟨v',hs,Rel.of_lit _ hok⟩
 simp[execOp,hop,resolve,invoke,builtin,hv,hrun,Result.andThen]
end
end Go.Proofs.YtdgbcfloaenhbaaGreatDoor
