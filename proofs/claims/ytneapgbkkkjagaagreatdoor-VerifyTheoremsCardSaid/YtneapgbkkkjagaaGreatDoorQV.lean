/-
  THE STACK MACHINE AS DATA (plain): letters, items, steps, runs.
  CONTRACTS of the program: substitution.
-/
import Derived.Test.YtneapgbkkkjagaaGreatDoorQU
import Derived.Lib.Join
namespace Go.Proofs.YtneapgbkkkjagaaGreatDoor
def Zdm {α:Type} (x y:α) (k:Nat):α:=if k=0 then x else y
structure Lt where
 number:Int
 tagged:Bool
instance instInhLt:Inhabited Lt:=⟨⟨0,false⟩⟩
def ltC (l:Lt):List CD:=[.lit (.int .i64 l.number),.lit (.bool l.tagged)]
def Zwx (l:Lt):Value:=.agg #[.int .i64 l.number,.bool l.tagged]
structure Itm where
 kind:Int
 text:List BA
 number:Int
 tagged:Bool
instance instInhItm:Inhabited Itm:=⟨⟨0,[],0,false⟩⟩
def itC (x:Itm):List CD:=[.lit (.int .i64 x.kind),Zg x.text,.lit (.int .i64 x.number),.lit (.bool x.tagged)]
def QF (l:List Itm):CD:=.sl (l.map itC)
def Zhg (l:List Lt):CD:=.sl (l.map ltC)
def vdC (p:Int×Int):List CD:=[.lit (.int .i64 p.1),.lit (.int .i64 p.2)]
def lettersD:List UInt8→Int→Bool→List Lt×Bool
 | [],_,inside=>([],inside)
 | b::r,n,inside=>
  if decide (85≤b.toNat)&&decide (b.toNat≤89)then
   if 1000000<5*n+((b.toNat:Int)-85)+1 then([],true)else lettersD r (5*n+((b.toNat:Int)-85)+1) true
  else if decide (65≤b.toNat)&&decide (b.toNat≤84)then
   if 1000000<20*n+((b.toNat:Int)-65)+1 then([],true)
   else match r with
    | []=>([⟨20*n+((b.toNat:Int)-65)+1,false⟩],false)
    | c::r'=>if c.toNat=90 then(⟨20*n+((b.toNat:Int)-65)+1,true⟩::(lettersD r' 0 false).1,(lettersD r' 0 false).2)
     else(⟨20*n+((b.toNat:Int)-65)+1,false⟩::(lettersD (c::r') 0 false).1,(lettersD (c::r') 0 false).2)
  else if decide (b.toNat=63)&& !inside then(⟨0,false⟩::(lettersD r n inside).1,(lettersD r n inside).2)
  else([],true)
 termination_by l=>l.length
def Zj (s:BA):List Lt×Bool:=lettersD s.data.toList 0 false
theorem ZaG (b:UInt8) (r:List UInt8) (n:Int) (inside:Bool):lettersD (b::r) n inside=
 if decide (85≤b.toNat)&&decide (b.toNat≤89)then
  if 1000000<5*n+((b.toNat:Int)-85)+1 then([],true)else lettersD r (5*n+((b.toNat:Int)-85)+1) true
 else if decide (65≤b.toNat)&&decide (b.toNat≤84)then
  if 1000000<20*n+((b.toNat:Int)-65)+1 then([],true)
  else match r with
   | []=>([⟨20*n+((b.toNat:Int)-65)+1,false⟩],false)
   | c::r'=>if c.toNat=90 then(⟨20*n+((b.toNat:Int)-65)+1,true⟩::(lettersD r' 0 false).1,(lettersD r' 0 false).2)
    else(⟨20*n+((b.toNat:Int)-65)+1,false⟩::(lettersD (c::r') 0 false).1,(lettersD (c::r') 0 false).2)
 else if decide (b.toNat=63)&& !inside then(⟨0,false⟩::(lettersD r n inside).1,(lettersD r n inside).2)
 else([],true):=by
 rw[lettersD.eq_def]
theorem ZaF {D:List UInt8} {p:Nat} (h:p<D.length):D.drop p=ge D p::D.drop (p+1):=by rw[List.drop_eq_getElem_cons h,Xd h]
section
variable {D:List UInt8} {p:Nat} {n:Int} {ins:Bool} (h:p<D.length)
include h
theorem Zrf (h1:85≤(ge D p).toNat∧(ge D p).toNat≤89):lettersD (D.drop p) n ins=if 1000000<5*n+(((ge D p).toNat:Int)-85)+1 then([],true)else lettersD (D.drop (p+1)) (5*n+(((ge D p).toNat:Int)-85)+1) true:=by
 rw[ZaF h,ZaG,if_pos (by simp[h1])]
variable (h1:¬ (85≤(ge D p).toNat∧(ge D p).toNat≤89))
include h1
theorem Zon (h2:65≤(ge D p).toNat∧(ge D p).toNat≤84) (h3:1000000<20*n+(((ge D p).toNat:Int)-65)+1):lettersD (D.drop p) n ins=([],true):=by
 rw[ZaF h,ZaG,if_neg (by simpa using h1),if_pos (by simp[h2]),if_pos h3]
theorem let_Z (h2:65≤(ge D p).toNat∧(ge D p).toNat≤84) (h3:¬ 1000000<20*n+(((ge D p).toNat:Int)-65)+1) (h4:p+1<D.length) (h5:(ge D (p+1)).toNat=90):lettersD (D.drop p) n ins=(⟨20*n+(((ge D p).toNat:Int)-65)+1,true⟩::(lettersD (D.drop (p+1+1)) 0 false).1,(lettersD (D.drop (p+1+1)) 0 false).2):=by
 rw[ZaF h,ZaF h4,ZaG,if_neg (by simpa using h1),if_pos (by simp[h2]),if_neg h3]
 simp only[h5,if_pos]
theorem let_N (h2:65≤(ge D p).toNat∧(ge D p).toNat≤84) (h3:¬ 1000000<20*n+(((ge D p).toNat:Int)-65)+1) (h4:¬ (p+1<D.length∧(ge D (p+1)).toNat=90)):lettersD (D.drop p) n ins=(⟨20*n+(((ge D p).toNat:Int)-65)+1,false⟩::(lettersD (D.drop (p+1)) 0 false).1,(lettersD (D.drop (p+1)) 0 false).2):=by
 rw[ZaF h,ZaG,if_neg (by simpa using h1),if_pos (by simp[h2]),if_neg h3]
 by_cases h6:p+1<D.length
 · rw[ZaF h6]
   simp only[if_neg (show ¬ (ge D (p+1)).toNat=90 from fun e=>h4 ⟨h6,e⟩)]
 · rw[List.drop_eq_nil_of_le (by omega)]
   simp[lettersD]
variable (h2:¬ (65≤(ge D p).toNat∧(ge D p).toNat≤84))
include h2
theorem let_Q (h3:(ge D p).toNat=63) (h4:ins=false):lettersD (D.drop p) n ins=(⟨0,false⟩::(lettersD (D.drop (p+1)) n ins).1,(lettersD (D.drop (p+1)) n ins).2):=by
 rw[ZaF h,ZaG,if_neg (by simpa using h1),if_neg (by simpa using h2),if_pos (by simp[h3,h4])]
theorem Zjc (h3:¬ ((ge D p).toNat=63∧ins=false)):lettersD (D.drop p) n ins=([],true):=by
 rw[ZaF h,ZaG,if_neg (by simpa using h1),if_neg (by simpa using h2),if_neg (by simpa using h3)]
end
theorem Zjb {D:List UInt8} {p:Nat} {n:Int} {ins:Bool} (h:¬ p<D.length):lettersD (D.drop p) n ins=([],ins):=by
 rw[List.drop_eq_nil_of_le (by omega),lettersD]
def Q8 (fs:List Fr):List (BA×Int):=fs.zipIdx.foldl (fun m p=>Za7 m p.1.label (p.2:Int)) []
def Qt (f:Fr) (label:BA):Option Hy:=(f.hyps++f.dummies).find? fun h=>decide (h.label=label)
theorem Zww {α:Type} [Inhabited α] (x:α) (l:List α):ge (x::l) 0=x:=rfl
theorem Zvb {α:Type} [Inhabited α] (x:α) (l:List α) (k:Nat):ge (x::l) (k+1)=ge l k:=by simp[ge]
theorem ZeK {f:Fr} {s:BA} {k j:Nat} (hk:k<2) (h1:∀ i,i<k→∀ h∈Zdm f.hyps f.dummies i,¬ h.label=s) (hj:j< (Zdm f.hyps f.dummies k).length) (h2:∀ i,i<j→¬ (ge (Zdm f.hyps f.dummies k) i).label=s) (h3:(ge (Zdm f.hyps f.dummies k) j).label=s):Qt f s=some (ge (Zdm f.hyps f.dummies k) j):=by
 have key:∀(l:List Hy) (j:Nat),j<l.length→(∀ i,i<j→¬ (ge l i).label=s)→(ge l j).label=s→l.find? (fun h=>decide (h.label=s))=some (ge l j):=by
  intro l
  induction l with
  | nil=>intro j hj;simp at hj
  | cons x r ih=>
   intro j hj h2 h3
   cases j with
   | zero=>simp only[Zww]at h3 ⊢;simp[h3]
   | succ j=>
    have h4:=h2 0 (by omega)
    simp only[Zww,Zvb]at h3 h4 ⊢
    rw[List.find?_cons_of_neg (by simpa using h4)]
    exact ih j (by simpa using hj) (fun i hi=>by have:=h2 (i+1) (by omega);simpa only[Zvb]using this) h3
 unfold Qt
 rw[List.find?_append]
 match k,hk with
 | 0,_=>simp only[Zdm,if_pos]at hj h2 h3 ⊢;rw[key _ _ hj h2 h3];rfl
 | 1,_=>
  simp only[Zdm,if_neg (show ¬ (1:Nat)=0 by omega)]at hj h2 h3 ⊢
  rw[List.find?_eq_none.2 fun x hx=>by simpa using h1 0 (by omega) x (by simpa [Zdm]using hx),key _ _ hj h2 h3];rfl
theorem ZeL {f:Fr} {s:BA} (h1:∀ i,i<2→∀ h∈Zdm f.hyps f.dummies i,¬ h.label=s):Qt f s=none:=by
 unfold Qt
 rw[List.find?_eq_none]
 intro x hx
 rcases List.mem_append.1 hx with hx | hx
 · simpa using h1 0 (by omega) x (by simpa [Zdm]using hx)
 · simpa using h1 1 (by omega) x (by simpa [Zdm]using hx)
theorem Zt3 {f:Fr} {k:Nat} {x:Hy} (h:x∈Zdm f.hyps f.dummies k):x∈f.hyps++f.dummies:=by
 unfold Zdm at h
 split at h<;>simp[h]
def Yn (f:Fr) (M:List (BA×Int)) (label:BA):Itm:=
 if decide (label=(⟨#[63]⟩:BA))then⟨0,[],0,false⟩
 else match Qt f label with
  | some h=>⟨1,h.text,0,false⟩
  | none=>match ZZ M label with
   | some n=>⟨2,[],n,false⟩
   | none=>⟨3,[],0,false⟩
section
variable {f:Fr} {M:List (BA×Int)} {s:BA}
theorem Zi7 (h:s=⟨#[63]⟩):Yn f M s=⟨0,[],0,false⟩:=by simp[Yn,h]
theorem ZgD (h:¬ s=⟨#[63]⟩) (h2:(Qt f s).isSome=true):Yn f M s=⟨1,((Qt f s).getD default).text,0,false⟩:=by
 obtain⟨x,hx⟩:=Option.isSome_iff_exists.1 h2
 simp[Yn,h,hx]
theorem Zi6 (h:¬ s=⟨#[63]⟩) (h2:¬ (Qt f s).isSome=true) (h3:(ZZ M s).isSome=true):Yn f M s=⟨2,[],(ZZ M s).getD default,false⟩:=by
 obtain⟨x,hx⟩:=Option.isSome_iff_exists.1 h3
 simp at h2
 simp[Yn,h,h2,hx]
theorem Zi5 (h:¬ s=⟨#[63]⟩) (h2:¬ (Qt f s).isSome=true) (h3:¬ (ZZ M s).isSome=true):Yn f M s=⟨3,[],0,false⟩:=by
 simp at h2 h3
 simp[Yn,h,h2,h3]
end
def QW (l:List BA):Bool:=decide (0<l.length)&&decide (ge l 0=(⟨#[40]⟩:BA))
def isV (s x:BA):Bool:=decide (s=x)
def Zbh (l:List BA) (s:BA):BA:=⟨(Lib.join (l.map (·.data.toList)) s.data.toList).toArray⟩
def XD (proof:List BA):Option (List BA×BA):=
 let k:=Yp (isV ⟨#[41]⟩) proof
 if k<0 then none
 else if((proof.take k.toNat).drop 1).any fun w=>!QE w then none
 else some ((proof.take k.toNat).drop 1,Zbh (proof.drop (k.toNat+1)) ⟨#[]⟩)
def ZaR (l:List BA):Nat:=(l.map (·.size)).sum
theorem ZmW (x:BA):x.data.toList.length=x.size:=rfl
theorem ZgH:∀ l:List BA,(Lib.join (l.map (·.data.toList)) []).length=ZaR l
 | []=>rfl
 | [x]=>by
  rw[List.map_cons,List.map_nil,Lib.join_one,ZmW]
  simp[ZaR]
 | x::y::r=>by
  have h:=ZgH (y::r)
  simp only[Lib.join,List.intercalate,List.map_cons,ZaR,List.sum_cons]at h ⊢
  rw[List.intersperse_cons_cons]
  simp only[List.flatten_cons,List.length_append,List.length_nil,Nat.zero_add,h,ZmW]
theorem ZcG (l:List BA) (k:Nat):ZaR (l.drop k)≤ZaR l:=by
 have h:ZaR (l.take k++l.drop k)=ZaR (l.take k)+ZaR (l.drop k):=by
  unfold ZaR
  rw[List.map_append,List.sum_append]
 rw[List.take_append_drop]at h
 omega
theorem Zh3 (l:List BA) (k:Nat):(Lib.join ((l.drop k).map (·.data.toList)) (⟨#[]⟩:BA).data.toList).length≤ZaR l:=by
 have:=ZgH (l.drop k)
 have:=ZcG l k
 show(Lib.join ((l.drop k).map (·.data.toList)) []).length≤ZaR l
 omega
theorem ZeI {l:List BA} (h0:QW l=true) (h:¬ Yp (isV ⟨#[41]⟩) l<0):1≤(Yp (isV ⟨#[41]⟩) l).toNat∧(Yp (isV ⟨#[41]⟩) l).toNat<l.length∧0≤Yp (isV ⟨#[41]⟩) l:=by
 have h1:=Zas (p:=isV ⟨#[41]⟩) (xs:=l) (by omega)
 refine⟨?_,h1.2.1,h1.1⟩
 rcases Nat.eq_zero_or_pos (Yp (isV ⟨#[41]⟩) l).toNat with h2 | h2
 · have h3:=h1.2.2.1
   rw[h2]at h3
   simp only[QW,Bool.and_eq_true,decide_eq_true_eq]at h0
   rw[h0.2]at h3
   exact absurd h3 (by decide)
 · exact h2
theorem Zgx {l:List BA} (h:Yp (isV ⟨#[41]⟩) l<0):XD l=none:=by simp only[XD];rw[if_pos h]
theorem ZhB {l:List BA} (h:¬ Yp (isV ⟨#[41]⟩) l<0) (h2:(((l.take (Yp (isV ⟨#[41]⟩) l).toNat).drop 1).any fun w=>!QE w)=true):XD l=none:=by simp only[XD];rw[if_neg h,if_pos h2]
theorem Zkn {l:List BA} (h:¬ Yp (isV ⟨#[41]⟩) l<0) (h2:(((l.take (Yp (isV ⟨#[41]⟩) l).toNat).drop 1).any fun w=>!QE w)=false):XD l=some ((l.take (Yp (isV ⟨#[41]⟩) l).toNat).drop 1,Zbh (l.drop ((Yp (isV ⟨#[41]⟩) l).toNat+1)) ⟨#[]⟩):=by simp only[XD];rw[if_neg h,h2];rfl
def Qw (l:List BA):Bool:=(List.range l.length).any fun j=>decide (ge l j∈l.take j)
theorem Zem {l:List BA} {k:Nat} (hk:k<l.length) (h:ge l k∈l.take k):Qw l=true:=List.any_eq_true.2 ⟨k,by simpa using hk,by simpa using h⟩
theorem Zgj {l:List BA} (h:∀ j,j<l.length→¬ ge l j∈l.take j):Qw l=false:=List.any_eq_false.2 fun j hj=>by simpa using h j (by simpa using hj)
def Q2 (f:Fr) (M:List (BA×Int)) (labels:List BA) (tags:Nat) (l:Lt):Option Itm:=
 if l.number=0 then some ⟨0,[],0,l.tagged⟩
 else if l.number≤f.hyps.length then some ⟨1,(ge f.hyps (l.number-1).toNat).text,0,l.tagged⟩
 else if l.number≤((f.hyps.length+labels.length:Nat):Int)then some { Yn f M (ge labels (l.number-1-f.hyps.length).toNat)with tagged:=l.tagged }
 else if l.number≤((f.hyps.length+labels.length+tags:Nat):Int)then some ⟨4,[],l.number-1-f.hyps.length-labels.length,l.tagged⟩
 else none
def Y8 (f:Fr) (M:List (BA×Int)) (labels:List BA):List Lt→Nat→Option (List Itm)
 | [],_=>some []
 | l::r,tags=>match Q2 f M labels tags l with
  | none=>none
  | some x=>match Y8 f M labels r (if l.tagged then tags+1 else tags)with
   | none=>none
   | some xs=>some (x::xs)
def YW (f:Fr) (M:List (BA×Int)) (proof:List BA):Except Int (List Itm):=
 if !QW proof then if 2000<proof.length then .error 10 else .ok (proof.map (Yn f M))
 else match XD proof with
  | none=>.error 20
  | some (labels,text)=>
   if Qw labels||labels.any fun s=>f.hyps.any fun h=>decide (h.label=s)then .error 20
   else match Y8 f M labels (Zj text).1 0 with
    | none=>.error 21
    | some xs=>if(Zj text).2 then .error 21 else if 2000<xs.length then .error 10 else .ok xs
def ZpK (hs:List Hy) (sk:List (List BA)) (b j:Nat):Option Bd:=if(ge hs j).floating then some ⟨ge (ge hs j).text 1,(ge sk (b+j)).drop 1⟩else none
def YU (hs:List Hy) (sk:List (List BA)) (b k:Nat):List Bd:=(List.range k).filterMap (ZpK hs sk b)
def ZeG (hs:List Hy) (sk:List (List BA)) (b j:Nat):Bool:=!(ge hs j).floating||decide (ge (ge sk (b+j)) 0=ge (ge hs j).text 0)
def Zhf (hs:List Hy) (sk:List (List BA)) (b:Nat) (l:List Bd) (j:Nat):Bool:=(ge hs j).floating||ZpY (ge hs j).text l (ge sk (b+j))
def Zfz (vars:List BA) (wide:List Pr) (g:Fr) (sk:List (List BA)) (b:Nat):Except Int (List BA):=
 if !(List.range g.hyps.length).all (ZeG g.hyps sk b)then .error 24
 else if !(List.range g.hyps.length).all (Zhf g.hyps sk b (YU g.hyps sk b g.hyps.length))then .error 25
 else if !ZaS (ZW (YU g.hyps sk b g.hyps.length)) g.text 2000 then .error 15
 else if ZdV (YU g.hyps sk b g.hyps.length) g.apart vars wide then .error 26
 else .ok (XN (ZW (YU g.hyps sk b g.hyps.length)) g.text)
def Zdh (vars:List BA) (wide:List Pr) (g:Fr) (sk:List (List BA)):Except Int (List (List BA)):=
 if sk.length<g.hyps.length then .error 23
 else match Zfz vars wide g sk (sk.length-g.hyps.length)with
  | .error c=>.error c
  | .ok t=>.ok (sk.take (sk.length-g.hyps.length)++[t])
theorem Zdb (hs:List Hy) (sk:List (List BA)) (b k:Nat):YU hs sk b (k+1)=YU hs sk b k++(ZpK hs sk b k).toList:=by
 unfold YU
 rw[List.range_succ,List.filterMap_append]
 cases h:ZpK hs sk b k<;>simp[h]
theorem Zec (hs:List Hy) (sk:List (List BA)) (b k:Nat):(YU hs sk b k).length≤k:=by
 unfold YU
 have:=List.length_filterMap_le (ZpK hs sk b) (List.range k)
 simpa using this
theorem Zda {hs:List Hy} {sk:List (List BA)} {b k m:Nat} (hm:∀ t∈sk,t.length≤m) (hb:b+k≤sk.length):∀ x∈YU hs sk b k,x.text.length≤m:=by
 intro x hx
 obtain⟨j,hj,he⟩:=List.mem_filterMap.1 hx
 have hj:j<k:=by simpa using hj
 unfold ZpK at he
 split at he
 · cases he
   have:=hm _ (Zv (xs:=sk) (k:=b+j) (by omega))
   simp only[List.length_drop]
   omega
 · cases he
theorem Xa {p:Nat→Bool} {k:Nat} (h:∀ j,j<k→p j=true):(List.range k).all p=true:=List.all_eq_true.2 fun j hj=>h j (by simpa using hj)
theorem ZaL {p:Nat→Bool} {k j:Nat} (hj:j<k) (h:p j=false):(List.range k).all p=false:=List.all_eq_false.2 ⟨j,by simpa using hj,by simp[h]⟩
section
variable {vars:List BA} {wide:List Pr} {g:Fr} {sk:List (List BA)} {j:Nat}
theorem ZtZ (h:sk.length<g.hyps.length):Zdh vars wide g sk= .error 23:=by rw[Zdh,if_pos h]
theorem ZtY (h0:¬ sk.length<g.hyps.length) (hj:j<g.hyps.length) (h:ZeG g.hyps sk (sk.length-g.hyps.length) j=false):Zdh vars wide g sk= .error 24:=by
 rw[Zdh,if_neg h0,Zfz,ZaL hj h];rfl
theorem ZtX (h0:¬ sk.length<g.hyps.length) (hk:∀ j,j<g.hyps.length→ZeG g.hyps sk (sk.length-g.hyps.length) j=true) (hj:j<g.hyps.length) (h:Zhf g.hyps sk (sk.length-g.hyps.length) (YU g.hyps sk (sk.length-g.hyps.length) g.hyps.length) j=false):Zdh vars wide g sk= .error 25:=by
 rw[Zdh,if_neg h0,Zfz,Xa hk,ZaL hj h];rfl
variable (h0:¬ sk.length<g.hyps.length) (hk:∀ j,j<g.hyps.length→ZeG g.hyps sk (sk.length-g.hyps.length) j=true) (hm:∀ j,j<g.hyps.length→Zhf g.hyps sk (sk.length-g.hyps.length) (YU g.hyps sk (sk.length-g.hyps.length) g.hyps.length) j=true)
include h0 hk hm
theorem Zt0 (h:ZaS (ZW (YU g.hyps sk (sk.length-g.hyps.length) g.hyps.length)) g.text 2000=false):Zdh vars wide g sk= .error 15:=by
 rw[Zdh,if_neg h0,Zfz,Xa hk,Xa hm,h];rfl
theorem ZtW (h:ZaS (ZW (YU g.hyps sk (sk.length-g.hyps.length) g.hyps.length)) g.text 2000=true) (h2:ZdV (YU g.hyps sk (sk.length-g.hyps.length) g.hyps.length) g.apart vars wide=true):Zdh vars wide g sk= .error 26:=by
 rw[Zdh,if_neg h0,Zfz,Xa hk,Xa hm,h,h2];rfl
theorem ZtV (h:ZaS (ZW (YU g.hyps sk (sk.length-g.hyps.length) g.hyps.length)) g.text 2000=true) (h2:ZdV (YU g.hyps sk (sk.length-g.hyps.length) g.hyps.length) g.apart vars wide=false):Zdh vars wide g sk= .ok (sk.take (sk.length-g.hyps.length)++[XN (ZW (YU g.hyps sk (sk.length-g.hyps.length) g.hyps.length)) g.text]):=by
 rw[Zdh,if_neg h0,Zfz,Xa hk,Xa hm,h,h2];rfl
end
def Xk (fs:List Fr) (vars:List BA) (f:Fr) (sk tg:List (List BA)) (x:Itm):Except Int (List (List BA)):=
 if x.kind=1 then .ok (sk++[x.text])
 else if x.kind=2 then Zdh vars f.wide (ge fs x.number.toNat) sk
 else if x.kind=4 then .ok (sk++[ge tg x.number.toNat])
 else if x.kind=0 then .error 27 else .error 22
theorem ZmQ {vars:List BA} {wide:List Pr} {g:Fr} {sk:List (List BA)} {c:Int} (h:Zdh vars wide g sk= .error c):c≠0:=by
 unfold Zdh Zfz at h
 split at h
 · injection h with h;omega
 split at h
 · rename_i e
   injection h with h
   subst h
   split at e
   · injection e with e;omega
   split at e
   · injection e with e;omega
   split at e
   · injection e with e;omega
   split at e
   · injection e with e;omega
   · cases e
 · cases h
theorem Zrp {fs:List Fr} {vars:List BA} {f:Fr} {sk tg:List (List BA)} {x:Itm} {c:Int} (h:Xk fs vars f sk tg x= .error c):c≠0:=by
 unfold Xk at h
 split at h
 · cases h
 split at h
 · exact ZmQ h
 split at h
 · cases h
 split at h<;>(injection h with h;omega)
def Zc1 (f:Fr) (sk:List (List BA)) (k:Nat):Int×Int:=
 if sk.length≠1 then(23,(k:Int))else if !decide (ge sk 0=f.text)then(28,(k:Int))else(0,0)
structure Ms where
 sk:List (List BA)
 tg:List (List BA)
 n:Nat
 kn:Bool
 v:Int×Int
 did:Bool
def Zb9 (f:Fr) (len:Nat) (m:Ms):Ms:=if m.n<len then m else { m with kn:=true,v:=Zc1 f m.sk m.n }
def Ym (fs:List Fr) (vars:List BA) (f:Fr) (xs:List Itm) (m:Ms):Ms:=
 if m.kn then { m with did:=false }
 else match Xk fs vars f m.sk m.tg (ge xs m.n)with
  | .error c=> { m with kn:=true,v:=(c,(m.n:Int)),did:=false }
  | .ok s=>Zb9 f xs.length ⟨s,if(ge xs m.n).tagged=true then m.tg++[ge s ((s.length:Int)-1).toNat]else m.tg,m.n+1,m.kn,m.v,true⟩
section
variable {fs:List Fr} {vars:List BA} {f:Fr} {xs:List Itm} {sk tg s:List (List BA)} {n:Nat} {kn:Bool} {v:Int×Int} {b:Bool} {c:Int}
theorem Zd0 (h:kn=true):Ym fs vars f xs ⟨sk,tg,n,kn,v,b⟩=⟨sk,tg,n,kn,v,false⟩:=by simp[Ym,h]
theorem ZcI (h:kn=false) (hk:Xk fs vars f sk tg (ge xs n)= .error c):Ym fs vars f xs ⟨sk,tg,n,kn,v,b⟩=⟨sk,tg,n,true,(c,(n:Int)),false⟩:=by simp[Ym,h,hk]
theorem ZcH (h:kn=false) (hk:Xk fs vars f sk tg (ge xs n)= .ok s):Ym fs vars f xs ⟨sk,tg,n,kn,v,b⟩=Zb9 f xs.length ⟨s,if(ge xs n).tagged=true then tg++[ge s ((s.length:Int)-1).toNat]else tg,n+1,kn,v,true⟩:=by simp[Ym,h,hk]
theorem Zh1 {x:Itm} (h:Xk fs vars f sk tg x= .ok s):1≤s.length∧s.length≤sk.length+1:=by
 unfold Xk at h
 split at h
 · injection h with h;subst h;simp
 split at h
 · unfold Zdh at h
   split at h
   · cases h
   split at h
   · cases h
   · injection h with h;subst h;simp
 split at h
 · injection h with h;subst h;simp
 split at h<;>cases h
abbrev GI (fs:List Fr) (vars:List BA) (f:Fr) (sk tg:List (List BA)) (x:Itm) (vs:Value):Type:= {q:Int×Value×List (List BA) // (q.1=0∧Xk fs vars f sk tg x= .ok q.2.2)∨(q.1≠0∧Xk fs vars f sk tg x= .error q.1∧q.2.1=vs∧q.2.2=sk)}
theorem gi_err {x:Itm} {vs:Value} (z:GI fs vars f sk tg x vs) (h:¬ z.1.1=0):Xk fs vars f sk tg x= .error z.1.1∧z.1.2.2=sk:=by
 rcases z.2 with h2 | h2
 · exact absurd h2.1 h
 · exact⟨h2.2.1,h2.2.2.2⟩
theorem gi_ok {x:Itm} {vs:Value} (z:GI fs vars f sk tg x vs) (h:z.1.1=0):Xk fs vars f sk tg x= .ok z.1.2.2:=by
 rcases z.2 with h2 | h2
 · exact h2.2
 · exact absurd h h2.1
end
def okI (frames tags:Nat) (x:Itm):Prop:=0≤x.kind∧x.kind≤4∧(x.kind=2→0≤x.number∧x.number<frames)∧(x.kind=4→0≤x.number∧x.number<tags)
def okF (g:Fr):Prop:=g.hyps.length≤2000∧∀ h∈g.hyps,h.floating=true→h.text.length=2
def ZaU (fs:List Fr) (vars:List BA) (f:Fr) (xs:List Itm):Nat→Ms→Ms
 | 0,m=>m
 | k+1,m=>ZaU fs vars f xs k (Ym fs vars f xs m)
def Qx (f:Fr) (r:Except Int (List Itm)):List Itm×Ms:=
 match r with
 | .error c=>([],⟨[],[],0,true,(c,0),true⟩)
 | .ok xs=>(xs,Zb9 f xs.length ⟨[],[],0,false,(0,0),true⟩)
def X6 (d:Db) (z:Int):Int:=if ¬ QK d=0 then QK d else if z<0∨(d.frames.length:Int)≤z then 5 else 0
def ZiH (fs:List Fr) (vars:List BA) (f:Fr) (M:List (BA×Int)) (proof:List BA):Int×Int:=
 let s:=Qx f (YW f M proof)
 (ZaU fs vars f s.1 (s.1.length+1) s.2).v
end Go.Proofs.YtneapgbkkkjagaaGreatDoor
set_option maxHeartbeats 8000000
set_option maxRecDepth 100000
namespace Go.Proofs.YtneapgbkkkjagaaGreatDoor
open Go.Proofs.Tryz (prog)
open Go.RowKit
theorem Zn0 {J:World→Prop} (hJ:Stab J) (l:List Bd)  :FnM (ι:=Nat) prog J 168 [] [.rd (ZdW l)] [] (fun i'=>.lit (.map (some (i')))) (fun i'=>[OB.map keyS (fun z':List BA=>AV.rd (Zg z')) (i') (ZW l)]):=by
 refine Yt (N:=31) Tryz.func168 rfl rfl (lb rfl) fun S w0 R hS hJ0 hH=>?_
 refine YA (B:=So J S w0 31 (R) [(0,.rd (ZdW l))]) ?_ fun a w h=>h
 refine ln 0 fun hl1=>?_
 refine ZG tb hJ [0] [.rd (.lit (.map none))] [0] [_] rfl ⟨fun _ _ _ hx _ _=>XC rfl (Rel.of_lit (.map none)) hx,trivial⟩ ?_
 refine tsq ?_
 refine Zhn keyS (fun z':List BA=>AV.rd (Zg z')) hJ rfl rfl rfl (lb rfl) fun m1=>?_
 refine snK 1 tb rfl ?_
 refine seK [0,2] [_,_] rfl ?_
 refine nx (Zf (ZG tb hJ [0,1000,1001,1002] [_,.int (l.length:Nat),_] [1] U4 rfl ⟨Z2 ZdC,trivial⟩ ?_))
 refine Zc (lpo (ι:=Nat×(List (BA×List BA))) (fun(k,bm)=>(k≤l.length)∧(bm=ZW (l.take k))) (fun(_,bm)=>(OB.map keyS (fun z':List BA=>AV.rd (Zg z')) m1 bm::R)) (fun(k,_)=>[(11,.int (k:Nat))]) (fun(k,_)=>l.length-k) [0,1,2,3] U3 (0,([]:List (BA×List BA))) ⟨Nat.zero_le _,rfl⟩ ?_)
 rintro⟨k,bm⟩ ⟨f1_1,f1_2⟩
 refine qso tb hJ [0,1,2,3,1000] [_] U5 ?_
 refine cjS 4 (fun hb1=>?_) fun hb1=>?_
 try simp at hb1
 refine Zb (nx (Zf (Zc (tsq ?_))))
 refine sy (.ptr (bdC (ge l k))) (fun h=>ZO (i:=(k:Int)) Xy rfl (h.get 1 rfl) (h.get 3 rfl) (Int.natCast_nonneg _) (ZU (xs:=l) (k:=k) sfz) rfl h.x) ?_
 refine snK 1 tb rfl ?_
 refine XZ (cs:=bdC (ge l k)) ZmL rfl rfl rfl (lb rfl) rfl rfl rfl (by decide) (m:=0) rfl rfl (fun a w h=>Zp hS _ h.keep h.x _ (Nat.le_refl _)) (fun a w h w' hk'=>Yz hJ _ _ hk' h.x) ?_
 refine seK [0,3,4,5,6] U5 rfl ?_
 refine nx (ZG tb hJ (r5 [1005,1007,1008]) [_,_,_,.tup [.rd (Zg ((ZZ bm ((ge l k).var)).getD default)),.bool ((ZZ bm ((ge l k).var)).isSome)],_,_,_,_,_] [3] U8 rfl ⟨fun _ _ _ hx hl _=>Ql (Kd:=keyS) (f:=(fun z':List BA=>AV.rd (Zg z'))) (L:=bm) Zbg Zcz ((ge l k).var) rfl (Zi hx (mo 0 rfl)) (hl.D 0 16 rfl rfl) (hl.D 2 18 rfl rfl) hx,trivial⟩ ?_)
 refine ln 5 fun hl2=>?_
 refine qso tb hJ (r5 [1001]) [_,_] U6 ?_
 refine cj 5 (fun hb2=>?_) fun hb2=>?_
 try simp at hb2
 refine ZE (snK 5 tb rfl ?_)
 refine Zm7 (f:=(fun z':List BA=>AV.rd (Zg z'))) Zbg hJ hJ0 ((ge l k).var) ((ge l k).text) rfl rfl (.inl rfl) (fun a w h=>⟨(h.get 4 rfl),(h.get 2 rfl),(h.get 0 rfl)⟩) ?_
 refine seK [0,6,7,8,9] U5 rfl ?_
 refine nx (ln 0 fun hl3=>?_)
 refine Yu tb hJ [1,2,3,1001] [.int (k+1:Nat),_] [0] U4 rfl ⟨Ya,trivial⟩ ?_
 exact YH (k+1,Za7 bm ((ge l k).var) ((ge l k).text)) [0,1,2,3] ⟨by omega,by rw[Ziw (by omega),←f1_2];simp[ZtJ,hb2]⟩
 try simp at hb2
 refine Zb (nx (Yu tb hJ [1,2,3,1001] [.int (k+1:Nat),_] [0] U4 rfl ⟨Ya,trivial⟩ ?_))
 exact YH (k+1,bm) [0,1,2,3] ⟨by omega,by rw[Ziw (by omega),←f1_2];simp[ZtJ,hb2]⟩
 try simp at hb1
 refine Zt (nx (qso tb hJ [1001] [_,_] [_] ?_))
 refine tw (ob0 (congrArg (fun z'=>OB.map keyS (fun z':List BA=>AV.rd (Zg z')) m1 (z')) (show bm=(ZW l)from by rw[f1_2,ZF (by omega)]))) ?_
 exact Ze (fun a w h=>Ye  (m:=0) m1 rfl h rfl rfl)
theorem Zev {J:World→Prop} (hJ:Stab J) (M:Nat) (bm:List (BA×List BA)) (s:BA)  :FnR prog J 169 [OB.map keyS (fun z':List BA=>AV.rd (Zg z')) M bm] [.lit (.map (some M)),.str s] (.rd (Zg (Yw bm s))):=by
 refine Yo (N:=17) Tryz.func169 rfl rfl (lb rfl) fun S w0 hS hJ0 hH=>?_
 clear hJ0
 refine qs tb hJ [0,1] [_] [_,_] ?_
 refine Zf (hqs tb hJ [1,1004,1006,1007] [_,_,.tup [.rd (Zg ((ZZ bm s).getD default)),.bool ((ZZ bm s).isSome)],_,_,_,_,_] [2] U4 rfl ⟨fun _ _ hk hx hl _=>Ql (Kd:=keyS) (f:=(fun z':List BA=>AV.rd (Zg z'))) (L:=bm) Zbg Zcz s rfl (Xl hH hk (mo 0 rfl)) (hl.D 0 8 rfl rfl) (hl.D 1 9 rfl rfl) hx,trivial⟩ ?_)
 refine ln 1 fun hl1=>?_
 refine qs tb hJ [0,2,1000] [_] U3 ?_
 refine cj 2 (fun hb1=>?_) fun hb1=>?_
 try simp at hb1
 refine qs tb hJ [1001] [_,_] [_] ?_
 exact Ze (rtn (m:=0) rfl rfl (congrArg (fun z=>AV.rd (Zg z)) (show((ZZ bm s).getD default)=(Yw bm s)from by cases h9:ZZ bm s<;>simp_all[Yw])))
 try simp at hb1
 refine Zb (nx (hqs tb hJ [1001,1002] [_,.rd (Zg ([s])),_] [1] [_,_] rfl ⟨fun _ _ hk hx hl _=>YD Zd ZaT rfl (hl.D 0 15 rfl rfl) (hS _ hk.size) (js hJ hx),trivial⟩ ?_))
 refine ln 0 fun hl2=>?_
 exact Ze (rtn (m:=1) rfl rfl (congrArg (fun z=>AV.rd (Zg z)) (show([s])=(Yw bm s)from by cases h9:ZZ bm s<;>simp_all[Yw])))
theorem ZuI {J:World→Prop} (hJ:Stab J) (M:Nat) (bm:List (BA×List BA)) (t:List BA) (hb:(XN bm t).length≤2000):FnR prog J 170 [OB.map keyS (fun z':List BA=>AV.rd (Zg z')) M bm] [.lit (.map (some M)),.rd (Zg t)] (.rd (Zg (XN bm t))):=by
 refine Yo (N:=21) Tryz.func170 rfl rfl (lb rfl) fun S w0 hS hJ0 hH=>?_
 refine tw Z1 ?_
 refine ln 1 fun hl1=>?_
 refine qso tb hJ [0,1] [_] [_,_] ?_
 refine qso tb hJ [0,1,1000] [_] U3 ?_
 refine Zf (ZG tb hJ [0,2,1000,1001,1002] [_,.int (t.length:Nat),_] [1] U5 rfl ⟨Z2 Zm,trivial⟩ ?_)
 refine Zc (tw (YV 9 1 hJ) ?_)
 refine lpo (ι:=Nat×Value×(List BA)) (fun(k,_,out)=>(k≤t.length)∧(out=XN bm (t.take k))) (fun(_,v,out)=>[OB.row v 9 1 (out.map Zad)]) (fun(k,v,_)=>[(10,.int (k:Nat)),(5,.lit v)]) (fun(k,_,_)=>t.length-k) [0,2,3,4,1] U3 (0,(.slice none 0 0),([]:List BA)) ⟨Nat.zero_le _,rfl⟩ ?_
 rintro⟨k,v,out⟩ ⟨f1_1,f1_2⟩
 refine qso tb hJ (r5 [1000]) [_] U6 ?_
 refine cjS 5 (fun hb1=>?_) fun hb1=>?_
 try simp at hb1
 refine Zb (nx (Zf (Zc (ZG tb hJ (r5 [1002]) [.ptr [lS (ge t k)],_,_] [0] U6 rfl ⟨iIx Zd,trivial⟩ ?_))))
 refine ZE (snK 3 tb rfl ?_)
 refine sy (.rd (Zg (Yw bm (ge t k)))) (fun h=>Xq (Zev hJ M bm (ge t k)) Zc2 rfl (Zp hS _ h.keep h.x) (h.x.1) (ZT (Yr hH h.keep h.x (mo 0 rfl)) Zy) (Za (h.get 1 rfl) (Za (h.get 0 rfl) Zh)) (jo hJ h.x)) ?_
 refine ZR (f:=Zad) (m:=3) (s:=14) out (Yw bm (ge t k)) (fun _=>rfl) Xh hJ hJ0 rfl rfl rfl (lb rfl) rfl rfl (fun a w h=>(h.get 0 rfl)) (by have h9:=XM bm t (k+1);rw[YZ (by omega),List.length_append,←f1_2]at h9;omega) (by have h9:=XM bm t (k+1);rw[YZ (by omega),List.length_append,←f1_2]at h9;omega) fun v1=>?_
 refine snK 1 tb rfl ?_
 refine seK [0,2,6,7,8,9] U6 rfl ?_
 refine nx (ln 1 fun hl2=>?_)
 refine Yu tb hJ [0,2,3,4,1001] [.int (k+1:Nat),_] [0] U5 rfl ⟨Ya,trivial⟩ ?_
 exact YH (k+1,v1,out++(Yw bm (ge t k))) [1,2,3,4,0] ⟨by omega,by rw[YZ (by omega),←f1_2]⟩
 try simp at hb1
 refine Zt (nx (qso tb hJ [1001] [_,_] [_] ?_))
 refine tw (fun h=>ZN hS h (m:=0) (s:=4) rfl) ?_
 exact Ze (Xe (m:=0) rfl rfl (congrArg (fun z=>AV.rd (Zg z)) (show out=(XN bm t)from by rw[f1_2,ZF (by omega)])))
theorem ZqQ {J:World→Prop} (hJ:Stab J) (l:List BA)  :FnM (ι:=Nat) prog J 191 [] [.rd (Zg l)] [] (fun i'=>.lit (.map (some (i')))) (fun i'=>[OB.set keyS (i') (Qv l)]):=by
 refine Yt (N:=17) Tryz.func191 rfl rfl (lb rfl) fun S w0 R hS hJ0 hH=>?_
 refine YA (B:=So J S w0 17 (R) [(0,.rd (Zg l))]) ?_ fun a w h=>h
 refine ln 0 fun hl1=>?_
 refine ZG tb hJ [0] [.rd (.lit (.map none))] [0] [_] rfl ⟨fun _ _ _ hx _ _=>XC rfl (Rel.of_lit (.map none)) hx,trivial⟩ ?_
 refine tsq ?_
 refine ZbD keyS hJ rfl rfl rfl (lb rfl) fun m1=>?_
 refine snK 1 tb rfl ?_
 refine seK [0,2] [_,_] rfl ?_
 refine nx (Zf (ZG tb hJ [0,1000,1001,1002] [_,.int (l.length:Nat),_] [1] U4 rfl ⟨Z2 Zm,trivial⟩ ?_))
 refine Zc (lpo (ι:=Nat×(List BA)) (fun(k,ys)=>(k≤l.length)∧(ys=Qv (l.take k))) (fun(_,ys)=>(OB.set keyS m1 ys::R)) (fun(k,_)=>[(9,.int (k:Nat))]) (fun(k,_)=>l.length-k) [0,1,2,3] U3 (0,([]:List BA)) ⟨Nat.zero_le _,rfl⟩ ?_)
 rintro⟨k,ys⟩ ⟨f1_1,f1_2⟩
 refine qso tb hJ [0,1,2,3,1000] [_] U5 ?_
 refine cjS 4 (fun hb1=>?_) fun hb1=>?_
 try simp at hb1
 refine Zb (nx (Zf (Zc (ZG tb hJ [0,1,2,3,1002] [.ptr [lS (ge l k)],_,_] [0] U5 rfl ⟨iIx Zd,trivial⟩ ?_))))
 refine ZE (snK 2 tb rfl ?_)
 refine Zco QD hJ hJ0 (ge l k) rfl rfl (.inl rfl) (fun a w h=>⟨(h.get 1 rfl),(h.get 0 rfl),(Rel.of_lit (.bool true))⟩) ?_
 refine seK [2,3,4,5] U4 rfl ?_
 refine nx (Yu tb hJ [0,1,2,1001] [.int (k+1:Nat),_] [0] U4 rfl ⟨Ya,trivial⟩ ?_)
 exact YH (k+1,QN ys (ge l k)) [0,1,2,3] ⟨by omega,by rw[ZhX (by omega),←f1_2]⟩
 try simp at hb1
 refine Zt (nx (qso tb hJ [1001] [_,_] [_] ?_))
 refine tw (ob0 (congrArg (fun z'=>OB.set keyS m1 (z')) (show ys=(Qv l)from by rw[f1_2,ZF (by omega)]))) ?_
 exact Ze (fun a w h=>Ye  (m:=0) m1 rfl h rfl rfl)
theorem ZdH {J:World→Prop} (hJ:Stab J) (M:Nat) (vs:List BA) (t:List BA) (hb:t.length≤2000):FnR prog J 192 [OB.set keyS M vs] [.rd (Zg t),.lit (.map (some M))] (.rd (Zg (Qu t vs))):=by
 refine Yo (N:=33) Tryz.func192 rfl rfl (lb rfl) fun S w0 hS hJ0 hH=>?_
 refine tw Z1 ?_
 refine ln 0 fun hl1=>?_
 refine qso tb hJ [0,1] [_] [_,_] ?_
 refine qso tb hJ [0,1,1000] [_] U3 ?_
 refine tsq ?_
 refine ZbD keyS hJ rfl rfl rfl (lb rfl) fun m1=>?_
 refine snK 1 tb rfl ?_
 refine seK [0,2,3,4] U4 rfl ?_
 refine nx (Zf (ZG tb hJ [0,2,3,1000,1001,1002] [_,.int (t.length:Nat),_] [1] U6 rfl ⟨Z2 Zm,trivial⟩ ?_))
 refine Zc (tw (YV 9 1 hJ) ?_)
 refine lpo (ι:=Nat×Value×(List BA)×(List BA)) (fun(k,_,out,ys)=>(k≤t.length)∧(out=Qu (t.take k) vs)∧(ys=out)∧(out.length≤k)) (fun(_,v,out,ys)=>[OB.row v 9 1 (out.map Zad),OB.set keyS m1 ys]) (fun(k,v,_,_)=>[(12,.int (k:Nat)),(5,.lit v)]) (fun(k,_,_,_)=>t.length-k) [0,1,3,4,5,2] U4 (0,(.slice none 0 0),([]:List BA),([]:List BA)) ⟨Nat.zero_le _,rfl,rfl,Nat.le_refl _⟩ ?_
 rintro⟨k,v,out,ys⟩ ⟨f1_1,f1_2,f1_3,f1_4⟩
 refine qso tb hJ (r6 [1000]) [_] U7 ?_
 refine cjS 6 (fun hb1=>?_) fun hb1=>?_
 try simp at hb1
 refine Zb (nx (Zf (Zc (ZG tb hJ (r6 [1002]) [.ptr [lS (ge t k)],_,_] [0] U7 rfl ⟨iIx Zd,trivial⟩ ?_))))
 refine ZG tb hJ (r7 [1008]) [_,_,.bool (decide ((ge t k)∈vs)),_,_,_,.bool (decide ((ge t k)∈ys)),_,_] [2,6] U8 rfl ⟨fun _ _ hk hx hl _=>YE (Kd:=keyS) (xs:=vs) QD Yf (ge t k) rfl (Yr hH hk hx (mo 0 rfl)) (hl.D 0 16 rfl rfl) (hl.D 1 17 rfl rfl) hx,fun _ _ _ hx hl hc=>YE (Kd:=keyS) (xs:=ys) QD Yf (ge t k) rfl (Zi hx (mo 1 rfl)) (hl.D 4 20 rfl hc) (hl.D 5 21 rfl hc) hx,trivial⟩ ?_
 refine cj 7 (fun hb2=>?_) fun hb2=>?_
 try simp at hb2
 refine tsq ?_
 refine snK 2 tb rfl ?_
 refine kw pm1 ?_
 refine Zco QD hJ hJ0 (ge t k) rfl rfl (.inl rfl) (fun a w h=>⟨(h.get 1 rfl),(h.get 0 rfl),(Rel.of_lit (.bool true))⟩) ?_
 refine seK [2,3,4,5,6,7,8] U7 rfl ?_
 refine nx (ZE (snK 2 tb rfl ?_))
 refine sy (.rd (Zg ([(ge t k)]))) (fun h=>YD Zd ZaT rfl (h.get 0 rfl) (Zp hS _ h.keep h.x _ (Nat.le_refl _)) (jo hJ h.x)) ?_
 refine kw pm1 ?_
 refine ZR (f:=Zad) (m:=2) (s:=27) out ([(ge t k)]) (fun _=>rfl) Xh hJ hJ0 rfl rfl rfl (lb rfl) rfl rfl (fun a w h=>(h.get 0 rfl)) sfz sfz fun v2=>?_
 refine snK 1 tb rfl ?_
 refine seK [0,2,5,6,7,8,9] U7 rfl ?_
 refine nx (ln 1 fun hl2=>?_)
 refine Yu tb hJ [0,2,3,4,5,1001] [.int (k+1:Nat),_] [0] U6 rfl ⟨Ya,trivial⟩ ?_
 exact YH (k+1,v2,out++([(ge t k)]),QN ys (ge t k)) [1,2,3,4,5,0] ⟨by omega,by rw[ZcS (by omega),←f1_2];subst f1_3;simp_all[ZhU],by subst f1_3;simp_all[QN],by simp;omega⟩
 try simp at hb2
 refine Zb (nx (Yu tb hJ [0,1,2,3,5,1001] [.int (k+1:Nat),_] [0] U6 rfl ⟨Ya,trivial⟩ ?_))
 exact YH (k+1,v,out,ys) [0,1,2,3,5,4] ⟨by omega,by rw[ZcS (by omega),←f1_2];subst f1_3;simp[ZhU];grind,f1_3,by omega⟩
 try simp at hb1
 refine Zt (nx (qso tb hJ [1001] [_,_] [_] ?_))
 refine tw (fun h=>ZN hS h (m:=0) (s:=4) rfl) ?_
 exact Ze (Xe (m:=0) rfl rfl (congrArg (fun z=>AV.rd (Zg z)) (show out=(Qu t vs)from by rw[f1_2,ZF (by omega)])))
theorem p_Fits {J:World→Prop} (hJ:Stab J) (t:List BA) (l:List Bd) (x:List BA)  :Fn prog J 145 [.rd (Zg t),.rd (ZdW l),.rd (Zg x)] (.bool (ZpY t l x)):=by
 refine Zo (N:=49) Tryz.func145 rfl rfl (lb rfl) fun S w0 hS hJ0=>?_
 refine tw Z1 ?_
 refine ln 0 fun hl1=>?_
 refine ln 1 fun hl2=>?_
 refine ln 2 fun hl3=>?_
 refine qso tb hJ [0,1,2] [_] U3 ?_
 refine ZjW (tsq ?_)
 refine snK 1 tb rfl ?_
 refine X0 (O:=[]) (R:=[]) (Zn0 hJ l) Zg0 rfl rfl rfl (lb rfl) hS hJ0 Zy (fun a w h=>(Za (h.get 0 rfl) Zh)) fun z1=>?_
 refine snK 1 tb rfl ?_
 refine seK [0,3,5] U3 rfl ?_
 refine nx (qso tb hJ [0,1,2,1000] [_] U4 ?_)
 refine Zf (ZjX (nx (Zf (ZG tb hJ [0,2,3,1000,1001,1002] [_,.int (t.length:Nat),_] [1] U6 rfl ⟨Z2 Zm,trivial⟩ ?_))))
 refine Zc (lpo (ι:=Nat×Nat) (fun(k,p)=>(k≤t.length)∧(p≤x.length)∧(x.take p=XN (ZW l) (t.take k))) (fun(_,_)=>[OB.map keyS (fun z':List BA=>AV.rd (Zg z')) z1 (ZW l)]) (fun(k,p)=>[(17,.int (k:Nat)),(8,.int (p:Nat))]) (fun(k,_)=>t.length-k) [0,1,3,4,5,2] U4 (0,0) ⟨Nat.zero_le _,Nat.zero_le _,rfl⟩ ?_)
 rintro⟨k,p⟩ ⟨f1_1,f1_2,f1_3⟩
 refine qso tb hJ (r6 [1000]) [_] U7 ?_
 refine cjS 6 (fun hb1=>?_) fun hb1=>?_
 try simp at hb1
 refine Zb (nx (Zf (Zc (ZG tb hJ (r6 [1002]) [.ptr [lS (ge t k)],_,_] [0] U7 rfl ⟨iIx Zd,trivial⟩ ?_))))
 refine ZG tb hJ (r6 [1002,1003,1004]) [_,_,.rd (Zg (Yw (ZW l) (ge t k))),.int ((Yw (ZW l) (ge t k)).length:Nat),_] [2,3] U9 rfl ⟨fun _ _ hk hx hl _=>Xq (Zev hJ z1 (ZW l) (ge t k)) Zc2 rfl (Zp hS _ hk hx) (hx.1) (ZT (Zi hx (mo 0 rfl)) Zy) (Za (hl.D 0 21 rfl rfl) (Za (hl.D 1 22 rfl rfl) Zh)) (jo hJ hx),Z2 Zm,trivial⟩ ?_
 refine ln 6 fun hl4=>?_
 refine Zc (lpo (ι:=Nat×Nat) (fun(j,q)=>(j≤(Yw (ZW l) (ge t k)).length)∧(q≤x.length)∧(x.take q=XN (ZW l) (t.take k)++(Yw (ZW l) (ge t k)).take j)) (fun(_,_)=>[OB.map keyS (fun z':List BA=>AV.rd (Zg z')) z1 (ZW l)]) (fun(j,q)=>[(25,.int (j:Nat)),(8,.int (q:Nat))]) (fun(j,_)=>(Yw (ZW l) (ge t k)).length-j) (r5 [6,7,8,5]) U7 (0,p) ⟨Nat.zero_le _,f1_2,by simpa using f1_3⟩ ?_)
 rintro⟨j,q⟩ ⟨f2_1,f2_2,f2_3⟩
 refine qso tb hJ [0,1,2,3,4,5,6,7,8,1000] [_] U10 ?_
 refine cjS 9 (fun hb2=>?_) fun hb2=>?_
 try simp at hb2
 refine Zb (nx (Zf (Zc (ZG tb hJ [0,1,2,3,4,5,6,7,8,1002] [.ptr [lS (ge (Yw (ZW l) (ge t k)) j)],_,_] [0] U10 rfl ⟨iIx Zd,trivial⟩ ?_))))
 refine Zf (ZG tb hJ [0,1,2,3,4,5,6,7,8,1011] [_,_,.int (x.length:Nat),_,_,_,_,.ptr [lS (ge x q)],_,_,_,_] [2,7] U10 rfl ⟨Z2 Zm,gIx Zd (hk:=fun(hc':((decide ((q:Int)=(x.length:Int)))==false)=true)=>by(try simp at hc');first | omega | (simp;omega) | grind[Zv]),trivial⟩ ?_)
 refine cj 9 (fun hb3=>?_) fun hb3=>?_
 try simp at hb3
 have e3:q=x.length∨ ¬ ge x q=ge (Yw (ZW l) (ge t k)) j:=by grind
 refine qso tb hJ [1,1000] [_] [_,_] ?_
 refine Zt (nx (ZG tb hJ [1004] [_,_,.int (x.length:Nat),_,_] [2] [_] rfl ⟨Z2 Zm,trivial⟩ ?_))
 exact Ze (Xe (m:=0) rfl rfl (eB (by rw[ZpY,decide_eq_false (by omega),decide_eq_false (fit_no (by omega) hb2 f2_3 f2_2 e3)])))
 try simp at hb3
 have e3:q<x.length∧ge x q=ge (Yw (ZW l) (ge t k)) j:=by grind
 refine Zb (nx (Yu tb hJ (r8 [1002]) [_,.int (q+1:Nat),_] [1] U9 rfl ⟨Ya,trivial⟩ ?_))
 refine nx (Yu tb hJ (r7 [8,1001]) [.int (j+1:Nat),_] [0] U9 rfl ⟨Ya,trivial⟩ ?_)
 exact YH (j+1,q+1) (r7 [8,7]) ⟨by omega,by omega,by rw[Z0 e3.1,Z0 hb2,←List.append_assoc,←f2_3,e3.2]⟩
 try simp at hb2
 refine Zt (nx (Yu tb hJ [0,1,2,3,8,1001] [.int (k+1:Nat),_] [0] U6 rfl ⟨Ya,trivial⟩ ?_))
 exact YH (k+1,q) [0,1,2,3,5,4] ⟨by omega,f2_2,by rw[YZ (by omega),f2_3,ZF (xs:=Yw (ZW l) (ge t k)) (by omega)]⟩
 try simp at hb1
 refine Zt (nx (ZG tb hJ [1004] [_,_,.int (x.length:Nat),_,_] [2] [_] rfl ⟨Z2 Zm,trivial⟩ ?_))
 exact Ze (Xe (m:=0) rfl rfl (eB (by rw[ZpY,ZoU (by rw[f1_3,ZF (by omega)]) f1_2])))
theorem Zn1 {J:World→Prop} (hJ:Stab J) (t:List BA) (l:List Bd) (n:Nat) (hn:n≤2000) (hl:∀ b∈l,b.text.length≤2000):Fn prog J 146 [.rd (Zg t),.rd (ZdW l),.int (n:Nat)] (.tup [.rd (Zg (if ZaS (ZW l) t n then XN (ZW l) t else [])),.int (if ZaS (ZW l) t n then 0 else 15)]):=by
 refine Zo (N:=35) Tryz.func146 rfl rfl (lb rfl) fun S w0 hS hJ0=>?_
 refine tw Z1 ?_
 refine ln 0 fun hl1=>?_
 refine ln 1 fun hl2=>?_
 refine qso tb hJ [0,1,2] [_,_] U3 ?_
 refine Zf (qso tb hJ [0,1,2,1001] [_,_] U4 ?_)
 refine cj 3 (fun hb1=>?_) fun hb1=>?_
 try simp at hb1
 exact False.elim (by omega)
 try simp at hb1
 refine Zb (nx (tsq ?_))
 refine snK 1 tb rfl ?_
 refine X0 (O:=[]) (R:=[]) (Zn0 hJ l) Zg0 rfl rfl rfl (lb rfl) hS hJ0 Zy (fun a w h=>(Za (h.get 0 rfl) Zh)) fun z1=>?_
 refine snK 1 tb rfl ?_
 refine seK [0,3,5] U3 rfl ?_
 refine nx (qso tb hJ [0,1,1001] [_,_] U3 ?_)
 refine Zf (ZG tb hJ [0,1,2,1000,1001,1002] [_,.int (t.length:Nat),_] [1] U6 rfl ⟨Z2 Zm,trivial⟩ ?_)
 refine Zc (lpo (ι:=Nat×Int) (fun(k,z)=>(k≤t.length)∧(z=(n:Int)-(XN (ZW l) (t.take k)).length)∧(0≤z)) (fun(_,_)=>[OB.map keyS (fun z':List BA=>AV.rd (Zg z')) z1 (ZW l)]) (fun(k,z)=>[(19,.int (k:Nat)),(9,.int z)]) (fun(k,_)=>t.length-k) [0,1,3,4,5,2] U4 (0,(n:Int)) ⟨Nat.zero_le _,by simp[XN],by omega⟩ ?_)
 rintro⟨k,z⟩ ⟨f1_1,f1_2,f1_3⟩
 refine qso tb hJ (r6 [1000]) [_] U7 ?_
 refine cjS 6 (fun hb2=>?_) fun hb2=>?_
 try simp at hb2
 refine Zb (nx (Zf (Zc (ZG tb hJ (r6 [1002]) [.ptr [lS (ge t k)],_,_] [0] U7 rfl ⟨iIx Zd,trivial⟩ ?_))))
 refine ZG tb hJ (r5 [1003,1006]) [_,_,_,.rd (Zg (Yw (ZW l) (ge t k))),.int ((Yw (ZW l) (ge t k)).length:Nat),.int (z-(((Yw (ZW l) (ge t k)).length:Nat):Int)),_] [3,4,5] U7 rfl ⟨fun _ _ hk hx hl _=>Xq (Zev hJ z1 (ZW l) (ge t k)) Zc2 rfl (Zp hS _ hk hx) (hx.1) (ZT (Zi hx (mo 0 rfl)) Zy) (Za (hl.D 1 24 rfl rfl) (Za (hl.D 2 25 rfl rfl) Zh)) (jo hJ hx),Z2 Zm,Zu8 (h0:=by have:=Zcr (m:=2000) (by omega) hl (ge t k);omega),trivial⟩ ?_
 refine ln 5 fun hl3=>?_
 refine qso tb hJ (r5 [6,1001]) [_,_] U7 ?_
 refine cj 6 (fun hb3=>?_) fun hb3=>?_
 try simp at hb3
 have e3:ZaS (ZW l) t n=false:=by have h9:=XM (ZW l) t (k+1);rw[YZ (by omega),List.length_append]at h9;simp only[ZaS,decide_eq_false_iff_not];omega
 refine qso tb hJ [1000,1001] [_,_] [_,_] ?_
 refine tw (fun h=>Z3 h (m:=0) (s:=6) rfl) ?_
 exact Ze (fun a w h=>YM (m:=0) (k:=1) rfl (ZP h) rfl rfl (congrArg (fun z=>AV.rd (Zg z)) (show([]:List BA)=(if ZaS (ZW l) t n then XN (ZW l) t else [])from by simp[e3])) (eI (by simp[e3])))
 try simp at hb3
 refine Zb (nx (Yu tb hJ [0,1,2,3,5,1001] [.int (k+1:Nat),_] [0] U6 rfl ⟨Ya,trivial⟩ ?_))
 exact YH (k+1,z-(((Yw (ZW l) (ge t k)).length:Nat):Int)) [0,1,2,3,5,4] ⟨by omega,by rw[YZ (by omega),List.length_append,f1_2];omega,by omega⟩
 try simp at hb2
 have e4:ZaS (ZW l) t n=true:=by rw[ZF (xs:=t) (by omega)]at f1_2;simp only[ZaS,decide_eq_true_eq];omega
 refine Zt (nx (ZG tb hJ [1002,1003,1004] [_,_,.rd (Zg (XN (ZW l) t)),_,_] [2] U3 rfl ⟨fun _ _ hk hx hl _=>Xq (ZuI hJ z1 (ZW l) t (by simp only[ZaS,decide_eq_true_eq]at e4;omega)) ZrX rfl (Zp hS _ hk hx) (hx.1) (ZT (Zi hx (mo 0 rfl)) Zy) (Za (hl.D 0 32 rfl rfl) (Za (hl.D 1 33 rfl rfl) Zh)) (jo hJ hx),trivial⟩ ?_))
 refine ln 0 fun hl4=>?_
 exact Ze (fun a w h=>YM (m:=1) (k:=2) rfl (ZP h) rfl rfl (congrArg (fun z=>AV.rd (Zg z)) (show(XN (ZW l) t)=(if ZaS (ZW l) t n then XN (ZW l) t else [])from by simp[e4])) (eI (by simp[e4])))
theorem ZhF {J:World→Prop} (hJ:Stab J) (x:Pr)  :Fn prog J 187 [.agg (prC x)] (.agg (prC (QB x))):=by
 refine Zo (N:=15) Tryz.func187 rfl rfl (lb rfl) fun S w0 hS hJ0=>?_
 refine tw Z1 ?_
 refine tsq ?_
 refine Zm9 (cs:=[lS x.a,lS x.b]) hJ rfl rfl rfl (lb rfl) (fun a w h=>(h.get 0 rfl)) fun b1=>?_
 refine Z4 XH hJ rfl rfl rfl (lb rfl) fun b2=>?_
 refine seK [0,1] [_,_] rfl ?_
 refine nx (Zf (ZG tb hJ [0,1,1004] [.at b1 1,.str x.b,.at b1 0,.str x.a,_] [0,1,2,3] U3 rfl ⟨fun _ _ _ hx hl _=>Zw Zau rfl (hl.env 1 1 _ rfl rfl) hx,fun a _ _ hx hl _=>Zz QP rfl (Zi hx (mo 1 rfl)) (hl.D 0 3 rfl rfl) rfl hx,fun _ _ _ hx hl _=>Zw Zav rfl (hl.env 1 1 _ rfl rfl) hx,fun a _ _ hx hl _=>Zz QP rfl (Zi hx (mo 1 rfl)) (hl.D 2 5 rfl rfl) rfl hx,trivial⟩ ?_))
 refine cj 2 (fun hb1=>?_) fun hb1=>?_
 try simp at hb1
 refine ZE (sq (.at b1 1) rfl rfl (lb rfl) (fun _ _ h=>Zw Zau rfl (h.get 1 rfl) h.x) ?_)
 refine sy (.str x.b) (fun h=>Zz QP rfl (Zi h.x (mo 1 rfl)) (h.get 0 rfl) rfl h.x) ?_
 refine sy (.at b1 0) (fun h=>Zw Zav rfl (h.get 3 rfl) h.x) ?_
 refine sy (.str x.a) (fun h=>Zz QP rfl (Zi h.x (mo 1 rfl)) (h.get 0 rfl) rfl h.x) ?_
 refine sy (.at b1 0) (fun h=>Zw Zav rfl (h.get 5 rfl) h.x) ?_
 refine kw pm1 ?_
 refine Yc (b:=b1) (off:=0) (es:=[_,_]) hJ hJ0 Zj5 rfl rfl rfl (lb rfl) rfl (fun a w h=>⟨(h.get 0 rfl),(h.get 3 rfl)⟩) ?_
 refine sy (.at b1 1) (fun h=>Zw Zau rfl (h.get 6 rfl) h.x) ?_
 refine Yc (b:=b1) (off:=1) (es:=[_,_]) hJ hJ0 Zj5 rfl rfl rfl (lb rfl) rfl (fun a w h=>⟨(h.get 0 rfl),(h.get 2 rfl)⟩) ?_
 refine seK [6,7] [_,_] rfl ?_
 refine nx (tsq ?_)
 refine sy (.agg [lS x.b,lS x.a]) (fun h=>YP (ds:=[lS x.b,lS x.a]) YN rfl (Zi h.x (mo 0 rfl)) (h.get 1 rfl) rfl rfl h.x) ?_
 refine kw pm1 ?_
 refine ZD (b:=b2) (off:=0) (es:=[_,_]) (news:=[_,_]) hJ hJ0 YK rfl rfl rfl (lb rfl) rfl (fun a w h=>⟨(h.get 1 rfl),(h.get 0 rfl)⟩) ?_
 refine seK [1] [_] rfl ?_
 exact nx (Ze (fun a w h=>X3 (m:=0) rfl YN h rfl rfl (show(_:List CD)=[lS ((QB x).a),lS ((QB x).b)]from by simp[QB,hb1])))
 try simp at hb1
 refine Zb (nx (tsq ?_))
 refine sy (.agg (prC x)) (fun h=>YP (ds:=[lS x.a,lS x.b]) YN rfl (Zi h.x (mo 1 rfl)) (h.get 1 rfl) rfl rfl h.x) ?_
 refine ZD (b:=b2) (off:=0) (es:=[_,_]) (news:=[_,_]) hJ hJ0 YK rfl rfl rfl (lb rfl) rfl (fun a w h=>⟨(h.get 1 rfl),(h.get 0 rfl)⟩) ?_
 refine seK [1] [_] rfl ?_
 exact nx (Ze (fun a w h=>X3 (m:=0) rfl YN h rfl rfl (show(_:List CD)=[lS ((QB x).a),lS ((QB x).b)]from by simp[QB,hb1])))
end Go.Proofs.YtneapgbkkkjagaaGreatDoor
