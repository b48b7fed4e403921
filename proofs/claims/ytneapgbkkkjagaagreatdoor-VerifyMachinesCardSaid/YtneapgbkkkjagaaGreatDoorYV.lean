/-
  THE STACK MACHINE AS DATA (plain): letters, items, steps, runs.
  CONTRACTS of the program: substitution.
-/
import Derived.Test.YtneapgbkkkjagaaGreatDoorYU
import Derived.Lib.Join
namespace Go.Proofs.YtneapgbkkkjagaaGreatDoor
def Zdx {α:Type} (x y:α) (k:Nat):α:=if k=0 then x else y
structure Lt where
 number:Int
 tagged:Bool
instance instInhLt:Inhabited Lt:=⟨⟨0,false⟩⟩
def ltC (l:Lt):List CD:=[.lit (.int .i64 l.number),.lit (.bool l.tagged)]
def Zxf (l:Lt):Value:=.agg #[.int .i64 l.number,.bool l.tagged]
structure Itm where
 kind:Int
 text:List BA
 number:Int
 tagged:Bool
instance instInhItm:Inhabited Itm:=⟨⟨0,[],0,false⟩⟩
def itC (x:Itm):List CD:=[.lit (.int .i64 x.kind),Zf x.text,.lit (.int .i64 x.number),.lit (.bool x.tagged)]
def Qv (l:List Itm):CD:=.sl (l.map itC)
def ZhC (l:List Lt):CD:=.sl (l.map ltC)
def vdC (p:Int×Int):List CD:=[.lit (.int .i64 p.1),.lit (.int .i64 p.2)]
def lettersD:List UInt8→Int→Bool→List Lt×Bool
 | [],_,inside=>([],inside)
 | b::r,n,inside=>
  if decide (85≤b.toNat)&&decide (b.toNat≤89)then
   if 1000000<5*n+((b.toNat:Int)-85)+1 then([],true)else lettersD r (5*n+((b.toNat:Int)-85)+1) true
  else if decide (65≤b.toNat)&&decide (b.toNat≤84)then
   if 1000000<20*n+((b.toNat:Int)-65)+1 then([],true)
   else match r with
    | []=>([⟨20*n+((b.toNat:Int)-65)+1,false⟩],false)
    | c::r'=>if c.toNat=90 then(⟨20*n+((b.toNat:Int)-65)+1,true⟩::(lettersD r' 0 false).1,(lettersD r' 0 false).2)
     else(⟨20*n+((b.toNat:Int)-65)+1,false⟩::(lettersD (c::r') 0 false).1,(lettersD (c::r') 0 false).2)
  else if decide (b.toNat=63)&& !inside then(⟨0,false⟩::(lettersD r n inside).1,(lettersD r n inside).2)
  else([],true)
 termination_by l=>l.length
def Zj (s:BA):List Lt×Bool:=lettersD s.data.toList 0 false
theorem ZaG (b:UInt8) (r:List UInt8) (n:Int) (inside:Bool):lettersD (b::r) n inside=
 if decide (85≤b.toNat)&&decide (b.toNat≤89)then
  if 1000000<5*n+((b.toNat:Int)-85)+1 then([],true)else lettersD r (5*n+((b.toNat:Int)-85)+1) true
 else if decide (65≤b.toNat)&&decide (b.toNat≤84)then
  if 1000000<20*n+((b.toNat:Int)-65)+1 then([],true)
  else match r with
   | []=>([⟨20*n+((b.toNat:Int)-65)+1,false⟩],false)
   | c::r'=>if c.toNat=90 then(⟨20*n+((b.toNat:Int)-65)+1,true⟩::(lettersD r' 0 false).1,(lettersD r' 0 false).2)
    else(⟨20*n+((b.toNat:Int)-65)+1,false⟩::(lettersD (c::r') 0 false).1,(lettersD (c::r') 0 false).2)
 else if decide (b.toNat=63)&& !inside then(⟨0,false⟩::(lettersD r n inside).1,(lettersD r n inside).2)
 else([],true):=by
 rw[lettersD.eq_def]
theorem ZaF {D:List UInt8} {p:Nat} (h:p<D.length):D.drop p=ge D p::D.drop (p+1):=by rw[List.drop_eq_getElem_cons h,Xj h]
section
variable {D:List UInt8} {p:Nat} {n:Int} {ins:Bool} (h:p<D.length)
include h
theorem ZrS (h1:85≤(ge D p).toNat∧(ge D p).toNat≤89):lettersD (D.drop p) n ins=if 1000000<5*n+(((ge D p).toNat:Int)-85)+1 then([],true)else lettersD (D.drop (p+1)) (5*n+(((ge D p).toNat:Int)-85)+1) true:=by
 rw[ZaF h,ZaG,if_pos (by simp[h1])]
variable (h1:¬ (85≤(ge D p).toNat∧(ge D p).toNat≤89))
include h1
theorem ZoO (h2:65≤(ge D p).toNat∧(ge D p).toNat≤84) (h3:1000000<20*n+(((ge D p).toNat:Int)-65)+1):lettersD (D.drop p) n ins=([],true):=by
 rw[ZaF h,ZaG,if_neg (by simpa using h1),if_pos (by simp[h2]),if_pos h3]
theorem let_Z (h2:65≤(ge D p).toNat∧(ge D p).toNat≤84) (h3:¬ 1000000<20*n+(((ge D p).toNat:Int)-65)+1) (h4:p+1<D.length) (h5:(ge D (p+1)).toNat=90):lettersD (D.drop p) n ins=(⟨20*n+(((ge D p).toNat:Int)-65)+1,true⟩::(lettersD (D.drop (p+1+1)) 0 false).1,(lettersD (D.drop (p+1+1)) 0 false).2):=by
 rw[ZaF h,ZaF h4,ZaG,if_neg (by simpa using h1),if_pos (by simp[h2]),if_neg h3]
 simp only[h5,if_pos]
theorem let_N (h2:65≤(ge D p).toNat∧(ge D p).toNat≤84) (h3:¬ 1000000<20*n+(((ge D p).toNat:Int)-65)+1) (h4:¬ (p+1<D.length∧(ge D (p+1)).toNat=90)):lettersD (D.drop p) n ins=(⟨20*n+(((ge D p).toNat:Int)-65)+1,false⟩::(lettersD (D.drop (p+1)) 0 false).1,(lettersD (D.drop (p+1)) 0 false).2):=by
 rw[ZaF h,ZaG,if_neg (by simpa using h1),if_pos (by simp[h2]),if_neg h3]
 by_cases h6:p+1<D.length
 · rw[ZaF h6]
   simp only[if_neg (show ¬ (ge D (p+1)).toNat=90 from fun e=>h4 ⟨h6,e⟩)]
 · rw[List.drop_eq_nil_of_le oz]
   simp[lettersD]
variable (h2:¬ (65≤(ge D p).toNat∧(ge D p).toNat≤84))
include h2
theorem let_Q (h3:(ge D p).toNat=63) (h4:ins=false):lettersD (D.drop p) n ins=(⟨0,false⟩::(lettersD (D.drop (p+1)) n ins).1,(lettersD (D.drop (p+1)) n ins).2):=by
 rw[ZaF h,ZaG,if_neg (by simpa using h1),if_neg (by simpa using h2),if_pos (by simp[h3,h4])]
theorem Zjx (h3:¬ ((ge D p).toNat=63∧ins=false)):lettersD (D.drop p) n ins=([],true):=by
 rw[ZaF h,ZaG,if_neg (by simpa using h1),if_neg (by simpa using h2),if_neg (by simpa using h3)]
end
theorem Zjw {D:List UInt8} {p:Nat} {n:Int} {ins:Bool} (h:¬ p<D.length):lettersD (D.drop p) n ins=([],ins):=by
 rw[List.drop_eq_nil_of_le oz,lettersD]
def Zam (fs:List Fr):List (BA×Int):=fs.zipIdx.foldl (fun m p=>Zbc m p.1.label (p.2:Int)) []
def QF (f:Fr) (label:BA):Option Hy:=(f.hyps++f.dummies).find? fun h=>decide (h.label=label)
theorem Zxe {α:Type} [Inhabited α] (x:α) (l:List α):ge (x::l) 0=x:=rfl
theorem ZvU {α:Type} [Inhabited α] (x:α) (l:List α) (k:Nat):ge (x::l) (k+1)=ge l k:=by simp[ge]
theorem Ze9 {f:Fr} {s:BA} {k j:Nat} (hk:k<2) (h1:∀ i,i<k→∀ h∈Zdx f.hyps f.dummies i,¬ h.label=s) (hj:j< (Zdx f.hyps f.dummies k).length) (h2:∀ i,i<j→¬ (ge (Zdx f.hyps f.dummies k) i).label=s) (h3:(ge (Zdx f.hyps f.dummies k) j).label=s):QF f s=some (ge (Zdx f.hyps f.dummies k) j):=by
 have key:∀(l:List Hy) (j:Nat),j<l.length→(∀ i,i<j→¬ (ge l i).label=s)→(ge l j).label=s→l.find? (fun h=>decide (h.label=s))=some (ge l j):=by
  intro l
  induction l with
  | nil=>intro j hj;simp at hj
  | cons x r ih=>
   intro j hj h2 h3
   cases j with
   | zero=>simp only[Zxe]at h3 ⊢;simp[h3]
   | succ j=>
    have h4:=h2 0 oz
    simp only[Zxe,ZvU]at h3 h4 ⊢
    rw[List.find?_cons_of_neg (by simpa using h4)]
    exact ih j (by simpa using hj) (fun i hi=>by have:=h2 (i+1) oz;simpa only[ZvU]using this) h3
 unfold QF
 rw[List.find?_append]
 match k,hk with
 | 0,_=>simp only[Zdx,if_pos]at hj h2 h3 ⊢;rw[key _ _ hj h2 h3];rfl
 | 1,_=>
  simp only[Zdx,if_neg (show ¬ (1:Nat)=0 by omega)]at hj h2 h3 ⊢
  rw[List.find?_eq_none.2 fun x hx=>by simpa using h1 0 oz x (by simpa [Zdx]using hx),key _ _ hj h2 h3];rfl
theorem Zfa {f:Fr} {s:BA} (h1:∀ i,i<2→∀ h∈Zdx f.hyps f.dummies i,¬ h.label=s):QF f s=none:=by
 unfold QF
 rw[List.find?_eq_none]
 intro x hx
 rcases List.mem_append.1 hx with hx | hx
 · simpa using h1 0 oz x (by simpa [Zdx]using hx)
 · simpa using h1 1 oz x (by simpa [Zdx]using hx)
theorem ZuG {f:Fr} {k:Nat} {x:Hy} (h:x∈Zdx f.hyps f.dummies k):x∈f.hyps++f.dummies:=by
 unfold Zdx at h
 split at h<;>simp[h]
def Yl (f:Fr) (M:List (BA×Int)) (label:BA):Itm:=
 if decide (label=(⟨#[63]⟩:BA))then⟨0,[],0,false⟩
 else match QF f label with
  | some h=>⟨1,h.text,0,false⟩
  | none=>match Ya M label with
   | some n=>⟨2,[],n,false⟩
   | none=>⟨3,[],0,false⟩
section
variable {f:Fr} {M:List (BA×Int)} {s:BA}
theorem Zjs (h:s=⟨#[63]⟩):Yl f M s=⟨0,[],0,false⟩:=by simp[Yl,h]
theorem Zg0 (h:¬ s=⟨#[63]⟩) (h2:(QF f s).isSome=true):Yl f M s=⟨1,((QF f s).getD default).text,0,false⟩:=by
 obtain⟨x,hx⟩:=Option.isSome_iff_exists.1 h2
 simp[Yl,h,hx]
theorem Zjr (h:¬ s=⟨#[63]⟩) (h2:¬ (QF f s).isSome=true) (h3:(Ya M s).isSome=true):Yl f M s=⟨2,[],(Ya M s).getD default,false⟩:=by
 obtain⟨x,hx⟩:=Option.isSome_iff_exists.1 h3
 simp at h2
 simp[Yl,h,h2,hx]
theorem Zjq (h:¬ s=⟨#[63]⟩) (h2:¬ (QF f s).isSome=true) (h3:¬ (Ya M s).isSome=true):Yl f M s=⟨3,[],0,false⟩:=by
 simp at h2 h3
 simp[Yl,h,h2,h3]
end
def Q0 (l:List BA):Bool:=decide (0<l.length)&&decide (ge l 0=(⟨#[40]⟩:BA))
def isV (s x:BA):Bool:=decide (s=x)
def Zbk (l:List BA) (s:BA):BA:=⟨(Lib.join (l.map (·.data.toList)) s.data.toList).toArray⟩
def XI (proof:List BA):Option (List BA×BA):=
 let k:=Yn (isV ⟨#[41]⟩) proof
 if k<0 then none
 else if((proof.take k.toNat).drop 1).any fun w=>!QK w then none
 else some ((proof.take k.toNat).drop 1,Zbk (proof.drop (k.toNat+1)) ⟨#[]⟩)
def ZaV (l:List BA):Nat:=(l.map (·.size)).sum
theorem Zno (x:BA):x.data.toList.length=x.size:=rfl
theorem Zg4:∀ l:List BA,(Lib.join (l.map (·.data.toList)) []).length=ZaV l
 | []=>rfl
 | [x]=>by
  rw[List.map_cons,List.map_nil,Lib.join_one,Zno]
  simp[ZaV]
 | x::y::r=>by
  have h:=Zg4 (y::r)
  simp only[Lib.join,List.intercalate,List.map_cons,ZaV,List.sum_cons]at h ⊢
  rw[List.intersperse_cons_cons]
  simp only[List.flatten_cons,List.length_append,List.length_nil,Nat.zero_add,h,Zno]
theorem ZcU (l:List BA) (k:Nat):ZaV (l.drop k)≤ZaV l:=by
 have h:ZaV (l.take k++l.drop k)=ZaV (l.take k)+ZaV (l.drop k):=by
  unfold ZaV
  rw[List.map_append,List.sum_append]
 rw[List.take_append_drop]at h
 omega
theorem Ziq (l:List BA) (k:Nat):(Lib.join ((l.drop k).map (·.data.toList)) (⟨#[]⟩:BA).data.toList).length≤ZaV l:=by
 have:=Zg4 (l.drop k)
 have:=ZcU l k
 show(Lib.join ((l.drop k).map (·.data.toList)) []).length≤ZaV l
 omega
theorem Ze7 {l:List BA} (h0:Q0 l=true) (h:¬ Yn (isV ⟨#[41]⟩) l<0):1≤(Yn (isV ⟨#[41]⟩) l).toNat∧(Yn (isV ⟨#[41]⟩) l).toNat<l.length∧0≤Yn (isV ⟨#[41]⟩) l:=by
 have h1:=Zaq (p:=isV ⟨#[41]⟩) (xs:=l) oz
 refine⟨?_,h1.2.1,h1.1⟩
 rcases Nat.eq_zero_or_pos (Yn (isV ⟨#[41]⟩) l).toNat with h2 | h2
 · have h3:=h1.2.2.1
   rw[h2]at h3
   simp only[Q0,Bool.and_eq_true,decide_eq_true_eq]at h0
   rw[h0.2]at h3
   exact absurd h3 dz
 · exact h2
theorem ZgS {l:List BA} (h:Yn (isV ⟨#[41]⟩) l<0):XI l=none:=by simp only[XI];rw[if_pos h]
theorem ZhU {l:List BA} (h:¬ Yn (isV ⟨#[41]⟩) l<0) (h2:(((l.take (Yn (isV ⟨#[41]⟩) l).toNat).drop 1).any fun w=>!QK w)=true):XI l=none:=by simp only[XI];rw[if_neg h,if_pos h2]
theorem ZkJ {l:List BA} (h:¬ Yn (isV ⟨#[41]⟩) l<0) (h2:(((l.take (Yn (isV ⟨#[41]⟩) l).toNat).drop 1).any fun w=>!QK w)=false):XI l=some ((l.take (Yn (isV ⟨#[41]⟩) l).toNat).drop 1,Zbk (l.drop ((Yn (isV ⟨#[41]⟩) l).toNat+1)) ⟨#[]⟩):=by simp only[XI];rw[if_neg h,h2];rfl
def QD (l:List BA):Bool:=(List.range l.length).any fun j=>decide (ge l j∈l.take j)
theorem ZeE {l:List BA} {k:Nat} (hk:k<l.length) (h:ge l k∈l.take k):QD l=true:=List.any_eq_true.2 ⟨k,by simpa using hk,by simpa using h⟩
theorem ZgE {l:List BA} (h:∀ j,j<l.length→¬ ge l j∈l.take j):QD l=false:=List.any_eq_false.2 fun j hj=>by simpa using h j (by simpa using hj)
def Q5 (f:Fr) (M:List (BA×Int)) (labels:List BA) (tags:Nat) (l:Lt):Option Itm:=
 if l.number=0 then some ⟨0,[],0,l.tagged⟩
 else if l.number≤f.hyps.length then some ⟨1,(ge f.hyps (l.number-1).toNat).text,0,l.tagged⟩
 else if l.number≤((f.hyps.length+labels.length:Nat):Int)then some { Yl f M (ge labels (l.number-1-f.hyps.length).toNat)with tagged:=l.tagged }
 else if l.number≤((f.hyps.length+labels.length+tags:Nat):Int)then some ⟨4,[],l.number-1-f.hyps.length-labels.length,l.tagged⟩
 else none
def Xb (f:Fr) (M:List (BA×Int)) (labels:List BA):List Lt→Nat→Option (List Itm)
 | [],_=>some []
 | l::r,tags=>match Q5 f M labels tags l with
  | none=>none
  | some x=>match Xb f M labels r (if l.tagged then tags+1 else tags)with
   | none=>none
   | some xs=>some (x::xs)
def YY (f:Fr) (M:List (BA×Int)) (proof:List BA):Except Int (List Itm):=
 if !Q0 proof then if 2000<proof.length then .error 10 else .ok (proof.map (Yl f M))
 else match XI proof with
  | none=>.error 20
  | some (labels,text)=>
   if QD labels||labels.any fun s=>f.hyps.any fun h=>decide (h.label=s)then .error 20
   else match Xb f M labels (Zj text).1 0 with
    | none=>.error 21
    | some xs=>if(Zj text).2 then .error 21 else if 2000<xs.length then .error 10 else .ok xs
def Zqn (hs:List Hy) (sk:List (List BA)) (b j:Nat):Option Bd:=if(ge hs j).floating then some ⟨ge (ge hs j).text 1,(ge sk (b+j)).drop 1⟩else none
def YW (hs:List Hy) (sk:List (List BA)) (b k:Nat):List Bd:=(List.range k).filterMap (Zqn hs sk b)
def Ze5 (hs:List Hy) (sk:List (List BA)) (b j:Nat):Bool:=!(ge hs j).floating||decide (ge (ge sk (b+j)) 0=ge (ge hs j).text 0)
def ZhB (hs:List Hy) (sk:List (List BA)) (b:Nat) (l:List Bd) (j:Nat):Bool:=(ge hs j).floating||Zqz (ge hs j).text l (ge sk (b+j))
def ZfW (vars:List BA) (wide:List Pr) (g:Fr) (sk:List (List BA)) (b:Nat):Except Int (List BA):=
 if !(List.range g.hyps.length).all (Ze5 g.hyps sk b)then .error 24
 else if !(List.range g.hyps.length).all (ZhB g.hyps sk b (YW g.hyps sk b g.hyps.length))then .error 25
 else if !ZaS (Z1 (YW g.hyps sk b g.hyps.length)) g.text 2000 then .error 15
 else if Zd9 (YW g.hyps sk b g.hyps.length) g.apart vars wide then .error 26
 else .ok (XQ (Z1 (YW g.hyps sk b g.hyps.length)) g.text)
def Zdu (vars:List BA) (wide:List Pr) (g:Fr) (sk:List (List BA)):Except Int (List (List BA)):=
 if sk.length<g.hyps.length then .error 23
 else match ZfW vars wide g sk (sk.length-g.hyps.length)with
  | .error c=>.error c
  | .ok t=>.ok (sk.take (sk.length-g.hyps.length)++[t])
theorem Zdp (hs:List Hy) (sk:List (List BA)) (b k:Nat):YW hs sk b (k+1)=YW hs sk b k++(Zqn hs sk b k).toList:=by
 unfold YW
 rw[List.range_succ,List.filterMap_append]
 cases h:Zqn hs sk b k<;>simp[h]
theorem Zet (hs:List Hy) (sk:List (List BA)) (b k:Nat):(YW hs sk b k).length≤k:=by
 unfold YW
 have:=List.length_filterMap_le (Zqn hs sk b) (List.range k)
 simpa using this
theorem Zdo {hs:List Hy} {sk:List (List BA)} {b k m:Nat} (hm:∀ t∈sk,t.length≤m) (hb:b+k≤sk.length):∀ x∈YW hs sk b k,x.text.length≤m:=by
 intro x hx
 obtain⟨j,hj,he⟩:=List.mem_filterMap.1 hx
 have hj:j<k:=by simpa using hj
 unfold Zqn at he
 split at he
 · cases he
   have:=hm _ (Zu (xs:=sk) (k:=b+j) oz)
   simp only[List.length_drop]
   omega
 · cases he
theorem Xd {p:Nat→Bool} {k:Nat} (h:∀ j,j<k→p j=true):(List.range k).all p=true:=List.all_eq_true.2 fun j hj=>h j (by simpa using hj)
theorem ZaK {p:Nat→Bool} {k j:Nat} (hj:j<k) (h:p j=false):(List.range k).all p=false:=List.all_eq_false.2 ⟨j,by simpa using hj,by simp[h]⟩
section
variable {vars:List BA} {wide:List Pr} {g:Fr} {sk:List (List BA)} {j:Nat}
theorem ZuC (h:sk.length<g.hyps.length):Zdu vars wide g sk= .error 23:=by rw[Zdu,if_pos h]
theorem ZuB (h0:¬ sk.length<g.hyps.length) (hj:j<g.hyps.length) (h:Ze5 g.hyps sk (sk.length-g.hyps.length) j=false):Zdu vars wide g sk= .error 24:=by
 rw[Zdu,if_neg h0,ZfW,ZaK hj h];rfl
theorem ZuA (h0:¬ sk.length<g.hyps.length) (hk:∀ j,j<g.hyps.length→Ze5 g.hyps sk (sk.length-g.hyps.length) j=true) (hj:j<g.hyps.length) (h:ZhB g.hyps sk (sk.length-g.hyps.length) (YW g.hyps sk (sk.length-g.hyps.length) g.hyps.length) j=false):Zdu vars wide g sk= .error 25:=by
 rw[Zdu,if_neg h0,ZfW,Xd hk,ZaK hj h];rfl
variable (h0:¬ sk.length<g.hyps.length) (hk:∀ j,j<g.hyps.length→Ze5 g.hyps sk (sk.length-g.hyps.length) j=true) (hm:∀ j,j<g.hyps.length→ZhB g.hyps sk (sk.length-g.hyps.length) (YW g.hyps sk (sk.length-g.hyps.length) g.hyps.length) j=true)
include h0 hk hm
theorem ZuD (h:ZaS (Z1 (YW g.hyps sk (sk.length-g.hyps.length) g.hyps.length)) g.text 2000=false):Zdu vars wide g sk= .error 15:=by
 rw[Zdu,if_neg h0,ZfW,Xd hk,Xd hm,h];rfl
theorem Zuz (h:ZaS (Z1 (YW g.hyps sk (sk.length-g.hyps.length) g.hyps.length)) g.text 2000=true) (h2:Zd9 (YW g.hyps sk (sk.length-g.hyps.length) g.hyps.length) g.apart vars wide=true):Zdu vars wide g sk= .error 26:=by
 rw[Zdu,if_neg h0,ZfW,Xd hk,Xd hm,h,h2];rfl
theorem Zuy (h:ZaS (Z1 (YW g.hyps sk (sk.length-g.hyps.length) g.hyps.length)) g.text 2000=true) (h2:Zd9 (YW g.hyps sk (sk.length-g.hyps.length) g.hyps.length) g.apart vars wide=false):Zdu vars wide g sk= .ok (sk.take (sk.length-g.hyps.length)++[XQ (Z1 (YW g.hyps sk (sk.length-g.hyps.length) g.hyps.length)) g.text]):=by
 rw[Zdu,if_neg h0,ZfW,Xd hk,Xd hm,h,h2];rfl
end
def Xi (fs:List Fr) (vars:List BA) (f:Fr) (sk tg:List (List BA)) (x:Itm):Except Int (List (List BA)):=
 if x.kind=1 then .ok (sk++[x.text])
 else if x.kind=2 then Zdu vars f.wide (ge fs x.number.toNat) sk
 else if x.kind=4 then .ok (sk++[ge tg x.number.toNat])
 else if x.kind=0 then .error 27 else .error 22
theorem Zng {vars:List BA} {wide:List Pr} {g:Fr} {sk:List (List BA)} {c:Int} (h:Zdu vars wide g sk= .error c):c≠0:=by
 unfold Zdu ZfW at h
 split at h
 · injection h with h;omega
 split at h
 · rename_i e
   injection h with h
   subst h
   split at e
   · injection e with e;omega
   split at e
   · injection e with e;omega
   split at e
   · injection e with e;omega
   split at e
   · injection e with e;omega
   · cases e
 · cases h
theorem Zr2 {fs:List Fr} {vars:List BA} {f:Fr} {sk tg:List (List BA)} {x:Itm} {c:Int} (h:Xi fs vars f sk tg x= .error c):c≠0:=by
 unfold Xi at h
 split at h
 · cases h
 split at h
 · exact Zng h
 split at h
 · cases h
 split at h<;>(injection h with h;omega)
def Zde (f:Fr) (sk:List (List BA)) (k:Nat):Int×Int:=
 if sk.length≠1 then(23,(k:Int))else if !decide (ge sk 0=f.text)then(28,(k:Int))else(0,0)
structure Ms where
 sk:List (List BA)
 tg:List (List BA)
 n:Nat
 kn:Bool
 v:Int×Int
 did:Bool
def ZbO (f:Fr) (len:Nat) (m:Ms):Ms:=if m.n<len then m else { m with kn:=true,v:=Zde f m.sk m.n }
def ZI (fs:List Fr) (vars:List BA) (f:Fr) (xs:List Itm) (m:Ms):Ms:=
 if m.kn then { m with did:=false }
 else match Xi fs vars f m.sk m.tg (ge xs m.n)with
  | .error c=> { m with kn:=true,v:=(c,(m.n:Int)),did:=false }
  | .ok s=>ZbO f xs.length ⟨s,if(ge xs m.n).tagged=true then m.tg++[ge s ((s.length:Int)-1).toNat]else m.tg,m.n+1,m.kn,m.v,true⟩
section
variable {fs:List Fr} {vars:List BA} {f:Fr} {xs:List Itm} {sk tg s:List (List BA)} {n:Nat} {kn:Bool} {v:Int×Int} {b:Bool} {c:Int}
theorem ZcV (h:kn=true):ZI fs vars f xs ⟨sk,tg,n,kn,v,b⟩=⟨sk,tg,n,kn,v,false⟩:=by simp[ZI,h]
theorem ZbB (h:kn=false) (hk:Xi fs vars f sk tg (ge xs n)= .error c):ZI fs vars f xs ⟨sk,tg,n,kn,v,b⟩=⟨sk,tg,n,true,(c,(n:Int)),false⟩:=by simp[ZI,h,hk]
theorem ZbX (h:kn=false) (hk:Xi fs vars f sk tg (ge xs n)= .ok s):ZI fs vars f xs ⟨sk,tg,n,kn,v,b⟩=ZbO f xs.length ⟨s,if(ge xs n).tagged=true then tg++[ge s ((s.length:Int)-1).toNat]else tg,n+1,kn,v,true⟩:=by simp[ZI,h,hk]
theorem Zio {x:Itm} (h:Xi fs vars f sk tg x= .ok s):1≤s.length∧s.length≤sk.length+1:=by
 unfold Xi at h
 split at h
 · injection h with h;subst h;simp
 split at h
 · unfold Zdu at h
   split at h
   · cases h
   split at h
   · cases h
   · injection h with h;subst h;simp
 split at h
 · injection h with h;subst h;simp
 split at h<;>cases h
abbrev GI (fs:List Fr) (vars:List BA) (f:Fr) (sk tg:List (List BA)) (x:Itm) (vs:Value):Type:= {q:Int×Value×List (List BA) // (q.1=0∧Xi fs vars f sk tg x= .ok q.2.2)∨(q.1≠0∧Xi fs vars f sk tg x= .error q.1∧q.2.1=vs∧q.2.2=sk)}
theorem gi_err {x:Itm} {vs:Value} (z:GI fs vars f sk tg x vs) (h:¬ z.1.1=0):Xi fs vars f sk tg x= .error z.1.1∧z.1.2.2=sk:=by
 rcases z.2 with h2 | h2
 · exact absurd h2.1 h
 · exact⟨h2.2.1,h2.2.2.2⟩
theorem gi_ok {x:Itm} {vs:Value} (z:GI fs vars f sk tg x vs) (h:z.1.1=0):Xi fs vars f sk tg x= .ok z.1.2.2:=by
 rcases z.2 with h2 | h2
 · exact h2.2
 · exact absurd h h2.1
end
def okI (frames tags:Nat) (x:Itm):Prop:=0≤x.kind∧x.kind≤4∧(x.kind=2→0≤x.number∧x.number<frames)∧(x.kind=4→0≤x.number∧x.number<tags)
def okF (g:Fr):Prop:=g.hyps.length≤2000∧∀ h∈g.hyps,h.floating=true→h.text.length=2
def ZaM (fs:List Fr) (vars:List BA) (f:Fr) (xs:List Itm):Nat→Ms→Ms
 | 0,m=>m
 | k+1,m=>ZaM fs vars f xs k (ZI fs vars f xs m)
def QE (f:Fr) (r:Except Int (List Itm)):List Itm×Ms:=
 match r with
 | .error c=>([],⟨[],[],0,true,(c,0),true⟩)
 | .ok xs=>(xs,ZbO f xs.length ⟨[],[],0,false,(0,0),true⟩)
def YX (d:Db) (z:Int):Int:=if ¬ Zaz d=0 then Zaz d else if z<0∨(d.frames.length:Int)≤z then 5 else 0
def ZlH (fs:List Fr) (vars:List BA) (f:Fr) (M:List (BA×Int)) (proof:List BA):Int×Int:=
 let s:=QE f (YY f M proof)
 (ZaM fs vars f s.1 (s.1.length+1) s.2).v
end Go.Proofs.YtneapgbkkkjagaaGreatDoor
set_option maxHeartbeats 8000000
set_option maxRecDepth 100000
namespace Go.Proofs.YtneapgbkkkjagaaGreatDoor
open Go.Proofs.Tryz (prog)
open Go.RowKit
section
variable {J:WP} (hJ:Stab J)
include hJ
theorem Zor (l:List Bd)  :FnM (ι:=Nat) prog J 168 [] [.rd (Zea l)] [] (fun i'=>.lit (.map (some (i')))) (fun i'=>[OB.map keyS (fun z':List BA=>AV.rd (Zf z')) (i') (Z1 l)]):=by
 refine fEM Tryz.func168 fun S w0 R hS hJ0 hH=>?_
 refine Yq (B:=So J S w0 31 (R) [(0,.rd (Zea l))]) ?_ fun a w h=>h
 refine ln 0 fun hl1=>?_
 refine ZG tb hJ [0] [.rd (.lit (.map none))] [0] [_] rfl ⟨fun _ _ _ hx _ _=>XW rfl (Rel.of_lit (.map none)) hx,trivial⟩ ?_
 refine tsq (ZhH keyS (fun z':List BA=>AV.rd (Zf z')) hJ rfl rfl rfl (lb rfl) fun m1=>?_)
 refine snK 1 tb rfl (seK [0,2] U2 rfl ?_)
 refine nx (Ze (ZG tb hJ [0,1000,1001,1002] [_,.int (l.length:Nat),_] [1] U4 rfl ⟨Z3 ZdR,trivial⟩ ?_))
 refine Zc (lpo (ι:=Nat×(List (BA×List BA))) (fun(k,bm)=>(k≤l.length)∧(bm=Z1 (l.take k))) (fun(_,bm)=>(OB.map keyS (fun z':List BA=>AV.rd (Zf z')) m1 bm::R)) (fun(k,_)=>[(11,.int (k:Nat))]) (fun(k,_)=>l.length-k) [0,1,2,3] U3 (0,([]:List (BA×List BA))) ⟨nzl,rfl⟩ ?_)
 rintro⟨k,bm⟩ ⟨f1_1,f1_2⟩
 refine qso tb hJ [0,1,2,3,1000] [_] U5 ?_
 refine cjS 4 (fun hb1=>?_) fun hb1=>?_
 ·
  try simp at hb1
  refine Zb (nx (Ze (Zc (tsq (sy (.ptr (bdC (ge l k))) (fun h=>ZQ (i:=(k:Int)) XD rfl (h.get 1 rfl) (h.get 3 rfl) nnn (Z0 (xs:=l) (k:=k) sfz) rfl h.x) ?_)))))
  refine snK 1 tb rfl (XZ (cs:=bdC (ge l k)) Zna rfl rfl rfl (lb rfl) rfl rfl rfl dz (m:=0) rfl rfl (fun a w h=>Zq hS _ h.keep h.x _ nlr) (fun a w h w' hk'=>YA hJ _ _ hk' h.x) ?_)
  refine seK [0,3,4,5,6] U5 rfl (nx (ZG tb hJ (r5 [1005,1007,1008]) (V3 [.tup [.rd (Zf ((Ya bm ((ge l k).var)).getD default)),.bool ((Ya bm ((ge l k).var)).isSome)],_,_,_,_,_]) [3] U8 rfl ⟨fun _ _ _ hx hl _=>Qs (Kd:=keyS) (f:=(fun z':List BA=>AV.rd (Zf z'))) (L:=bm) Zbj ZcN ((ge l k).var) rfl (Zh hx (mo 0 rfl)) (hl.D 0 16 rfl rfl) (hl.D 2 18 rfl rfl) hx,trivial⟩ ?_))
  refine ln 5 fun hl2=>?_
  refine qso tb hJ (r5 [1001]) U2 U6 ?_
  refine cj 5 (fun hb2=>?_) fun hb2=>?_
  ·
   try simp at hb2
   refine ZE (snK 5 tb rfl (Znx (f:=(fun z':List BA=>AV.rd (Zf z'))) Zbj hJ hJ0 ((ge l k).var) ((ge l k).text) rfl rfl (.inl rfl) (fun a w h=>⟨(h.get 4 rfl),(h.get 2 rfl),(h.get 0 rfl)⟩) ?_))
   refine seK [0,6,7,8,9] U5 rfl (nx (ln 0 fun hl3=>?_))
   refine Yo tb hJ [1,2,3,1001] [.int (k+1:Nat),_] [0] U4 rfl ⟨Z7,trivial⟩ ?_
   exact YE (k+1,Zbc bm ((ge l k).var) ((ge l k).text)) [0,1,2,3] ⟨oz,by rw[ZiT oz,←f1_2];simp[Zuo,hb2]⟩
  ·
   try simp at hb2
   refine Zb (nx (Yo tb hJ [1,2,3,1001] [.int (k+1:Nat),_] [0] U4 rfl ⟨Z7,trivial⟩ ?_))
   exact YE (k+1,bm) [0,1,2,3] ⟨oz,by rw[ZiT oz,←f1_2];simp[Zuo,hb2]⟩
 ·
  try simp at hb1
  refine Zs (nx (qso tb hJ [1001] U2 [_] ?_))
  exact tw (ob0 (congrArg (fun z'=>OB.map keyS (fun z':List BA=>AV.rd (Zf z')) m1 (z')) (show bm=(Z1 l)from by rw[f1_2,ZD oz]))) (ZA (fun a w h=>Yg  (m:=0) m1 rfl h rfl rfl))
theorem ZeT (M:Nat) (bm:List (BA×List BA)) (s:BA)  :FnR prog J 169 [OB.map keyS (fun z':List BA=>AV.rd (Zf z')) M bm] [.lit (.map (some M)),.str s] (.rd (Zf (Yu bm s))):=by
 refine fER Tryz.func169 fun S w0 hS hJ0 hH=>?_
 clear hJ0
 refine qs tb hJ [0,1] [_] U2 ?_
 refine Ze (hqs tb hJ [1,1004,1006,1007] [_,_,.tup [.rd (Zf ((Ya bm s).getD default)),.bool ((Ya bm s).isSome)],_,_,_,_,_] [2] U4 rfl ⟨fun _ _ hk hx hl _=>Qs (Kd:=keyS) (f:=(fun z':List BA=>AV.rd (Zf z'))) (L:=bm) Zbj ZcN s rfl (Xf hH hk (mo 0 rfl)) (hl.D 0 8 rfl rfl) (hl.D 1 9 rfl rfl) hx,trivial⟩ ?_)
 refine ln 1 fun hl1=>?_
 refine qs tb hJ [0,2,1000] [_] U3 ?_
 refine cj 2 (fun hb1=>?_) fun hb1=>?_
 ·
  try simp at hb1
  refine qs tb hJ [1001] U2 [_] ?_
  exact tRn 0 (hE:=congrArg (fun z=>AV.rd (Zf z)) (show((Ya bm s).getD default)=(Yu bm s)from by cases h9:Ya bm s<;>simp_all[Yu]))
 ·
  try simp at hb1
  refine Zb (nx (hqs tb hJ [1001,1002] [_,.rd (Zf ([s])),_] [1] U2 rfl ⟨fun _ _ hk hx hl _=>YC Zd ZaT rfl (hl.D 0 15 rfl rfl) (hS _ hk.size) (js hJ hx),trivial⟩ ?_))
  refine ln 0 fun hl2=>?_
  exact tRn 1 (hE:=congrArg (fun z=>AV.rd (Zf z)) (show([s])=(Yu bm s)from by cases h9:Ya bm s<;>simp_all[Yu]))
theorem Zvm (M:Nat) (bm:List (BA×List BA)) (t:List BA) (hb:(XQ bm t).length≤2000):FnR prog J 170 [OB.map keyS (fun z':List BA=>AV.rd (Zf z')) M bm] [.lit (.map (some M)),.rd (Zf t)] (.rd (Zf (XQ bm t))):=by
 refine fER Tryz.func170 fun S w0 hS hJ0 hH=>?_
 refine tw ZR (ln 1 fun hl1=>?_)
 refine qso tb hJ [0,1] [_] U2 ?_
 refine qso tb hJ [0,1,1000] [_] U3 ?_
 refine Ze (ZG tb hJ [0,2,1000,1001,1002] [_,.int (t.length:Nat),_] [1] U5 rfl ⟨Z3 Zm,trivial⟩ ?_)
 refine Zc (tw (YS 9 1 hJ) (lpo (ι:=Nat×Value×(List BA)) (fun(k,_,out)=>(k≤t.length)∧(out=XQ bm (t.take k))) (fun(_,v,out)=>[OB.row v 9 1 (out.map Zax)]) (fun(k,v,_)=>[(10,.int (k:Nat)),(5,.lit v)]) (fun(k,_,_)=>t.length-k) [0,2,3,4,1] U3 (0,(.slice none 0 0),([]:List BA)) ⟨nzl,rfl⟩ ?_))
 rintro⟨k,v,out⟩ ⟨f1_1,f1_2⟩
 refine qso tb hJ (r5 [1000]) [_] U6 ?_
 refine cjS 5 (fun hb1=>?_) fun hb1=>?_
 ·
  try simp at hb1
  refine Zb (nx (Ze (Zc (ZG tb hJ (r5 [1002]) [.ptr [lS (ge t k)],_,_] [0] U6 rfl ⟨iIx Zd,trivial⟩ ?_))))
  refine ZE (snK 3 tb rfl (sy (.rd (Zf (Yu bm (ge t k)))) (fun h=>Y5 (ZeT hJ M bm (ge t k)) Zdg rfl (Zq hS _ h.keep h.x) (h.x.1) (ZP (Yc hH h.keep h.x (mo 0 rfl)) Zv) (Za (h.get 1 rfl) (Za (h.get 0 rfl) Zg)) (jo hJ h.x)) ?_))
  refine ZS (f:=Zax) (m:=3) (s:=14) out (Yu bm (ge t k)) (fun _=>rfl) Xn hJ hJ0 rfl rfl rfl (lb rfl) rfl rfl (fun a w h=>(h.get 0 rfl)) (by have h9:=XP bm t (k+1);rw[Y3 oz,List.length_append,←f1_2]at h9;omega) (by have h9:=XP bm t (k+1);rw[Y3 oz,List.length_append,←f1_2]at h9;omega) fun v1=>?_
  refine snK 1 tb rfl (seK [0,2,6,7,8,9] U6 rfl ?_)
  refine nx (ln 1 fun hl2=>?_)
  refine Yo tb hJ [0,2,3,4,1001] [.int (k+1:Nat),_] [0] U5 rfl ⟨Z7,trivial⟩ ?_
  exact YE (k+1,v1,out++(Yu bm (ge t k))) [1,2,3,4,0] ⟨oz,by rw[Y3 oz,←f1_2]⟩
 ·
  try simp at hb1
  refine Zs (nx (qso tb hJ [1001] U2 [_] ?_))
  exact tw (fun h=>ZO hS h (m:=0) (s:=4) rfl) (tRo 0 (hE:=congrArg (fun z=>AV.rd (Zf z)) (show out=(XQ bm t)from by rw[f1_2,ZD oz])))
theorem Zru (l:List BA)  :FnM (ι:=Nat) prog J 191 [] [.rd (Zf l)] [] (fun i'=>.lit (.map (some (i')))) (fun i'=>[OB.set keyS (i') (QC l)]):=by
 refine fEM Tryz.func191 fun S w0 R hS hJ0 hH=>?_
 refine Yq (B:=So J S w0 17 (R) [(0,.rd (Zf l))]) ?_ fun a w h=>h
 refine ln 0 fun hl1=>?_
 refine ZG tb hJ [0] [.rd (.lit (.map none))] [0] [_] rfl ⟨fun _ _ _ hx _ _=>XW rfl (Rel.of_lit (.map none)) hx,trivial⟩ ?_
 refine tsq (ZbC keyS hJ rfl rfl rfl (lb rfl) fun m1=>?_)
 refine snK 1 tb rfl (seK [0,2] U2 rfl ?_)
 refine nx (Ze (ZG tb hJ [0,1000,1001,1002] [_,.int (l.length:Nat),_] [1] U4 rfl ⟨Z3 Zm,trivial⟩ ?_))
 refine Zc (lpo (ι:=Nat×(List BA)) (fun(k,ys)=>(k≤l.length)∧(ys=QC (l.take k))) (fun(_,ys)=>(OB.set keyS m1 ys::R)) (fun(k,_)=>[(9,.int (k:Nat))]) (fun(k,_)=>l.length-k) [0,1,2,3] U3 (0,([]:List BA)) ⟨nzl,rfl⟩ ?_)
 rintro⟨k,ys⟩ ⟨f1_1,f1_2⟩
 refine qso tb hJ [0,1,2,3,1000] [_] U5 ?_
 refine cjS 4 (fun hb1=>?_) fun hb1=>?_
 ·
  try simp at hb1
  refine Zb (nx (Ze (Zc (ZG tb hJ [0,1,2,3,1002] [.ptr [lS (ge l k)],_,_] [0] U5 rfl ⟨iIx Zd,trivial⟩ ?_))))
  refine ZE (snK 2 tb rfl (ZcA QJ hJ hJ0 (ge l k) rfl rfl (.inl rfl) (fun a w h=>⟨(h.get 1 rfl),(h.get 0 rfl),(Rel.of_lit (.bool true))⟩) ?_))
  refine seK [2,3,4,5] U4 rfl (nx (Yo tb hJ [0,1,2,1001] [.int (k+1:Nat),_] [0] U4 rfl ⟨Z7,trivial⟩ ?_))
  exact YE (k+1,QS ys (ge l k)) [0,1,2,3] ⟨oz,by rw[Zik oz,←f1_2]⟩
 ·
  try simp at hb1
  refine Zs (nx (qso tb hJ [1001] U2 [_] ?_))
  exact tw (ob0 (congrArg (fun z'=>OB.set keyS m1 (z')) (show ys=(QC l)from by rw[f1_2,ZD oz]))) (ZA (fun a w h=>Yg  (m:=0) m1 rfl h rfl rfl))
theorem ZdW (M:Nat) (vs t:List BA) (hb:t.length≤2000):FnR prog J 192 [OB.set keyS M vs] [.rd (Zf t),.lit (.map (some M))] (.rd (Zf (QB t vs))):=by
 refine fER Tryz.func192 fun S w0 hS hJ0 hH=>?_
 refine tw ZR (ln 0 fun hl1=>?_)
 refine qso tb hJ [0,1] [_] U2 ?_
 refine qso tb hJ [0,1,1000] [_] U3 ?_
 refine tsq (ZbC keyS hJ rfl rfl rfl (lb rfl) fun m1=>?_)
 refine snK 1 tb rfl (seK [0,2,3,4] U4 rfl ?_)
 refine nx (Ze (ZG tb hJ [0,2,3,1000,1001,1002] [_,.int (t.length:Nat),_] [1] U6 rfl ⟨Z3 Zm,trivial⟩ ?_))
 refine Zc (tw (YS 9 1 hJ) (lpo (ι:=Nat×Value×(List BA)×(List BA)) (fun(k,_,out,ys)=>(k≤t.length)∧(out=QB (t.take k) vs)∧(ys=out)∧(out.length≤k)) (fun(_,v,out,ys)=>[OB.row v 9 1 (out.map Zax),OB.set keyS m1 ys]) (fun(k,v,_,_)=>[(12,.int (k:Nat)),(5,.lit v)]) (fun(k,_,_,_)=>t.length-k) [0,1,3,4,5,2] U4 (0,(.slice none 0 0),([]:List BA),([]:List BA)) ⟨nzl,rfl,rfl,Nat.le_refl _⟩ ?_))
 rintro⟨k,v,out,ys⟩ ⟨f1_1,f1_2,f1_3,f1_4⟩
 refine qso tb hJ (r6 [1000]) [_] U7 ?_
 refine cjS 6 (fun hb1=>?_) fun hb1=>?_
 ·
  try simp at hb1
  refine Zb (nx (Ze (Zc (ZG tb hJ (r6 [1002]) [.ptr [lS (ge t k)],_,_] [0] U7 rfl ⟨iIx Zd,trivial⟩ ?_))))
  refine ZG tb hJ (r7 [1008]) [_,_,.bool (decide ((ge t k)∈vs)),_,_,_,.bool (decide ((ge t k)∈ys)),_,_] [2,6] U8 rfl ⟨fun _ _ hk hx hl _=>YG (Kd:=keyS) (xs:=vs) QJ Yk (ge t k) rfl (Yc hH hk hx (mo 0 rfl)) (hl.D 0 16 rfl rfl) (hl.D 1 17 rfl rfl) hx,fun _ _ _ hx hl hc=>YG (Kd:=keyS) (xs:=ys) QJ Yk (ge t k) rfl (Zh hx (mo 1 rfl)) (hl.D 4 20 rfl hc) (hl.D 5 21 rfl hc) hx,trivial⟩ ?_
  refine cj 7 (fun hb2=>?_) fun hb2=>?_
  ·
   try simp at hb2
   refine tsq (snK 2 tb rfl (kw pm1 ?_))
   refine ZcA QJ hJ hJ0 (ge t k) rfl rfl (.inl rfl) (fun a w h=>⟨(h.get 1 rfl),(h.get 0 rfl),(Rel.of_lit (.bool true))⟩) ?_
   refine seK [2,3,4,5,6,7,8] U7 rfl (nx (ZE (snK 2 tb rfl ?_)))
   refine sy (.rd (Zf ([(ge t k)]))) (fun h=>YC Zd ZaT rfl (h.get 0 rfl) (Zq hS _ h.keep h.x _ nlr) (jo hJ h.x)) ?_
   refine kw pm1 (ZS (f:=Zax) (m:=2) (s:=27) out ([(ge t k)]) (fun _=>rfl) Xn hJ hJ0 rfl rfl rfl (lb rfl) rfl rfl (fun a w h=>(h.get 0 rfl)) sfz sfz fun v2=>?_)
   refine snK 1 tb rfl (seK [0,2,5,6,7,8,9] U7 rfl ?_)
   refine nx (ln 1 fun hl2=>?_)
   refine Yo tb hJ [0,2,3,4,5,1001] [.int (k+1:Nat),_] [0] U6 rfl ⟨Z7,trivial⟩ ?_
   exact YE (k+1,v2,out++([(ge t k)]),QS ys (ge t k)) [1,2,3,4,5,0] ⟨oz,by rw[Zc5 oz,←f1_2];subst f1_3;simp_all[Zih],by subst f1_3;simp_all[QS],by simp;omega⟩
  ·
   try simp at hb2
   refine Zb (nx (Yo tb hJ [0,1,2,3,5,1001] [.int (k+1:Nat),_] [0] U6 rfl ⟨Z7,trivial⟩ ?_))
   exact YE (k+1,v,out,ys) [0,1,2,3,5,4] ⟨oz,by rw[Zc5 oz,←f1_2];subst f1_3;simp[Zih];grind,f1_3,oz⟩
 ·
  try simp at hb1
  refine Zs (nx (qso tb hJ [1001] U2 [_] ?_))
  exact tw (fun h=>ZO hS h (m:=0) (s:=4) rfl) (tRo 0 (hE:=congrArg (fun z=>AV.rd (Zf z)) (show out=(QB t vs)from by rw[f1_2,ZD oz])))
theorem p_Fits (t:List BA) (l:List Bd) (x:List BA)  :Fn prog J 145 [.rd (Zf t),.rd (Zea l),.rd (Zf x)] (.bool (Zqz t l x)):=by
 refine fE Tryz.func145 fun S w0 hS hJ0=>?_
 refine tw ZR (ln 0 fun hl1=>?_)
 refine ln 1 fun hl2=>?_
 refine ln 2 fun hl3=>?_
 refine qso tb hJ [0,1,2] [_] U3 ?_
 refine Zkk (tsq (snK 1 tb rfl (Xv (O:=[]) (R:=[]) (Zor hJ l) Zhn rfl rfl rfl (lb rfl) hS hJ0 Zv (fun a w h=>(Za (h.get 0 rfl) Zg)) fun z1=>?_)))
 refine snK 1 tb rfl (seK [0,3,5] U3 rfl ?_)
 refine nx (qso tb hJ [0,1,2,1000] [_] U4 ?_)
 refine Ze (Zkl (nx (Ze (ZG tb hJ [0,2,3,1000,1001,1002] [_,.int (t.length:Nat),_] [1] U6 rfl ⟨Z3 Zm,trivial⟩ ?_))))
 refine Zc (lpo (ι:=Nat×Nat) (fun(k,p)=>(k≤t.length)∧(p≤x.length)∧(x.take p=XQ (Z1 l) (t.take k))) (fun(_,_)=>[OB.map keyS (fun z':List BA=>AV.rd (Zf z')) z1 (Z1 l)]) (fun(k,p)=>[(17,.int (k:Nat)),(8,.int (p:Nat))]) (fun(k,_)=>t.length-k) [0,1,3,4,5,2] U4 (0,0) ⟨nzl,nzl,rfl⟩ ?_)
 rintro⟨k,p⟩ ⟨f1_1,f1_2,f1_3⟩
 refine qso tb hJ (r6 [1000]) [_] U7 ?_
 refine cjS 6 (fun hb1=>?_) fun hb1=>?_
 ·
  try simp at hb1
  refine Zb (nx (Ze (Zc (ZG tb hJ (r6 [1002]) [.ptr [lS (ge t k)],_,_] [0] U7 rfl ⟨iIx Zd,trivial⟩ ?_))))
  refine ZG tb hJ (r6 [1002,1003,1004]) [_,_,.rd (Zf (Yu (Z1 l) (ge t k))),.int ((Yu (Z1 l) (ge t k)).length:Nat),_] [2,3] U9 rfl ⟨fun _ _ hk hx hl _=>Y5 (ZeT hJ z1 (Z1 l) (ge t k)) Zdg rfl (Zq hS _ hk hx) (hx.1) (ZP (Zh hx (mo 0 rfl)) Zv) (Za (hl.D 0 21 rfl rfl) (Za (hl.D 1 22 rfl rfl) Zg)) (jo hJ hx),Z3 Zm,trivial⟩ ?_
  refine ln 6 fun hl4=>?_
  refine Zc (lpo (ι:=Nat×Nat) (fun(j,q)=>(j≤(Yu (Z1 l) (ge t k)).length)∧(q≤x.length)∧(x.take q=XQ (Z1 l) (t.take k)++(Yu (Z1 l) (ge t k)).take j)) (fun(_,_)=>[OB.map keyS (fun z':List BA=>AV.rd (Zf z')) z1 (Z1 l)]) (fun(j,q)=>[(25,.int (j:Nat)),(8,.int (q:Nat))]) (fun(j,_)=>(Yu (Z1 l) (ge t k)).length-j) (r5 [6,7,8,5]) U7 (0,p) ⟨nzl,f1_2,by simpa using f1_3⟩ ?_)
  rintro⟨j,q⟩ ⟨f2_1,f2_2,f2_3⟩
  refine qso tb hJ [0,1,2,3,4,5,6,7,8,1000] [_] U10 ?_
  refine cjS 9 (fun hb2=>?_) fun hb2=>?_
  ·
   try simp at hb2
   refine Zb (nx (Ze (Zc (ZG tb hJ [0,1,2,3,4,5,6,7,8,1002] [.ptr [lS (ge (Yu (Z1 l) (ge t k)) j)],_,_] [0] U10 rfl ⟨iIx Zd,trivial⟩ ?_))))
   refine Ze (ZG tb hJ [0,1,2,3,4,5,6,7,8,1011] [_,_,.int (x.length:Nat),_,_,_,_,.ptr [lS (ge x q)],_,_,_,_] [2,7] U10 rfl ⟨Z3 Zm,gIx Zd (hk:=fun(hc':((decide ((q:Int)=(x.length:Int)))==false)=true)=>by(try simp at hc');first | omega | (simp;omega) | grind[Zu]),trivial⟩ ?_)
   refine cj 9 (fun hb3=>?_) fun hb3=>?_
   ·
    try simp at hb3
    have e3:q=x.length∨ ¬ ge x q=ge (Yu (Z1 l) (ge t k)) j:=by grind
    refine qso tb hJ [1,1000] [_] U2 ?_
    refine Zs (nx (ZG tb hJ [1004] [_,_,.int (x.length:Nat),_,_] [2] [_] rfl ⟨Z3 Zm,trivial⟩ ?_))
    exact tRo 0 (hE:=eB (by rw[Zqz,decide_eq_false oz,decide_eq_false (fit_no oz hb2 f2_3 f2_2 e3)]))
   ·
    try simp at hb3
    have e3:q<x.length∧ge x q=ge (Yu (Z1 l) (ge t k)) j:=by grind
    refine Zb (nx (Yo tb hJ (r8 [1002]) [_,.int (q+1:Nat),_] [1] U9 rfl ⟨Z7,trivial⟩ ?_))
    refine nx (Yo tb hJ (r7 [8,1001]) [.int (j+1:Nat),_] [0] U9 rfl ⟨Z7,trivial⟩ ?_)
    exact YE (j+1,q+1) (r7 [8,7]) ⟨oz,oz,by rw[ZZ e3.1,ZZ hb2,←List.append_assoc,←f2_3,e3.2]⟩
  ·
   try simp at hb2
   refine Zs (nx (Yo tb hJ [0,1,2,3,8,1001] [.int (k+1:Nat),_] [0] U6 rfl ⟨Z7,trivial⟩ ?_))
   exact YE (k+1,q) [0,1,2,3,5,4] ⟨oz,f2_2,by rw[Y3 oz,f2_3,ZD (xs:=Yu (Z1 l) (ge t k)) oz]⟩
 ·
  try simp at hb1
  refine Zs (nx (ZG tb hJ [1004] [_,_,.int (x.length:Nat),_,_] [2] [_] rfl ⟨Z3 Zm,trivial⟩ ?_))
  exact tRo 0 (hE:=eB (by rw[Zqz,Zpp (by rw[f1_3,ZD oz]) f1_2]))
theorem Zou (t:List BA) (l:List Bd) (n:Nat) (hn:n≤2000) (hl:∀ b∈l,b.text.length≤2000):Fn prog J 146 [.rd (Zf t),.rd (Zea l),.int (n:Nat)] (.tup [.rd (Zf (if ZaS (Z1 l) t n then XQ (Z1 l) t else [])),.int (if ZaS (Z1 l) t n then 0 else 15)]):=by
 refine fE Tryz.func146 fun S w0 hS hJ0=>?_
 refine tw ZR (ln 0 fun hl1=>?_)
 refine ln 1 fun hl2=>?_
 refine qso tb hJ [0,1,2] U2 U3 ?_
 refine Ze (qso tb hJ [0,1,2,1001] U2 U4 ?_)
 refine cj 3 (fun hb1=>?_) fun hb1=>?_
 ·
  try simp at hb1
  exact False.elim oz
 ·
  try simp at hb1
  refine Zb (nx (tsq (snK 1 tb rfl (Xv (O:=[]) (R:=[]) (Zor hJ l) Zhn rfl rfl rfl (lb rfl) hS hJ0 Zv (fun a w h=>(Za (h.get 0 rfl) Zg)) fun z1=>?_))))
  refine snK 1 tb rfl (seK [0,3,5] U3 rfl ?_)
  refine nx (qso tb hJ [0,1,1001] U2 U3 ?_)
  refine Ze (ZG tb hJ [0,1,2,1000,1001,1002] [_,.int (t.length:Nat),_] [1] U6 rfl ⟨Z3 Zm,trivial⟩ ?_)
  refine Zc (lpo (ι:=Nat×Int) (fun(k,z)=>(k≤t.length)∧(z=(n:Int)-(XQ (Z1 l) (t.take k)).length)∧(0≤z)) (fun(_,_)=>[OB.map keyS (fun z':List BA=>AV.rd (Zf z')) z1 (Z1 l)]) (fun(k,z)=>[(19,.int (k:Nat)),(9,.int z)]) (fun(k,_)=>t.length-k) [0,1,3,4,5,2] U4 (0,(n:Int)) ⟨nzl,by simp[XQ],oz⟩ ?_)
  rintro⟨k,z⟩ ⟨f1_1,f1_2,f1_3⟩
  refine qso tb hJ (r6 [1000]) [_] U7 ?_
  refine cjS 6 (fun hb2=>?_) fun hb2=>?_
  ·
   try simp at hb2
   refine Zb (nx (Ze (Zc (ZG tb hJ (r6 [1002]) [.ptr [lS (ge t k)],_,_] [0] U7 rfl ⟨iIx Zd,trivial⟩ ?_))))
   refine ZG tb hJ (r5 [1003,1006]) (V3 [.rd (Zf (Yu (Z1 l) (ge t k))),.int ((Yu (Z1 l) (ge t k)).length:Nat),.int (z-(((Yu (Z1 l) (ge t k)).length:Nat):Int)),_]) [3,4,5] U7 rfl ⟨fun _ _ hk hx hl _=>Y5 (ZeT hJ z1 (Z1 l) (ge t k)) Zdg rfl (Zq hS _ hk hx) (hx.1) (ZP (Zh hx (mo 0 rfl)) Zv) (Za (hl.D 1 24 rfl rfl) (Za (hl.D 2 25 rfl rfl) Zg)) (jo hJ hx),Z3 Zm,ZvR (h0:=by have:=ZcD (m:=2000) oz hl (ge t k);omega),trivial⟩ ?_
   refine ln 5 fun hl3=>?_
   refine qso tb hJ (r5 [6,1001]) U2 U7 ?_
   refine cj 6 (fun hb3=>?_) fun hb3=>?_
   ·
    try simp at hb3
    have e3:ZaS (Z1 l) t n=false:=by have h9:=XP (Z1 l) t (k+1);rw[Y3 oz,List.length_append]at h9;simp only[ZaS,decide_eq_false_iff_not];omega
    refine qso tb hJ [1000,1001] U2 U2 ?_
    exact tw (fun h=>Yb h (m:=0) (s:=6) rfl) (ZA (fun a w h=>Y0 (m:=0) (k:=1) rfl (ZW h) rfl rfl (congrArg (fun z=>AV.rd (Zf z)) (show([]:List BA)=(if ZaS (Z1 l) t n then XQ (Z1 l) t else [])from by simp[e3])) (eI (by simp[e3]))))
   ·
    try simp at hb3
    refine Zb (nx (Yo tb hJ [0,1,2,3,5,1001] [.int (k+1:Nat),_] [0] U6 rfl ⟨Z7,trivial⟩ ?_))
    exact YE (k+1,z-(((Yu (Z1 l) (ge t k)).length:Nat):Int)) [0,1,2,3,5,4] ⟨oz,by rw[Y3 oz,List.length_append,f1_2];omega,oz⟩
  ·
   try simp at hb2
   have e4:ZaS (Z1 l) t n=true:=by rw[ZD (xs:=t) oz]at f1_2;simp only[ZaS,decide_eq_true_eq];omega
   refine Zs (nx (ZG tb hJ [1002,1003,1004] [_,_,.rd (Zf (XQ (Z1 l) t)),_,_] [2] U3 rfl ⟨fun _ _ hk hx hl _=>Y5 (Zvm hJ z1 (Z1 l) t (by simp only[ZaS,decide_eq_true_eq]at e4;omega)) ZsB rfl (Zq hS _ hk hx) (hx.1) (ZP (Zh hx (mo 0 rfl)) Zv) (Za (hl.D 0 32 rfl rfl) (Za (hl.D 1 33 rfl rfl) Zg)) (jo hJ hx),trivial⟩ ?_))
   refine ln 0 fun hl4=>?_
   exact ZA (fun a w h=>Y0 (m:=1) (k:=2) rfl (ZW h) rfl rfl (congrArg (fun z=>AV.rd (Zf z)) (show(XQ (Z1 l) t)=(if ZaS (Z1 l) t n then XQ (Z1 l) t else [])from by simp[e4])) (eI (by simp[e4])))
theorem ZhX (x:Pr)  :Fn prog J 187 [.agg (prC x)] (.agg (prC (QN x))):=by
 refine fE Tryz.func187 fun S w0 hS hJ0=>?_
 refine tw ZR (tsq ?_)
 refine Znz (cs:=[lS x.a,lS x.b]) hJ rfl rfl rfl (lb rfl) (fun a w h=>(h.get 0 rfl)) fun b1=>?_
 refine ZT XL hJ rfl rfl rfl (lb rfl) fun b2=>?_
 refine seK [0,1] U2 rfl (nx (Ze (ZG tb hJ [0,1,1004] [.at b1 1,.str x.b,.at b1 0,.str x.a,_] [0,1,2,3] U3 rfl ⟨fun _ _ _ hx hl _=>Zr Zas rfl (hl.env 1 1 _ rfl rfl) hx,fun a _ _ hx hl _=>Zw QU rfl (Zh hx (mo 1 rfl)) (hl.D 0 3 rfl rfl) rfl hx,fun _ _ _ hx hl _=>Zr Zat rfl (hl.env 1 1 _ rfl rfl) hx,fun a _ _ hx hl _=>Zw QU rfl (Zh hx (mo 1 rfl)) (hl.D 2 5 rfl rfl) rfl hx,trivial⟩ ?_)))
 refine cj 2 (fun hb1=>?_) fun hb1=>?_
 ·
  try simp at hb1
  refine ZE (sq (.at b1 1) rfl rfl (lb rfl) (fun _ _ h=>Zr Zas rfl (h.get 1 rfl) h.x) ?_)
  refine sy (.str x.b) (fun h=>Zw QU rfl (Zh h.x (mo 1 rfl)) (h.get 0 rfl) rfl h.x) ?_
  refine sy (.at b1 0) (fun h=>Zr Zat rfl (h.get 3 rfl) h.x) ?_
  refine sy (.str x.a) (fun h=>Zw QU rfl (Zh h.x (mo 1 rfl)) (h.get 0 rfl) rfl h.x) ?_
  refine sy (.at b1 0) (fun h=>Zr Zat rfl (h.get 5 rfl) h.x) ?_
  refine kw pm1 (Z5 (b:=b1) (off:=0) (es:=U2) hJ hJ0 Zks rfl rfl rfl (lb rfl) rfl (fun a w h=>⟨(h.get 0 rfl),(h.get 3 rfl)⟩) ?_)
  refine sy (.at b1 1) (fun h=>Zr Zas rfl (h.get 6 rfl) h.x) ?_
  refine Z5 (b:=b1) (off:=1) (es:=U2) hJ hJ0 Zks rfl rfl rfl (lb rfl) rfl (fun a w h=>⟨(h.get 0 rfl),(h.get 2 rfl)⟩) ?_
  refine seK [6,7] U2 rfl (nx (tsq ?_))
  refine sy (.agg [lS x.b,lS x.a]) (fun h=>Yz (ds:=[lS x.b,lS x.a]) YR rfl (Zh h.x (mo 0 rfl)) (h.get 1 rfl) rfl rfl h.x) ?_
  refine kw pm1 (ZB (b:=b2) (off:=0) (es:=U2) (news:=U2) hJ hJ0 YK rfl rfl rfl (lb rfl) rfl (fun a w h=>⟨(h.get 1 rfl),(h.get 0 rfl)⟩) ?_)
  exact seK [1] [_] rfl (nx (ZA (fun a w h=>Xx (m:=0) rfl YR h rfl rfl (show(_:List CD)=[lS ((QN x).a),lS ((QN x).b)]from by(simp[QN,hb1])<;>rfl))))
 ·
  try simp at hb1
  refine Zb (nx (tsq (sy (.agg (prC x)) (fun h=>Yz (ds:=[lS x.a,lS x.b]) YR rfl (Zh h.x (mo 1 rfl)) (h.get 1 rfl) rfl rfl h.x) ?_)))
  refine ZB (b:=b2) (off:=0) (es:=U2) (news:=U2) hJ hJ0 YK rfl rfl rfl (lb rfl) rfl (fun a w h=>⟨(h.get 1 rfl),(h.get 0 rfl)⟩) ?_
  exact seK [1] [_] rfl (nx (ZA (fun a w h=>Xx (m:=0) rfl YR h rfl rfl (show(_:List CD)=[lS ((QN x).a),lS ((QN x).b)]from by(simp[QN,hb1])<;>rfl))))
end
end Go.Proofs.YtneapgbkkkjagaaGreatDoor
