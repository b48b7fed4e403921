/-
  Part of the proof that MinimizeChecks returns true. Conditions: none.
-/
import Derived.Test.YtdfadihhfppjaaaGreatDoorBEN
import Derived.Lib.Join
namespace Go.Proofs.YtdfadihhfppjaaaGreatDoor
open Go.Proofs.Tryz
open List (all_eq_true any_eq_false any_eq_true append_assoc getD_eq_getElem?_getD length_append length_take map_append mem_append mem_append_left mem_map mem_singleton take_append_drop)
section
def fX {α:Type} (x y:α) (k:Nat):α:=if k=0 then x else y
structure Lt where
 number:Int
 tagged:Bool
instance instInhLt:Inhabited Lt:=⟨⟨0,false⟩⟩
structure hU where
 kind:Int
 ac:List BA
 number:Int
 tagged:Bool
instance instInhItm:Inhabited hU:=⟨⟨0,[],0,false⟩⟩
def kS (p:Int×Int):List CD:=[.lit (.int .i64 p.1),.lit (.int .i64 p.2)]
def j1:List UInt8->Int->Bool->List Lt×Bool
 | [],_,inside=>([],inside)
 | b::r,n,inside=>
  if decide (85<=b.toNat)&&decide (b.toNat<=89)then
   if 1000000<5*n+((b.toNat:Int)-85)+1 then([],true)else j1 r (5*n+((b.toNat:Int)-85)+1) true
  else if decide (65<=b.toNat)&&decide (b.toNat<=84)then
   if 1000000<20*n+((b.toNat:Int)-65)+1 then([],true)
   else match r with
    | []=>([⟨20*n+((b.toNat:Int)-65)+1,false⟩],false)
    | c::r'=>if c.toNat=90 then(⟨20*n+((b.toNat:Int)-65)+1,true⟩::(j1 r' 0 false).1,(j1 r' 0 false).2)
     else(⟨20*n+((b.toNat:Int)-65)+1,false⟩::(j1 (c::r') 0 false).1,(j1 (c::r') 0 false).2)
  else if decide (b.toNat=63)&& !inside then(⟨0,false⟩::(j1 r n inside).1,(j1 r n inside).2)
  else([],true)
 termination_by l=>l.length
def qu (s:BA):List Lt×Bool:=j1 s.data.toList 0 false
section
variable {D:List UInt8} {p:Nat} {n:Int} {ins:Bool} (h:p<D.length)
include h
variable (h1:¬ (85<=(G D p).toNat/\(G D p).toNat<=89))
include h1
variable (h2:¬ (65<=(G D p).toNat/\(G D p).toNat<=84))
include h2
end
def Bb (fs:List Fr):List (BA×Int):=fs.zipIdx.foldl (λm p=>cn m p.1.ae (p.2:Int)) []
def cA (f:Fr) (ae:BA):Option Hy:=(f.aa++f.bB).find? λh=>decide (h.ae=ae)
theorem wz {α:Type} [Inhabited α] (x:α) (l:List α):G (x::l) 0=x:=rfl
theorem wy {α:Type} [Inhabited α] (x:α) (l:List α) (k:Nat):G (x::l) (k+1)=G l k:=by simp[G]
theorem AE {f:Fr} {s:BA} {k j:Nat} (hk:k<2) (h1:∀ i,i<k->∀ h∈fX f.aa f.bB i,¬ h.ae=s) (hj:j< (fX f.aa f.bB k).length) (h2:∀ i,i<j->¬ (G (fX f.aa f.bB k) i).ae=s) (h3:(G (fX f.aa f.bB k) j).ae=s):cA f s=some (G (fX f.aa f.bB k) j):=by
 have key:∀(l:List Hy) (j:Nat),j<l.length->(∀ i,i<j->¬ (G l i).ae=s)->(G l j).ae=s->l.find? (λh=>decide (h.ae=s))=some (G l j):=by
  intro l
  induction l with
  | nil=>intro j hj;simp at hj
  | cons x r ih=>
   intro j hj h2 h3
   cases j with
   | zero=>simp only[wz]at h3 ⊢;simp[h3]
   | succ j=>
    have h4:=h2 0 oz
    simp only[wz,wy]at h3 h4 ⊢
    rw[List.find?_cons_of_neg (by simpa using h4)]
    exact ih j (by simpa using hj) (λi hi=>by have:=h2 (i+1) oz;simpa only[wy]using this) h3
 unfold cA
 rw[List.find?_append]
 match k,hk with
 | 0,_=>simp only[fX,if_pos]at hj h2 h3 ⊢;rw[key _ _ hj h2 h3];rfl
 | 1,_=>
  simp only[fX,if_neg (show ¬ (1:Nat)=0 by omega)]at hj h2 h3 ⊢
  rw[List.find?_eq_none.2 λx Z=>by simpa using h1 0 oz x (by simpa [fX]using Z),key _ _ hj h2 h3];rfl
theorem AD {f:Fr} {s:BA} (h1:∀ i,i<2->∀ h∈fX f.aa f.bB i,¬ h.ae=s):cA f s=none:=by
 unfold cA
 rw[List.find?_eq_none]
 intro x Z
 rcases mem_append.1 Z with Z | Z
 ·simpa using h1 0 oz x (by simpa [fX]using Z)
 ·simpa using h1 1 oz x (by simpa [fX]using Z)
theorem Wv {f:Fr} {k:Nat} {x:Hy} (h:x∈fX f.aa f.bB k):x∈f.aa++f.bB:=by
 unfold fX at h
 split at h<;>simp[h]
def ue (f:Fr) (M:List (BA×Int)) (ae:BA):hU:=
 if decide (ae=(⟨#[63]⟩:BA))then⟨0,[],0,false⟩
 else match cA f ae with
  | some h=>⟨1,h.ac,0,false⟩
  | none=>match aw M ae with
   | some n=>⟨2,[],n,false⟩
   | none=>⟨3,[],0,false⟩
section
variable {f:Fr} {M:List (BA×Int)} {s:BA}
end
def s7 (l:List BA):Bool:=decide (0<l.length)&&decide (G l 0=(⟨#[40]⟩:BA))
def FV (s x:BA):Bool:=decide (s=x)
def qr (l:List BA) (s:BA):BA:=⟨(Lib.join (l.map (·.data.toList)) s.data.toList).toArray⟩
def xr (proof:List BA):Option (List BA×BA):=
 let k:=cH (FV ⟨#[41]⟩) proof
 if k<0 then none
 else if((proof.take k.toNat).drop 1).any λw=>!ga w then none
 else some ((proof.take k.toNat).drop 1,qr (proof.drop (k.toNat+1)) ⟨#[]⟩)
def yh (l:List BA):Bool:=(List.range l.length).any λj=>decide (G l j∈l.take j)
def Qg (f:Fr) (M:List (BA×Int)) (labels:List BA) (tags:Nat) (l:Lt):Option hU:=
 if l.number=0 then some ⟨0,[],0,l.tagged⟩
 else if l.number<=f.aa.length then some ⟨1,(G f.aa (l.number-1).toNat).ac,0,l.tagged⟩
 else if l.number<=((f.aa.length+labels.length:Nat):Int)then some { ue f M (G labels (l.number-1-f.aa.length).toNat)with tagged:=l.tagged }
 else if l.number<=((f.aa.length+labels.length+tags:Nat):Int)then some ⟨4,[],l.number-1-f.aa.length-labels.length,l.tagged⟩
 else none
def AJ (f:Fr) (M:List (BA×Int)) (labels:List BA):List Lt->Nat->Option (List hU)
 | [],_=>some []
 | l::r,tags=>match Qg f M labels tags l with
  | none=>none
  | some x=>match AJ f M labels r (if l.tagged then tags+1 else tags)with
   | none=>none
   | some xs=>some (x::xs)
def Ih (f:Fr) (M:List (BA×Int)) (proof:List BA):Except Int (List hU):=
 if !s7 proof then if 2000<proof.length then .error 10 else .ok (proof.map (ue f M))
 else match xr proof with
  | none=>.error 20
  | some (labels,ac)=>
   if yh labels||labels.any λs=>f.aa.any λh=>decide (h.ae=s)then .error 20
   else match AJ f M labels (qu ac).1 0 with
    | none=>.error 21
    | some xs=>if(qu ac).2 then .error 21 else if 2000<xs.length then .error 10 else .ok xs
def kU (hs:List Hy) (sk:List (List BA)) (b j:Nat):Option Bd:=if(G hs j).bn then some ⟨G (G hs j).ac 1,(G sk (b+j)).drop 1⟩else none
def bP (hs:List Hy) (sk:List (List BA)) (b k:Nat):List Bd:=(List.range k).filterMap (kU hs sk b)
def fg (hs:List Hy) (sk:List (List BA)) (b j:Nat):Bool:=!(G hs j).bn||decide (G (G sk (b+j)) 0=G (G hs j).ac 0)
def jK (hs:List Hy) (sk:List (List BA)) (b:Nat) (l:List Bd) (j:Nat):Bool:=(G hs j).bn||lW (G hs j).ac l (G sk (b+j))
def kQ (vars:List BA) (wide:List Pr) (g:Fr) (sk:List (List BA)) (b:Nat):Except Int (List BA):=
 if !(List.range g.aa.length).all (fg g.aa sk b)then .error 24
 else if !(List.range g.aa.length).all (jK g.aa sk b (bP g.aa sk b g.aa.length))then .error 25
 else if !ca (az (bP g.aa sk b g.aa.length)) g.ac 2000 then .error 15
 else if eQ (bP g.aa sk b g.aa.length) g.apart vars wide then .error 26
 else .ok (bA (az (bP g.aa sk b g.aa.length)) g.ac)
def WK (vars:List BA) (wide:List Pr) (g:Fr) (sk:List (List BA)):Except Int (List (List BA)):=
 if sk.length<g.aa.length then .error 23
 else match kQ vars wide g sk (sk.length-g.aa.length)with
  | .error c=>.error c
  | .ok t=>.ok (sk.take (sk.length-g.aa.length)++[t])
theorem sS (hs:List Hy) (sk:List (List BA)) (b k:Nat):bP hs sk b (k+1)=bP hs sk b k++(kU hs sk b k).toList:=by
 unfold bP
 rw[List.range_succ,List.filterMap_append]
 cases h:kU hs sk b k<;>simp[h]
theorem vp (hs:List Hy) (sk:List (List BA)) (b k:Nat):(bP hs sk b k).length<=k:=by
 unfold bP
 have:=List.length_filterMap_le (kU hs sk b) (List.range k)
 simpa using this
theorem vq {hs:List Hy} {sk:List (List BA)} {b k m:Nat} (hm:∀ t∈sk,t.length<=m) (hb:b+k<=sk.length):∀ x∈bP hs sk b k,x.ac.length<=m:=by
 intro x Z
 obtain⟨j,hj,he⟩:=List.mem_filterMap.1 Z
 have hj:j<k:=by simpa using hj
 unfold kU at he
 split at he
 ·cases he
  have:=hm _ (aE (xs:=sk) (k:=b+j) oz)
  simp only[List.length_drop]
  omega
 ·cases he
theorem pJ {p:Nat->Bool} {k:Nat} (h:∀ j,j<k->p j=true):(List.range k).all p=true:=all_eq_true.2 λj hj=>h j (by simpa using hj)
theorem CQ {p:Nat->Bool} {k j:Nat} (hj:j<k) (h:p j=false):(List.range k).all p=false:=List.all_eq_false.2 ⟨j,by simpa using hj,by simp[h]⟩
section
variable {vars:List BA} {wide:List Pr} {g:Fr} {sk:List (List BA)} {j:Nat}
variable (h0:¬ sk.length<g.aa.length) (hk:∀ j,j<g.aa.length->fg g.aa sk (sk.length-g.aa.length) j=true) (hm:∀ j,j<g.aa.length->jK g.aa sk (sk.length-g.aa.length) (bP g.aa sk (sk.length-g.aa.length) g.aa.length) j=true)
include h0 hk hm
end
def Qp (fs:List Fr) (vars:List BA) (f:Fr) (sk tg:List (List BA)) (x:hU):Except Int (List (List BA)):=
 if x.kind=1 then .ok (sk++[x.ac])
 else if x.kind=2 then WK vars f.wide (G fs x.number.toNat) sk
 else if x.kind=4 then .ok (sk++[G tg x.number.toNat])
 else if x.kind=0 then .error 27 else .error 22
def D5 (f:Fr) (sk:List (List BA)) (k:Nat):Int×Int:=
 if sk.length≠1 then(23,(k:Int))else if !decide (G sk 0=f.ac)then(28,(k:Int))else(0,0)
structure Ms where
 sk:List (List BA)
 tg:List (List BA)
 n:Nat
 kn:Bool
 v:Int×Int
 did:Bool
def D6 (f:Fr) (len:Nat) (m:Ms):Ms:=if m.n<len then m else { m with kn:=true,v:=D5 f m.sk m.n }
def VS (fs:List Fr) (vars:List BA) (f:Fr) (xs:List hU) (m:Ms):Ms:=
 if m.kn then { m with did:=false }
 else match Qp fs vars f m.sk m.tg (G xs m.n)with
  | .error c=> { m with kn:=true,v:=(c,(m.n:Int)),did:=false }
  | .ok s=>D6 f xs.length ⟨s,if(G xs m.n).tagged=true then m.tg++[G s ((s.length:Int)-1).toNat]else m.tg,m.n+1,m.kn,m.v,true⟩
section
variable {fs:List Fr} {vars:List BA} {f:Fr} {xs:List hU} {sk tg s:List (List BA)} {n:Nat} {kn:Bool} {v:Int×Int} {b:Bool} {c:Int}
end
def okF (g:Fr):Prop:=g.aa.length<=2000/\∀ h∈g.aa,h.bn=true->h.ac.length=2
def xM (fs:List Fr) (vars:List BA) (f:Fr) (xs:List hU):Nat->Ms->Ms
 | 0,m=>m
 | k+1,m=>xM fs vars f xs k (VS fs vars f xs m)
def IY (f:Fr) (r:Except Int (List hU)):List hU×Ms:=
 match r with
 | .error c=>([],⟨[],[],0,true,(c,0),true⟩)
 | .ok xs=>(xs,D6 f xs.length ⟨[],[],0,false,(0,0),true⟩)
def iK (d:Db) (z:Int):Int:=if ¬ dG d=0 then dG d else if z<0∨(d.ab.length:Int)<=z then 5 else 0
def ul (g:Fr):Prop:=0<g.ac.length/\∀ h∈g.aa,h.bn=true->¬ G h.ac 1=G g.ac 0
theorem J2 {g:Fr} (hg:ul g) (sk:List (List BA)) (b:Nat):1<=(bA (az (bP g.aa sk b g.aa.length)) g.ac).length:=by
 obtain⟨h0,h1⟩:=hg
 have h2:aw (az (bP g.aa sk b g.aa.length)) (G g.ac 0)=none:=by
  rw[qx,List.find?_eq_none.2,Option.map_none]
  intro x Z
  obtain⟨j,hj,he⟩:=List.mem_filterMap.1 Z
  have hj:j<g.aa.length:=by simpa using hj
  unfold kU at he
  split at he
  ·rename_i hf
   cases he
   simpa using h1 _ (aE hj) hf
  ·cases he
 have h3:=kd (M:=az (bP g.aa sk b g.aa.length)) h0
 have h4:=pK (az (bP g.aa sk b g.aa.length)) g.ac 1
 rw[h3,length_append]at h4
 simp only[bp,h2,List.length_singleton]at h4
 omega
def Wh (xs:List hU) (k:Nat):Nat:=((xs.take k).filter (·.tagged)).length
structure JP (xs:List hU) (m:Ms):Prop where
 sk:∀ t∈m.sk,1<=t.length/\t.length<=2000
 tg:∀ t∈m.tg,1<=t.length/\t.length<=2000
 Yj:m.sk.length<=m.n
 Yk:m.tg.length=Wh xs m.n
 n:m.n<=xs.length
 kn:m.kn=false->m.n<xs.length
theorem WM {vars:List BA} {wide:List Pr} {g:Fr} {sk:List (List BA)} {b:Nat} {t:List BA} (hg:ul g) (h:kQ vars wide g sk b= .ok t):1<=t.length/\t.length<=2000:=by
 unfold kQ at h
 split at h
 ·cases h
 split at h
 ·cases h
 split at h
 ·cases h
 split at h
 ·cases h
 ·rename_i h3 _
  injection h with h
  subst h
  simp only[ca,Bool.not_eq_true',decide_eq_false_iff_not,Nat.not_le,Nat.not_lt]at h3
  exact⟨J2 hg sk b,h3⟩
def zZ (f:Fr):Prop:=∀ h∈f.aa++f.bB,1<=h.ac.length/\h.ac.length<=2000
section
variable {fs:List Fr} {vars:List BA} {f:Fr} {xs:List hU} {m:Ms}
end
def me (d:Db) (n:Nat) (t:List BA):List hU:=(IY (G d.ab n) (Ih (G d.ab n) (Bb (d.ab.take n)) t)).1
def A6 (d:Db) (n:Nat) (t:List BA):Ms:=(IY (G d.ab n) (Ih (G d.ab n) (Bb (d.ab.take n)) t)).2
section
variable {fs:List Fr} {vars:List BA} {f:Fr} {xs:List hU} {m:Ms}
end
section
variable {d:Db}
theorem pR (h:dG d=0):∀ k,k<d.ab.length->dI d k=0:=by
 unfold dG at h
 split at h
 ·cases h
 split at h
 ·rename_i h2
  rw[h]at h2
  simp at h2
 ·exact lV h
theorem yZ (h:dG d=0):ed d=0:=by
 unfold dG at h
 split at h
 ·cases h
 split at h
 ·rename_i h2
  rw[h]at h2
  simp at h2
 ·rename_i h2
  simpa using h2
theorem Wg (h:ed d=0):∀ v∈d.vars,¬ v∈d.bL:=by
 unfold ed at h
 split at h
 ·rename_i h2
  rw[h]at h2
  simp at h2
 ·intro v hv hc
  obtain⟨j,hj,rfl⟩:=ej hv
  have:=lV h j hj
  unfold iZ at this
  split at this
  ·cases this
  split at this
  ·cases this
  ·rename_i h3
   simp[hc]at h3
theorem PV {k:Nat} {y:Hy} {bs:List Hy} {dm:Bool} (h:eX d k y bs dm=0):(1<=y.ac.length/\y.ac.length<=200)/\(y.bn=true->y.ac.length=2/\G y.ac 1∈d.vars):=by
 have h1:=rV h
 unfold eX at h
 split at h
 ·cases h
 split at h
 ·cases h
 split at h
 ·cases h
 split at h
 ·cases h
 rename_i h4
 have h5:y.bn=true->y.ac.length=2/\G y.ac 1∈d.vars:=λhf=>⟨iz h1 hf,by simp[oO,hf]at h4;exact h4.2⟩
 refine⟨?_,h5⟩
 cases hf:y.bn with
 | true=>have:=(h5 hf).1;omega
 | false=>simp[ij,hf]at h1;have:=List.length_pos_iff.2 h1.2.1;omega
theorem N9 (hs:ed d=0) {k:Nat} (h:dI d k=0):okF (G d.ab k)/\ul (G d.ab k)/\zZ (G d.ab k):=by
 have hz:=tE h
 unfold dI fd at h
 split at h
 ·cases h
 split at h
 ·cases h
 split at h
 ·cases h
 split at h
 ·rename_i h2
  rw[h]at h2
  simp at h2
 rename_i h3
 have h3:lE d k=0:=by simpa using h3
 have hy:∀ y∈(G d.ab k).aa++(G d.ab k).bB,(1<=y.ac.length/\y.ac.length<=200)/\(y.bn=true->y.ac.length=2/\G y.ac 1∈d.vars):=λy hy=>by
  obtain⟨j,hj,rfl⟩:=ej hy
  exact PV (lV h3 j hj)
 split at h
 ·cases h
 rename_i h4
 split at h
 ·rename_i h2
  rw[h]at h2
  simp at h2
 rename_i h5
 have hc:G (G d.ab k).ac 0∈d.bL:=by
  have h6:iN d (G d.ab k).ac=0:=by simpa using h5
  unfold iN rB at h6
  split at h6
  ·rename_i h7
   simp only[Bool.and_eq_true,decide_eq_true_eq]at h7
   exact h7.1
  ·cases h6
 have hp:0< (G d.ab k).ac.length:=by
  simp only[Bool.or_eq_true,decide_eq_true_eq,not_or]at h4
  omega
 refine⟨⟨oz,λy hy' hf=>((hy y (mem_append_left _ hy')).2 hf).1⟩,⟨hp,λy hy' hf e=>?_⟩,λy hy'=>⟨(hy y hy').1.1,Nat.le_trans (hy y hy').1.2 oz⟩⟩
 have:=((hy y (mem_append_left _ hy')).2 hf).2
 rw[e]at this
 exact Wg hs _ this hc
theorem pS (h:dG d=0):∀ g∈d.ab,okF g/\ul g/\zZ g:=λg hg=>by
 obtain⟨k,hk,rfl⟩:=ej hg
 exact N9 (yZ h) (pR h k hk)
theorem oE {z:Int} (h:iK d z=0):dG d=0/\0<=z/\z< (d.ab.length:Int):=by
 unfold iK at h
 split at h
 ·rename_i h2;exact absurd h h2
 split at h
 ·cases h
 ·rename_i h1 h2
  exact⟨by simpa using h1,oz,oz⟩
end
theorem pU {x y:BA}:dS x y<0↔Op.bytesLess x.toList y.toList=true:=by
 unfold dS
 split
 ·rename_i h;simp[h]
 ·rename_i h
  split<;>simp[h]
theorem s5 {x y:BA}:dS x y=0↔x=y:=by
 unfold dS
 split
 ·rename_i h
  constructor
  ·intro e;omega
  ·rintro rfl;rw[pO]at h;cases h
 ·split
  ·rename_i h;simp[h]
  ·rename_i h;simp[h]
theorem vN {p q:Pr}:iL p q<0↔cI p q=true:=by
 unfold iL cI
 split
 ·rename_i h
  rw[s5]at h
  rw[pU,h,pO]
  simp
 ·rename_i h
  rw[s5]at h
  rw[pU]
  simp[h]
theorem LI {p q:Pr}:iL p q=0↔p=q:=by
 unfold iL
 split
 ·rename_i h
  rw[s5]at h ⊢
  constructor
  ·intro h2;cases p;cases q;simp_all
  ·rintro rfl;rfl
 ·rename_i h
  constructor
  ·intro e;exact absurd e h
  ·rintro rfl;exact absurd (s5.2 rfl) h
theorem w6 (x:Pr):cI x x=false:=by simp[cI,pO]
theorem AZ {x y:Pr} (h1:cI x y=false) (h2:cI y x=false):x=y:=by
 cases h3:iq x y with
 | true=>simp only[iq,Bool.and_eq_true,decide_eq_true_eq]at h3;cases x;cases y;simp_all
 | false=>have:=Gg h1 h3;rw[h2]at this;cases this
def fL (ps:List Pr):Nat->List Pr
 | 0=>[]
 | m+1=>if m=0∨ ¬ G ps m=G ps (m-1)then fL ps m++[G ps m]else fL ps m
theorem zb {ps:List Pr} {m:Nat} (h:m=0∨ ¬ G ps m=G ps (m-1)):fL ps (m+1)=fL ps m++[G ps m]:=by rw[fL,if_pos h]
theorem zc {ps:List Pr} {m:Nat} (h0:0<m) (h:G ps m=G ps (m-1)):fL ps (m+1)=fL ps m:=by rw[fL,if_neg (by rintro(e | e);omega;exact e h)]
theorem DO (ps:List Pr):∀ m,(fL ps m).length<=m
 | 0=>by simp[fL]
 | m+1=>by
  have:=DO ps m
  rw[fL]
  split
  ·simp only[length_append,List.length_singleton];omega
  ·omega
def pG (l:List Pr):Prop:=l.Pairwise λx y=>cI y x=false
theorem pG.at {l:List Pr} (h:pG l) {i j:Nat} (gR:i<j) (hj:j<l.length):cI (G l j) (G l i)=false:=by
 rw[cF hj,cF (show i<l.length by omega)]
 exact List.pairwise_iff_getElem.1 h i j oz hj gR
theorem Gw {α:Type} [Inhabited α] {l:List α} {x:α} {m:Nat} (h:x∈l.take m):∃ i,i<m/\i<l.length/\x=G l i:=by
 obtain⟨i,hi,rfl⟩:=List.getElem_of_mem h
 rw[length_take]at hi
 exact⟨i,oz,oz,by rw[cF oz,List.getElem_take]⟩
theorem DP {ps:List Pr} (h:pG ps):∀ m,m<=ps.length->jf (fL ps m)/\∀ x,x∈fL ps m↔x∈ps.take m
 | 0,_=>⟨List.Pairwise.nil,λx=>by simp[fL]⟩
 | m+1,hm=>by
  obtain⟨h1,h2⟩:=DP h m oz
  by_cases hc:m=0∨ ¬ G ps m=G ps (m-1)
  ·rw[zb hc,dF oz]
   refine⟨List.pairwise_append.2 ⟨h1,List.pairwise_singleton _ _,λx Z y hy=>?_⟩,λx=>by simp only[mem_append,h2]⟩
   rw[mem_singleton.1 hy]
   obtain⟨i,hi,rM,rfl⟩:=Gw ((h2 x).1 Z)
   have h3:=h.at hi oz
   cases h4:cI (G ps i) (G ps m)with
   | true=>rfl
   | false=>
    have he:=AZ h4 h3
    rcases hc with rfl | hc
    ·omega
    ·have h5:=h.at (show m-1<m by omega) oz
     have h6:cI (G ps (m-1)) (G ps m)=false:=by
      rcases Nat.lt_or_ge i (m-1)with h7 | h7
      ·rw[<-he];exact h.at h7 oz
      ·rw[show m-1=i by omega,he];exact w6 _
     exact absurd (AZ h5 h6) hc
  ·have Am:0<m:=by omega
   have he:G ps m=G ps (m-1):=by simpa [show ¬ m=0 by omega]using hc
   rw[zc Am he]
   refine⟨h1,λx=>?_⟩
   rw[h2,dF oz,mem_append]
   constructor
   ·exact .inl
   ·rintro(h3 | h3)
    ·exact h3
    ·rw[mem_singleton.1 h3,he]
     refine List.mem_of_getElem? (i:=m-1) ?_
     rw[List.getElem?_take,if_pos oz,List.getElem?_eq_getElem oz,cF oz]
def yx (l qs:List Pr):Prop:=jf qs/\(∀ p,p∈qs↔p∈l.map da)/\qs.length<=l.length
theorem VK {l ps:List Pr} (hp:ps.Perm (l.map da)) (hw:pG ps):yx l (fL ps ps.length):=by
 obtain⟨h1,h2⟩:=DP hw ps.length aV
 refine⟨h1,λp=>?_,?_⟩
 ·rw[h2,List.take_length]
  exact hp.mem_iff
 ·have h3:=DO ps ps.length
  have h4:=hp.length_eq
  rw[List.length_map]at h4
  omega
theorem jf.at {l:List Pr} (h:jf l) {i j:Nat} (gR:i<j) (hj:j<l.length):cI (G l i) (G l j)=true:=by
 rw[cF hj,cF (show i<l.length by omega)]
 exact List.pairwise_iff_getElem.1 h i j oz hj gR
theorem Ky {qs:List Pr} {p:Pr} {i j:Nat} (hs:jf qs) (gR:j<=i) (h1:∀ k,k<i->cI (G qs k) p=true) (h2:∀ k,j<=k->k<qs.length->cI (G qs k) p=false):p∈qs↔i<qs.length/\G qs i=p:=by
 constructor
 ·intro hp
  obtain⟨k,hk,rfl⟩:=ej hp
  have h3:i<=k:=Nat.le_of_not_lt λh=>by have:=h1 k h;rw[w6]at this;cases this
  rcases Nat.lt_or_ge i k with h4 | h4
  ·have:=hs.at h4 hk
   rw[h2 i gR oz]at this
   cases this
  ·have:i=k:=by omega
   subst this
   exact⟨hk,rfl⟩
 ·rintro⟨h3,rfl⟩
  exact aE h3
theorem Hx {x y:Pr} (h1:x.a=y.a) (h2:x.b=y.b):x=y:=by cases x;cases y;simp_all
section
variable {ps rs:List Pr} {i j k m:Nat} {x:Pr}
theorem LV (h:1<=ps.length):fL ps 1=ps.take 1:=by
 cases ps with
 | nil=>simp at h
 | cons y r=>rfl
theorem ze (h:ps.length<2):ps=fL ps ps.length:=by
 match ps,h with
 | [],_=>rfl
 | [y],_=>rfl
theorem zd (h:¬ k<ps.length) (hk:k<=ps.length) (h2:fL ps k=ps.take k):ps=fL ps ps.length:=by
 have:k=ps.length:=by omega
 subst this
 rw[h2,List.take_length]
theorem LU (hk:k<ps.length) (h2:fL ps k=ps.take k) (h3:¬ G ps k=G ps (k-1)):fL ps (k+1)=ps.take (k+1):=by
 rw[zb (.inr h3),h2,dF hk]
theorem Oi (h:¬ i=j):G (rs.set j x) i=G rs i:=by
 simp only[G,getD_eq_getElem?_getD]
 rw[List.getElem?_set_ne (λe=>h e.symm)]
theorem take_set (hj:j<rs.length):(rs.set j x).take (j+1)=rs.take j++[x]:=by
 have h1:j< (rs.set j x).length:=by rw[List.length_set];exact hj
 rw[dF h1,List.take_set_of_le aV]
 congr 2
 rw[cF h1,List.getElem_set_self]
end
def vy (qs:List Pr) (p:Pr):Nat:=(qs.filter λq=>cI q p).length
section
variable {qs:List Pr} {p:Pr} {i j h:Nat}
theorem Kz (gR:j<=i) (hi:i<=qs.length) (h1:∀ k,k<i->cI (G qs k) p=true) (h2:∀ k,j<=k->k<qs.length->cI (G qs k) p=false):i=vy qs p:=by
 have e1:(qs.take i).filter (λq=>cI q p)=qs.take i:=List.filter_eq_self.2 λx Z=>by
  obtain⟨k,hk,_,rfl⟩:=Gw Z
  exact h1 k hk
 have e2:(qs.drop i).filter (λq=>cI q p)=[]:=List.filter_eq_nil_iff.2 λx Z=>by
  obtain⟨k,hk,rfl⟩:=List.mem_drop_iff_getElem.1 Z
  have:=h2 (i+k) oz oz
  rw[cF oz]at this
  simpa [Nat.add_comm]using this
 unfold vy
 have e3:qs.filter (λq=>cI q p)=(qs.take i).filter (λq=>cI q p)++(qs.drop i).filter (λq=>cI q p):=by rw[<-List.filter_append,take_append_drop]
 rw[e3,e1,e2,List.append_nil,length_take]
 omega
theorem Kw (hs:jf qs) (gR:j<=i) (h1:∀ k,k<i->cI (G qs k) p=true) (h2:∀ k,j<=k->k<qs.length->cI (G qs k) p=false):(decide ((i:Int)< (qs.length:Int))&&decide (iL (G qs i) p=0))=decide (p∈qs):=by
 rw[<-Bool.decide_and]
 congr 1
 rw[LI]
 exact propext ((Ky hs gR h1 h2).trans ⟨λ⟨a,b⟩=>⟨oz,b⟩,λ⟨a,b⟩=>⟨oz,b⟩⟩).symm
theorem KA (hs:jf qs) (hh:h<qs.length) (hc:iL (G qs h) p<0):∀ k,k<h+1->cI (G qs k) p=true:=λk hk=>by
 rw[vN]at hc
 rcases Nat.lt_or_ge k h with h3 | h3
 ·exact rX (hs.at h3 hh) hc
 ·rw[show k=h by omega];exact hc
theorem Kx (hs:jf qs) (hc:¬ iL (G qs h) p<0):∀ k,h<=k->k<qs.length->cI (G qs k) p=false:=λk hk k6=>by
 rw[vN]at hc
 have hc:cI (G qs h) p=false:=by simpa using hc
 rcases Nat.lt_or_ge h k with h3 | h3
 ·cases h4:cI (G qs k) p with
  | false=>rfl
  | true=>have:=rX (hs.at h3 k6) h4;rw[hc]at this;cases this
 ·rw[show k=h by omega];exact hc
end

section
variable {α β:Type} [Inhabited α] {f:α->List β} {g:α->β} {xs:List α} {k:Nat} {q:List β}
theorem tC (hk:k<xs.length):(xs.take (k+1)).flatMap f=(xs.take k).flatMap f++f (G xs k):=by
 rw[dF hk,List.flatMap_append]
 simp
theorem EH (hk:k<xs.length) (h:q<+:f (G xs k)):(xs.take k).flatMap f++q<+:xs.flatMap f:=by
 obtain⟨r,hr⟩:=h
 refine⟨r++(xs.drop (k+1)).flatMap f,?_⟩
 have e:xs.flatMap f=((xs.take (k+1))++xs.drop (k+1)).flatMap f:=by rw[take_append_drop]
 rw[e,List.flatMap_append,tC hk,<-hr]
 simp
theorem Q9 (hk:k<xs.length):(xs.take k).map g++[g (G xs k)]<+:xs.map g:=by
 refine⟨(xs.drop (k+1)).map g,?_⟩
 have e:xs.map g=((xs.take (k+1))++xs.drop (k+1)).map g:=by rw[take_append_drop]
 rw[e,map_append,A2 hk]
end
def dr (l:List Bd) (us:List BA) (s:BA):List BA:=c9 (bp (az l) s) (cZ us)
def sx (l:List Bd) (us:List BA) (p:Pr) (x:BA):List Pr:=(dr l us p.b).map λy=>da ⟨x,y⟩
def pq (l:List Bd) (us:List BA) (p:Pr):List Pr:=(dr l us p.a).flatMap (sx l us p)
theorem BN (l:List Bd) (ap:List Pr) (us:List BA):fi l ap us=ap.flatMap (pq l us):=rfl
theorem UR {l:List Bd} {us:List BA} {ap:List Pr} {k j i:Nat} (hk:k<ap.length) (hj:j< (dr l us (G ap k).a).length) (hi:i< (dr l us (G ap k).b).length):
 (ap.take k).flatMap (pq l us)++((dr l us (G ap k).a).take j).flatMap (sx l us (G ap k))++((dr l us (G ap k).b).take i).map (λy=>da ⟨G (dr l us (G ap k).a) j,y⟩)++[da ⟨G (dr l us (G ap k).a) j,G (dr l us (G ap k).b) i⟩]<+:fi l ap us:=by
 rw[BN,append_assoc,append_assoc]
 refine EH hk (EH hj (Q9 (g:=λy=>da ⟨G (dr l us (G ap k).a) j,y⟩) hi))
theorem Q8 {l rs:List Pr} (h1:rs.length=l.length) (h2:∀ i,i<l.length->G rs i=da (G l i)):rs=l.map da:=by
 apply List.ext_getElem (by simpa using h1)
 intro i hi nZ
 have h3:i<l.length:=by omega
 have:=h2 i h3
 rw[cF hi,cF h3]at this
 simpa using this
section
variable {l:List Bd} {ap wd qs pre:List Pr} {us:List BA} {p:Pr}
theorem C5 (h:yx wd qs):(!decide (p∈qs)||decide (p.a=p.b))=gM wd p:=by
 unfold gM
 rw[show decide (p∈qs)=decide (p∈wd.map da)from decide_eq_decide.2 (h.2.1 p)]
theorem Kt (hp:(pre++[p])<+:fi l ap us) (h1:∀ x∈pre,gM wd x=false) (h2:gM wd p=true):jS l ap us wd=some p:=by
 obtain⟨r,hr⟩:=hp
 unfold jS
 rw[<-hr,append_assoc,List.find?_append,List.find?_eq_none.2 (λx Z=>by simp[h1 x Z])]
 simp[h2]
theorem Ku (h1:∀ x∈fi l ap us,gM wd x=false):jS l ap us wd=none:=List.find?_eq_none.2 λx Z=>by simp[h1 x Z]
theorem TN (h1:∀ x∈pre,gM wd x=false) (h2:gM wd p=false):∀ x∈pre++[p],gM wd x=false:=λx Z=>by
 rcases mem_append.1 Z with Z | Z
 ·exact h1 x Z
 ·rw[mem_singleton.1 Z];exact h2
end
def JQ (D:List UInt8) (i:Nat) (out:List Lt) (n:Int) (ins fresh:Bool):Prop:=
 (fresh=true->ins=false/\n=0/\∃ pre x,out=pre++[⟨x,false⟩]/\j1 D 0 false=if i<D.length/\(G D i).toNat=90 then(pre++⟨x,true⟩::(j1 (D.drop (i+1)) 0 false).1,(j1 (D.drop (i+1)) 0 false).2)else(out++(j1 (D.drop i) 0 false).1,(j1 (D.drop i) 0 false).2))/\
 (fresh=false->j1 D 0 false=(out++(j1 (D.drop i) n ins).1,(j1 (D.drop i) n ins).2))
section
variable {D:List UInt8} {i:Nat} {out:List Lt} {n:Int} {ins fresh:Bool}
variable (h:JQ D i out n ins fresh) (hi:i<D.length)
include h hi
end
abbrev MW (t:List BA):Nat:=(cH (FV ⟨#[41]⟩) t).toNat
abbrev LW (t:List BA):List BA:=(t.take (MW t)).drop 1
def F7 (t:List BA):List BA×List Lt×Int:=
 if s7 t=true then
  match xr t with
  | none=>([],[],20)
  | some z=>if yh z.1=true then([],[],20)else if(qu z.2).2=true then([],[],21)else if 2000< (qu z.2).1.length then([],[],10)else(z.1,(qu z.2).1,0)
 else([],[],2)
section
variable {t:List BA} (h0:s7 t=true)
include h0
variable {z:List BA×BA} (hz:xr t=some z)
include hz
variable (h1:yh z.1=false)
include h1
variable (h2:(qu z.2).2=false)
include h2
end
theorem UH {S:Nat->Prop} {w:World} {v:Value} {i:Int} (h0:0<=i) (h:Rel S w (.int i) v):Rel S w (.int ((i.toNat:Nat):Int)) v:=by
 rw[Int.toNat_of_nonneg h0]
 exact h
section
variable {d:Db} {k:Nat} {fs:List BA} {hm:List (BA×Hy)} {tm:List (BA×BA)} {bf:List Hy}
theorem nB.fr' (h:nB d k fs hm tm bf) (hk:k<d.ab.length) (s:BA):s∈cX fs (G d.ab k).ae↔fu d (k+1) s=true:=by
 rw[A7,fu,sO hk,Bool.or_eq_true,h.fr s,fu,decide_eq_true_eq]
 exact or_congr Iff.rfl eq_comm
theorem FN (h:nB d k fs hm tm bf) (hk:k<d.ab.length) {y:Hy} {bs:List Hy} {ts:List (BA×BA)} {dm:Bool} (ht:ll bs ts):
 i6 d.bL d.vars (cX fs (G d.ab k).ae) hm tm (ng bs) ts y dm=eX d k y bs dm:=by
 unfold i6 eX
 by_cases h1:ij y dm=true
 ·rw[if_pos h1,if_pos h1]
 rw[if_neg h1,if_neg h1]
 have h1':ij y dm=false:=by simpa using h1
 have q1:(((decide (y.ae∈d.bL)||decide (y.ae∈d.vars))||decide (y.ae∈cX fs (G d.ab k).ae))||decide (y.ae∈ng bs))=((fu d (k+1) y.ae||fP d y.ae)||bs.any (kZ y)):=by
  rw[show decide (y.ae∈cX fs (G d.ab k).ae)=fu d (k+1) y.ae by rw[Bool.eq_iff_iff,decide_eq_true_eq];exact h.fr' hk _,
   show decide (y.ae∈ng bs)=bs.any (kZ y) by rw[Bool.eq_iff_iff,decide_eq_true_eq,QR,any_eq_true];simp[kZ],<-fP,Bool.or_comm (fP d y.ae)]
 rw[q1]
 by_cases h2:(fu d (k+1) y.ae||fP d y.ae)=true
 ·rw[if_pos (by rw[h2];rfl),if_pos h2]
 rw[if_neg h2,show(fu d (k+1) y.ae||fP d y.ae)=false by simpa using h2,Bool.false_or]
 by_cases h3:bs.any (kZ y)=true
 ·rw[if_pos h3,if_pos h3]
 rw[if_neg h3,if_neg h3]
 change (if oO d y then 12 else _)=_
 by_cases h4:oO d y=true
 ·rw[if_pos h4,if_pos h4]
 rw[if_neg h4,if_neg h4,h.hy.bad]
 cases hf:y.bn with
 | true=>
  have hl:=iz h1' hf
  simp only[Bool.not_true,Bool.false_and,Bool.false_eq_true,if_false,Bool.true_and]
  rw[h.ty.bad y hl,ht.bad y hl,ht.have y hl,List.any_append]
 | false=>
  simp only[Bool.not_false,Bool.false_and,Bool.false_eq_true,if_false,Bool.true_and]
  have hl:(decide (((y.ac.length:Nat):Int)=0)||decide (200< ((y.ac.length:Nat):Int)))=false:=by
   have:=h1'
   simp only[ij,hf,Bool.not_false,Bool.true_and,Bool.or_eq_false_iff]at this
   simpa using this.2
  rw[Jg,hl]
  simp
theorem t6 {d:Db} {k:Nat} {y:Hy} {bs:List Hy} {dm:Bool} (h:eX d k y bs dm=0):
 bs.any (kZ y)=false/\(y.bn=true->(jd d k++bs).any (jJ y)=false/\bs.any (ik y)=false)/\(jd d k).any (fU y)=false:=by
 unfold eX at h
 by_cases h1:ij y dm=true
 ·rw[if_pos h1]at h;exact absurd h dz
 rw[if_neg h1]at h
 by_cases h2:(fu d (k+1) y.ae||fP d y.ae)=true
 ·rw[if_pos h2]at h;exact absurd h dz
 rw[if_neg h2]at h
 by_cases h3:bs.any (kZ y)=true
 ·rw[if_pos h3]at h;exact absurd h dz
 rw[if_neg h3]at h
 by_cases h4:oO d y=true
 ·rw[if_pos h4]at h;exact absurd h dz
 rw[if_neg h4]at h
 by_cases h5:(!y.bn&& !decide (iN d y.ac=0))=true
 ·rw[if_pos h5]at h;simp[h]at h5
 rw[if_neg h5]at h
 by_cases h6:(y.bn&& (jd d k++bs).any (jJ y))=true
 ·rw[if_pos h6]at h;exact absurd h dz
 rw[if_neg h6]at h
 by_cases h7:(y.bn&&bs.any (ik y))=true
 ·rw[if_pos h7]at h;exact absurd h dz
 rw[if_neg h7]at h
 by_cases h8:(jd d k).any (fU y)=true
 ·rw[if_pos h8]at h;exact absurd h dz
 exact⟨(Bool.not_eq_true _).mp h3,λhf=>⟨by rw[hf,Bool.true_and]at h6;exact(Bool.not_eq_true _).mp h6,by rw[hf,Bool.true_and]at h7;exact(Bool.not_eq_true _).mp h7⟩,(Bool.not_eq_true _).mp h8⟩
theorem Q3 (h:∀ j,j< (bI (G d.ab k)).length->eJ d k j=0):∀ i,i<=(bI (G d.ab k)).length->ll ((bI (G d.ab k)).take i) (iY ((bI (G d.ab k)).take i)):=by
 intro i
 induction i with
 | zero=>intro _;exact⟨λx Z=>by simp at Z,λv t ht=>by simp[iY,pi]at ht⟩
 | succ i ih=>
  intro hi
  have h0:=h i oz
  rw[dF oz,uO]
  exact Ji (ih oz) (λhf=>iz (rV h0) hf) λhf=>((t6 h0).2.1 hf).2
theorem Q2 (h:nB d k fs hm tm bf) (hk:k<d.ab.length):fZ (bI (G d.ab k)).length (lA d.bL d.vars fs hm tm (G d.ab k))=lE d k:=by
 have key:∀ i,i< (bI (G d.ab k)).length->(∀ j,j<i->eJ d k j=0)->lA d.bL d.vars fs hm tm (G d.ab k) i=eJ d k i/\ll ((bI (G d.ab k)).take i) (iY ((bI (G d.ab k)).take i)):=by
  intro i
  induction i with
  | zero=>
   intro _ _
   have ht:ll ((bI (G d.ab k)).take 0) (iY ((bI (G d.ab k)).take 0)):=⟨λx Z=>by simp at Z,λv t ht=>by simp[iY,pi]at ht⟩
   exact⟨FN h hk ht,ht⟩
  | succ i ih=>
   intro hi hj
   have h0:=hj i oz
   have ht:ll ((bI (G d.ab k)).take (i+1)) (iY ((bI (G d.ab k)).take (i+1))):=by
    rw[dF oz,uO]
    exact Ji (ih oz λj hj'=>hj j oz).2 (λhf=>iz (rV h0) hf) λhf=>((t6 h0).2.1 hf).2
   exact⟨FN h hk ht,ht⟩
 exact(Nn λi hi hj=>(key i hi hj).1.symm).symm
theorem Wy:∀ {l:List Hy},(∀ i,i<l.length->(G l i).bn=true->(G l i).ac.length=2/\(l.take i).any (ik (G l i))=false)->(eN l).Nodup:=by
 intro l h
 have key:∀ i,i<=l.length->(eN (l.take i)).Nodup:=by
  intro i
  induction i with
  | zero=>intro _;simp[eN]
  | succ i ih=>
   intro hi
   rw[eN,kW oz,map_append]
   by_cases hf:(G l i).bn=true
   ·simp only[hf,if_true,List.map_cons,List.map_nil]
    rw[List.nodup_append]
    refine⟨ih oz,by simp,λx Z z hz e=>?_⟩
    rw[mem_singleton.1 hz]at e
    obtain⟨w,hw,rfl⟩:=mem_map.1 Z
    rw[List.mem_filter]at hw
    have h1:=h i oz hf
    have h2:=any_eq_false.1 h1.2 w hw.1
    refine h2 ?_
    rw[ik,te h1.1]
    obtain⟨q,hq,rfl⟩:=ej hw.1
    have hq':q<i:=by simp at hq;omega
    have e2:G (l.take i) q=G l q:=by simp[G,getD_eq_getElem?_getD,hq']
    rw[e2]at hw e ⊢
    exact uk.2 ⟨by simpa using hw.2,(h q oz (by simpa using hw.2)).1,e⟩
   ·simp only[hf,Bool.false_eq_true,if_false,List.map_nil,List.append_nil]
    exact ih oz
 have:=key l.length aV
 rwa [cS aV]at this
theorem Og {α:Type} [Inhabited α] {xs ys:List α} {i:Nat} (h:i<xs.length):G (xs++ys) i=G xs i:=by
 simp[G,getD_eq_getElem?_getD,List.getElem?_append_left h]
theorem Vl (h:∀ j,j< (bI (G d.ab k)).length->eJ d k j=0):pr d.vars (G d.ab k)=gg d (G d.ab k):=by
 have Fe:∀ i,i< (G d.ab k).aa.length->(G (G d.ab k).aa i).bn=true->(G (G d.ab k).aa i).ac.length=2/\((G d.ab k).aa.take i).any (ik (G (G d.ab k).aa i))=false:=λi hi hf=>by
  have h0:=h i (by simp[bI];omega)
  rw[eJ]at h0
  rw[Og hi]at h0
  rw[List.take_append_of_le_length oz]at h0
  exact⟨iz (rV h0) hf,((t6 h0).2.1 hf).2⟩
 have d8:=Wy Fe
 have Am:kF d.vars (G d.ab k)=gc d (G d.ab k):=rfl
 have Pu:(gc d (G d.ab k)).Nodup:=(Bh _ _).1
 unfold pr gg
 rw[J9 rfl,Am]
 have e1:(G d.ab k).aa.all (kY (gc d (G d.ab k)))=(G d.ab k).aa.all (hIn (gc d (G d.ab k))):=by
  rw[Bool.eq_iff_iff,all_eq_true,all_eq_true]
  refine forall_congr' λx=>⟨λZ hm=>?_,λZ hm=>?_⟩<;>have:=Z hm
  ·obtain⟨i,hi,rfl⟩:=ej hm
   cases hf:(G (G d.ab k).aa i).bn with
   | false=>simp[hIn,hf]
   | true=>
    simp only[kY,hf,Bool.not_true,Bool.false_or,decide_eq_true_eq]at this
    simp[hIn,gE,hf,(Fe i hi hf).1,this]
  ·obtain⟨i,hi,rfl⟩:=ej hm
   cases hf:(G (G d.ab k).aa i).bn with
   | false=>simp[kY,hf]
   | true=>
    simp only[hIn,gE,hf,Bool.not_true,Bool.false_or,Bool.true_and,Bool.and_eq_true,decide_eq_true_eq]at this
    simp[kY,hf,this.2]
 rw[e1]
 by_cases ha:(G d.ab k).aa.all (hIn (gc d (G d.ab k)))=true
 ·have hsub:∀ s∈eN (G d.ab k).aa,s∈gc d (G d.ab k):=λs hs=>by
   obtain⟨x,Z,rfl⟩:=mem_map.1 hs
   rw[List.mem_filter]at Z
   have:=all_eq_true.1 (e1.trans ha) x Z.1
   simpa [kY,Z.2]using this
  have e2:decide ((eN (G d.ab k).aa).length=(gc d (G d.ab k)).length)=(gc d (G d.ab k)).all λs=>decide (s∈eN (G d.ab k).aa):=by
   rw[Bool.eq_iff_iff,decide_eq_true_eq,all_eq_true]
   constructor
   ·intro e s hs
    rw[decide_eq_true_eq]
    refine Classical.byContradiction λhn=>?_
    have:=oc (ys:=(gc d (G d.ab k)).erase s) d8 λz hz=>(List.mem_erase_of_ne (λe':z=s=>hn (by rw[<-e'];exact hz))).2 (hsub z hz)
    rw[List.length_erase_of_mem hs]at this
    have:=List.length_pos_of_mem hs
    omega
   ·intro e
    have h1:=oc d8 hsub
    have h2:=oc Pu λs hs=>by simpa using e s hs
    omega
  rw[e2,ha]
  simp only[Bool.true_and,Bool.and_assoc]
 ·rw[show(G d.ab k).aa.all (hIn (gc d (G d.ab k)))=false by simpa using ha]
  rfl
theorem zT (h:nB d k fs hm tm bf) (hk:k<d.ab.length):gQ d.bL d.vars fs hm tm (G d.ab k) bf=dI d k:=by
 unfold gQ dI fd
 by_cases h1:(!ga (G d.ab k).ae)=true
 ·rw[if_pos h1,if_pos h1]
 rw[if_neg h1,if_neg h1,h.hy.some,<-FL]
 have q:((iQ d k (G d.ab k).ae|| (decide ((G d.ab k).ae∈d.bL)||decide ((G d.ab k).ae∈d.vars)))||decide ((G d.ab k).ae∈fs))=((fu d k (G d.ab k).ae||iQ d k (G d.ab k).ae)||fP d (G d.ab k).ae):=by
  rw[show decide ((G d.ab k).ae∈fs)=fu d k (G d.ab k).ae by rw[Bool.eq_iff_iff,decide_eq_true_eq];exact h.fr _,<-fP]
  cases iQ d k (G d.ab k).ae<;>cases fu d k (G d.ab k).ae<;>cases fP d (G d.ab k).ae<;>rfl
 rw[q]
 by_cases h2:((fu d k (G d.ab k).ae||iQ d k (G d.ab k).ae)||fP d (G d.ab k).ae)=true
 ·rw[if_pos h2,if_pos h2]
 rw[if_neg h2,if_neg h2]
 by_cases h3:(decide ((40:Int)< (((G d.ab k).aa.length:Nat):Int))||decide ((40:Int)< (((G d.ab k).bB.length:Nat):Int)))=true
 ·rw[if_pos h3,if_pos h3]
 rw[if_neg h3,if_neg h3,Q2 h hk]
 by_cases h4:(!decide (lE d k=0))=true
 ·rw[if_pos h4,if_pos h4]
 rw[if_neg h4,if_neg h4,Jg]
 have h4':∀ j,j< (bI (G d.ab k)).length->eJ d k j=0:=lV (n:=(bI (G d.ab k)).length) (show lE d k=0 by simpa using h4)
 by_cases h5:(decide ((((G d.ab k).ac.length:Nat):Int)=0)||decide (200< (((G d.ab k).ac.length:Nat):Int)))=true
 ·rw[if_pos h5,if_pos h5,if_pos dz]
 rw[if_neg h5,if_neg h5]
 by_cases h6:(!decide (iN d (G d.ab k).ac=0))=true
 ·rw[if_pos h6,if_pos h6]
 rw[if_neg h6,if_neg h6,iH,Vl h4']
 by_cases h7:gg d (G d.ab k)=true
 ·rw[if_pos h7,if_neg (show ¬ (!decide ((0:Int)=0))=true by decide),if_neg (show ¬ (!gg d (G d.ab k))=true by simp[h7])]
  have e8:su (G d.ab k)=(((decide (0< (((G d.ab k).proof.length:Nat):Int))&& !(G d.ab k).thm)||decide (8000< (((G d.ab k).proof.length:Nat):Int)))|| !(G d.ab k).proof.all fy):=by
   rw[show(!(G d.ab k).proof.all fy)=(G d.ab k).proof.any λs=>!fy s from List.not_all_eq_any_not ..]
   unfold su
   by_cases h0:(G d.ab k).proof=[]
   ·simp[h0]
   ·have:0< (G d.ab k).proof.length:=List.length_pos_iff.2 h0
    simp[this]
  have e9:(((bS (G d.ab k).aa).drop (gC (bf.map Hy.ae) ((bS (G d.ab k).aa).map Hy.ae))).any λy=>(aw hm y.ae).isSome)=ut d k (G d.ab k):=by
   rw[ut,h.bf,<-List.map_drop,List.any_map]
   congr 1
   funext y
   rw[h.hy.some,<-FL];rfl
  rw[e8,e9]
  by_cases h8:((decide (0< (((G d.ab k).proof.length:Nat):Int))&& !(G d.ab k).thm)||decide (8000< (((G d.ab k).proof.length:Nat):Int)))=true
  ·rw[if_pos (by rw[h8];rfl),if_pos h8]
  ·rw[if_neg h8,show((decide (0< (((G d.ab k).proof.length:Nat):Int))&& !(G d.ab k).thm)||decide (8000< (((G d.ab k).proof.length:Nat):Int)))=false by simpa using h8,Bool.false_or]
 ·rw[if_neg h7,if_pos (show(!decide ((70:Int)=0))=true by decide),if_pos (show(!gg d (G d.ab k))=true by simpa using h7)]
theorem N8 (h:dI d k=0):∀ j,j< (bI (G d.ab k)).length->eJ d k j=0:=by
 refine lV (n:=(bI (G d.ab k)).length) ?_
 change lE d k=0
 unfold dI fd at h
 refine Classical.byContradiction λhn=>?_
 by_cases h1:(!ga (G d.ab k).ae)=true
 ·rw[if_pos h1]at h;exact absurd h dz
 rw[if_neg h1]at h
 by_cases h2:((fu d k (G d.ab k).ae||iQ d k (G d.ab k).ae)||fP d (G d.ab k).ae)=true
 ·rw[if_pos h2]at h;exact absurd h dz
 rw[if_neg h2]at h
 by_cases h3:(decide ((40:Int)< (((G d.ab k).aa.length:Nat):Int))||decide ((40:Int)< (((G d.ab k).bB.length:Nat):Int)))=true
 ·rw[if_pos h3]at h;exact absurd h dz
 rw[if_neg h3,if_pos (by simpa using hn)]at h
 exact hn h
theorem Qq (h:nB d k fs hm tm bf) (hk:k<d.ab.length) (h0:dI d k=0) {tn:List (BA×BA)}
 (ht:∀ v,aw tn v=if(aw (iY (bI (G d.ab k))) v).isSome then aw (iY (bI (G d.ab k))) v else aw tm v):
 nB d (k+1) (cX fs (G d.ab k).ae) (m7 hm (bI (G d.ab k))) tn (bS (G d.ab k).aa):=by
 have hl:=N8 h0
 have hT:=Q3 hl (bI (G d.ab k)).length aV
 rw[cS aV]at hT
 have tI:∀ y∈bI (G d.ab k),(y.bn=true->(jd d k).any (jJ y)=false)/\(jd d k).any (fU y)=false:=λy hy=>by
  obtain⟨j,hj,rfl⟩:=ej hy
  have:=t6 (hl j hj)
  refine⟨λhf=>?_,this.2.2⟩
  have:=(this.2.1 hf).1
  rw[List.any_append,Bool.or_eq_false_iff]at this
  exact this.1
 have hdist:∀ x∈bI (G d.ab k),∀ y∈bI (G d.ab k),y.ae=x.ae->y=x:=λx Z y hy e=>by
  obtain⟨i,hi,rfl⟩:=ej Z
  obtain⟨j,hj,rfl⟩:=ej hy
  have key:∀ p q,p<q->q< (bI (G d.ab k)).length->(G (bI (G d.ab k)) p).ae≠(G (bI (G d.ab k)) q).ae:=λp q hpq hq e=>by
   have:=(t6 (hl q hq)).1
   rw[any_eq_false]at this
   refine this (G (bI (G d.ab k)) p) ?_ (by simpa [kZ]using e)
   have e2:G ((bI (G d.ab k)).take q) p=G (bI (G d.ab k)) p:=by simp[G,getD_eq_getElem?_getD,hpq]
   rw[<-e2]
   exact aE (show p< ((bI (G d.ab k)).take q).length by rw[length_take];omega)
  rcases Nat.lt_trichotomy i j with h1 | h1 | h1
  ·exact absurd e.symm (key i j h1 hj)
  ·rw[h1]
  ·exact absurd e (key j i h1 hi)
 have PC:∀ x∈jd d k,∀ y∈bI (G d.ab k),y.ae=x.ae->y=x:=λx Z y hy e=>by
  have:=any_eq_false.1 (tI y hy).2 x Z
  simp only[fU,Bool.and_eq_true,Bool.not_eq_true',decide_eq_true_eq,not_and,Bool.not_eq_false]at this
  exact(FK.1 (this e.symm)).symm
 refine⟨h.fr' hk,⟨λx Z=>?_,λs x Z=>?_⟩,⟨λx Z v hv=>?_,λv t hv=>?_⟩,?_⟩
 ·rw[sm hk]at Z
  rcases mem_append.1 Z with Z | Z
  ·exact An _ _ _ (PC x Z) (.inr (h.hy.hit x Z))
  ·exact An _ _ _ (hdist x Z) (.inl Z)
 ·rw[sm hk]
  rcases Fv _ _ _ _ Z with⟨h1,h2⟩ | h1
  ·exact⟨List.mem_append_right _ h1,h2⟩
  ·have:=h.hy.got _ _ h1
   exact⟨mem_append_left _ this.1,this.2⟩
 ·rw[sm hk]at Z
  rw[ht]
  rcases mem_append.1 Z with Z | Z
  ·cases hs:aw (iY (bI (G d.ab k))) v with
   | none=>simpa using h.ty.hit x Z v hv
   | some t=>
    obtain⟨y,hy,h1,h2⟩:=hT.got v t hs
    have rU:=uk.1 h1
    have:=any_eq_false.1 ((tI y hy).1 rU.1) x Z
    simp only[jJ,te rU.2.1,rU.2.2,hv,Bool.true_and,Bool.not_eq_true',decide_eq_false_iff_not,Classical.not_not]at this
    simp[this,h2]
  ·rw[hT.hit x Z v hv];rfl
 ·rw[sm hk]
  rw[ht]at hv
  split at hv
  ·obtain⟨y,hy,h1⟩:=hT.got v t hv
   exact⟨y,List.mem_append_right _ hy,h1⟩
  ·obtain⟨y,hy,h1⟩:=h.ty.got v t hv
   exact⟨y,mem_append_left _ hy,h1⟩
 ·rw[kg,if_neg oz,Nat.add_sub_cancel]
end
theorem zz {α:Type} [Inhabited α] {p:α->Bool}:∀ {l:List α} {k:Nat},k<l.length->(∀ j,j<k->p (G l j)=false)->p (G l k)=true->l.find? p=some (G l k)
 | [],k,h,_,_=>by simp at h
 | x::r,0,_,_,h3=>by
  simp only[wz]at h3 ⊢
  simp[h3]
 | x::r,k+1,h1,h2,h3=>by
  have h4:=h2 0 oz
  simp only[wz,wy]at h3 h4 ⊢
  rw[List.find?_cons_of_neg (by simp[h4])]
  exact zz (by simpa using h1) (λj hj=>by have:=h2 (j+1) oz;simpa only[wy]using this) h3
theorem Ej {α:Type} [Inhabited α] {p:α->Bool} {l:List α} (h:∀ j,j<l.length->p (G l j)=false):l.find? p=none:=List.find?_eq_none.2 λx Z=>by
 obtain⟨j,hj,rfl⟩:=ej Z
 simp[h j hj]
section
variable {l:List Bd} {s:BA} {k:Nat} {t vs:List BA}
theorem FS (hk:k<l.length) (h:∀ j,j<k->¬ (G l j).var=s) (he:(G l k).var=s):bp (az l) s=(G l k).ac:=by
 unfold bp
 rw[qx,zz hk (λj hj=>by simpa using h j hj) (by simpa using he)]
 rfl
theorem FT (h:∀ j,j<l.length->¬ (G l j).var=s):bp (az l) s=[s]:=by
 unfold bp
 rw[qx,Ej (λj hj=>by simpa using h j hj)]
 rfl
theorem Ry (t vs:List BA):c9 t (cZ vs)=c9 t vs:=by
 have e:kH (cZ vs)=kH vs:=by
  funext out s
  unfold kH
  simp only[Rc]
 unfold c9
 rw[e]
theorem Rx {t vs:List BA}:(c9 t vs).length<=t.length:=by
 have key:∀(t out:List BA),(t.foldl (kH vs) out).length<=out.length+t.length:=by
  intro t
  induction t with
  | nil=>intro out;simp
  | cons s r ih=>
   intro out
   have h1:=ih (kH vs out s)
   have h2:(kH vs out s).length<=out.length+1:=by unfold kH;split<;>simp
   simp only[List.foldl_cons,List.length_cons]
   omega
 simpa [c9]using key t []
end
section
variable {M:BM} {pattern ac:List BA} {k p:Nat}
theorem UL (hk:k<pattern.length) (h:ac.take p=bA M (pattern.take k)) (hp:p<=ac.length) (hb:¬ ((bp M (G pattern k)).length<=ac.length-p/\(ac.take (p+(bp M (G pattern k)).length)).drop p=bp M (G pattern k))):¬ bA M pattern=ac:=by
 intro e
 apply hb
 have e1:bA M pattern=bA M (pattern.take k)++(bp M (G pattern k)++bA M (pattern.drop (k+1))):=by
  rw[<-append_assoc,<-kd hk,<-vj,take_append_drop]
 have hl:(bA M (pattern.take k)).length=p:=by rw[<-h,length_take];omega
 have e2:ac.drop p=bp M (G pattern k)++bA M (pattern.drop (k+1)):=by
  rw[<-e,e1,List.drop_append_of_le_length oz,List.drop_of_length_le oz,List.nil_append]
 constructor
 ·have:=congrArg List.length e2
  rw[List.length_drop,length_append]at this
  omega
 ·rw[List.drop_take,Nat.add_sub_cancel_left,e2,List.take_left]
theorem UK (hk:k<pattern.length) (h:ac.take p=bA M (pattern.take k)) (hb:(ac.take (p+(bp M (G pattern k)).length)).drop p=bp M (G pattern k)):ac.take (p+(bp M (G pattern k)).length)=bA M (pattern.take (k+1)):=by
 have e:=take_append_drop p (ac.take (p+(bp M (G pattern k)).length))
 rw[List.take_take,Nat.min_eq_left (Nat.le_add_right _ _),hb,h]at e
 rw[kd hk]
 exact e.symm
theorem UJ (h:ac.take p=bA M pattern) (hp:p<=ac.length):decide (((p:Nat):Int)=((ac.length:Nat):Int))=decide (bA M pattern=ac):=En h hp
end
section
variable {l:List Bd} {ap wd:List Pr} {us:List BA} {k:Nat} {x:Pr}
theorem Kr (hk:k< (fi l ap us).length) (h:∀ j,j<k->gM wd (G (fi l ap us) j)=false) (hh:gM wd (G (fi l ap us) k)=true):jS l ap us wd=some (G (fi l ap us) k):=zz hk h hh
theorem Kv (h:∀ j,j< (fi l ap us).length->gM wd (G (fi l ap us) j)=false):jS l ap us wd=none:=Ej h
theorem TJ (hk:k<wd.length) (h:da (G wd k)=x):x∈wd.map da:=h▸List.mem_map_of_mem (aE hk)
theorem TK (h:∀ j,j<wd.length->¬ da (G wd j)=x):¬ x∈wd.map da:=λZ=>by
 obtain⟨y,hy,rfl⟩:=mem_map.1 Z
 obtain⟨j,hj,rfl⟩:=ej hy
 exact h j hj rfl
theorem GG (l:List Bd) (us:List BA) (s:BA):c9 (bp (az l) s) us=dr l us s:=(Ry _ _).symm
theorem GH {s:BA} (hl:∀ b∈l,b.ac.length<=2000):(dr l us s).length<=2000:=Nat.le_trans Rx (qo dz hl s)
end
def de (vars:List BA) (wide:List Pr) (g:Fr) (es:List (List BA)):List BA×Int:=match kQ vars wide g es 0 with
 | .ok t=>(t,0)
 | .error c=>([],c)
section
variable {vars:List BA} {wide:List Pr} {g:Fr} {es sk:List (List BA)} {j b:Nat}
theorem Jr (hj:j<g.aa.length) (h:fg g.aa es 0 j=false):de vars wide g es=([],24):=by
 rw[de,kQ,CQ hj h];rfl
theorem Js (hk:∀ j,j<g.aa.length->fg g.aa es 0 j=true) (hj:j<g.aa.length) (h:jK g.aa es 0 (bP g.aa es 0 g.aa.length) j=false):de vars wide g es=([],25):=by
 rw[de,kQ,pJ hk,CQ hj h];rfl
variable (hk:∀ j,j<g.aa.length->fg g.aa es 0 j=true) (hm:∀ j,j<g.aa.length->jK g.aa es 0 (bP g.aa es 0 g.aa.length) j=true)
include hk hm
theorem Jq (h:ca (az (bP g.aa es 0 g.aa.length)) g.ac 2000=false):de vars wide g es=([],15):=by
 rw[de,kQ,pJ hk,pJ hm,h];rfl
theorem Jt (h:ca (az (bP g.aa es 0 g.aa.length)) g.ac 2000=true) (h2:eQ (bP g.aa es 0 g.aa.length) g.apart vars wide=true):de vars wide g es=([],26):=by
 rw[de,kQ,pJ hk,pJ hm,h,h2];rfl
theorem Ju (h:ca (az (bP g.aa es 0 g.aa.length)) g.ac 2000=true) (h2:eQ (bP g.aa es 0 g.aa.length) g.apart vars wide=false):de vars wide g es=(bA (az (bP g.aa es 0 g.aa.length)) g.ac,0):=by
 rw[de,kQ,pJ hk,pJ hm,h,h2];rfl
end
structure Ri where
 ae:BA
 back:Int
 unk:Bool
instance instInhRi:Inhabited Ri:=⟨⟨⟨#[]⟩,0,false⟩⟩
section
variable {f:Fr} {labels:List BA} {ls:List Lt} {k:Nat} {q r:List Ri×List Int} {x:Ri}
end
def dR (d:Db) (i:Nat) (s:BA):Int:=match(d.ab.take i).findIdx? (λf=>decide (f.ae=s))with
 | some k=>(k:Int)
 | none=> -1
section
variable {d:Db} {i k j:Nat} {s:BA} {z:Int}
theorem tG {α:Type} [Inhabited α] {l:List α} (h:j<i):G (l.take i) j=G l j:=by
 simp only[G,getD_eq_getElem?_getD,List.getElem?_take]
 rw[if_pos h]
theorem yD (hi:i<=d.ab.length) (hk:k<i) (h0:∀ j,j<k->¬ (G d.ab j).ae=s) (h:(G d.ab k).ae=s):dR d i s=(k:Int):=by
 have:(d.ab.take i).findIdx? (λf=>decide (f.ae=s))=some k:=by
  rw[List.findIdx?_eq_some_iff_getElem]
  have hl:k< (d.ab.take i).length:=by rw[length_take];omega
  refine⟨hl,?_,λj hj=>?_⟩
  ·rw[<-cF hl,tG hk];simpa using h
  ·rw[<-cF (show j< (d.ab.take i).length by omega),tG oz];simpa using h0 j hj
 rw[dR,this]
theorem yE (h0:∀ j,j<i->¬ (G d.ab j).ae=s):dR d i s= -1:=by
 have:(d.ab.take i).findIdx? (λf=>decide (f.ae=s))=none:=by
  rw[List.findIdx?_eq_none_iff]
  intro x Z
  obtain⟨j,hj,rN,rfl⟩:=Re Z
  simpa using h0 j hj
 rw[dR,this]
 where
  Re {l:List Fr} {x:Fr} {m:Nat} (h:x∈l.take m):∃ i,i<m/\i<l.length/\G l i=x:=by
   obtain⟨i,hi,rfl⟩:=List.getElem_of_mem h
   rw[length_take]at hi
   exact⟨i,oz,oz,by rw[cF oz,List.getElem_take]⟩
theorem vh (h:¬ dR d i s<0):0<=dR d i s/\(dR d i s).toNat<i/\(dR d i s).toNat<d.ab.length:=by
 unfold dR at h ⊢
 split
 ·rename_i k hk
  have h1:=(List.findIdx?_eq_some_iff_getElem.1 hk).1
  rw[length_take]at h1
  exact⟨oz,by rw[Int.toNat_natCast];omega,by rw[Int.toNat_natCast];omega⟩
 ·rename_i hk
  rw[hk]at h
  exact absurd dz h
end
def yd:List hU->Int->List Int
 | [],_=>[]
 | x::r,b=>if x.tagged then b::yd r (b+1)else yd r (b+1)
def JT (f:Fr) (M:List (BA×Int)) (Cb:List Int) (x:hU) (r:Ri):Prop:=
 (r.unk=true/\x.kind=0)∨(r.unk=false/\r.back= -1/\¬ r.ae=⟨#[63]⟩/\x.kind=(ue f M r.ae).kind/\x.ac=(ue f M r.ae).ac/\x.number=(ue f M r.ae).number)∨
 (r.unk=false/\x.kind=4/\0<=x.number/\x.number<Cb.length/\r.back=G Cb x.number.toNat/\0<=r.back)
section
variable {f:Fr} {M:List (BA×Int)} {labels:List BA}
end
def I9 {α:Type} [DecidableEq α] (kids:α->List α):Nat->α->List α->List α
 | 0,_,o=>o
 | f+1,x,o=>if x∈o then o else(kids x).foldl (λo a=>I9 kids f a o) o++[x]
section
variable {α:Type} [DecidableEq α] (kids:α->List α)
variable (r:α->Nat) (hr:∀ x,∀ a∈kids x,r a<r x)
include hr
end
section
variable {α:Type} [DecidableEq α] (kids:α->List α) (r:α->Nat) (hr:∀ x,∀ a∈kids x,r a<r x)
include hr
end
def Qo (ss:List Stp) (i:Nat):List Nat:=((ss[i]?.map Stp.args).getD []).map Int.toNat
def ey (ss:List Stp):Prop:=1<=ss.length/\ss.length<=2000/\∀ i (h:i<ss.length),ss[i].args.length<=40/\∀ a∈ss[i].args,0<=a/\a<i
def post (ss:List Stp):List Nat:=I9 (Qo ss) ss.length (ss.length-1) []
theorem EQ:∀(l:List Stp) (i:Nat),nP i l=0↔ ∀ j (h:j<l.length),l[j].args.length<=40/\∀ a∈l[j].args,0<=a/\a< ((i+j:Nat):Int)
 | [],i=>by simp[nP]
 | s::r,i=>by
  have ih:=EQ r (i+1)
  simp only[nP]
  constructor
  ·intro h
   split at h
   ·simp at h
   split at h
   ·simp at h
   rename_i h1 h2
   intro j hj
   cases j with
   | zero=>
    refine⟨by simp;omega,λa ha=>?_⟩
    have:=h2
    simp only[any_eq_true,not_exists,not_and,Bool.not_eq_true]at this
    have h3:=this a (by simpa using ha)
    simp[kf]at h3
    simp;omega
   | succ j=>
    have h3:=ih.1 h j (by simp at hj;omega)
    refine⟨by simpa using h3.1,λa ha=>?_⟩
    have:=h3.2 a (by simpa using ha)
    omega
  ·intro h
   have h0:=h 0 (by simp)
   simp only[List.getElem_cons_zero]at h0
   rw[if_neg (by omega),if_neg,ih]
   ·intro j hj
    have h1:=h (j+1) (by simp;omega)
    simp only[List.getElem_cons_succ]at h1
    refine⟨h1.1,λa ha=>?_⟩
    have:=h1.2 a ha
    omega
   ·simp only[any_eq_true,not_exists,not_and,Bool.not_eq_true]
    intro a ha
    have:=h0.2 a ha
    simp[kf];omega
theorem tD (ss:List Stp):ft ss=0↔ey ss:=by
 unfold ft ey
 split
 ·simp;omega
 ·rw[EQ]
  simp only[Nat.zero_add]
  constructor
  ·intro h;exact⟨by omega,by omega,h⟩
  ·intro h;exact h.2.2
inductive pA where
 | node (ae:ByteArray) (kids:List pA)
mutual
def flat:pA->Nat->List Stp
 | .node l ks,n=>(ry ks n).1++[⟨l,(ry ks n).2⟩]
def ry:List pA->Nat->List Stp×List Int
 | [],_=>([],[])
 | k::ks,n=>(flat k n++(ry ks (n+(flat k n).length)).1,(((n+(flat k n).length:Nat):Int)-1)::(ry ks (n+(flat k n).length)).2)
end
mutual
def Cg:pA->Nat
 | .node _ ks=>yg ks+1
def yg:List pA->Nat
 | []=>0
 | k::ks=>Cg k+yg ks
end
mutual
theorem NC:∀(t:pA) (n:Nat),(flat t n).length=Cg t
 | .node l ks,n=>by simp[flat,Cg,Ev ks n]
theorem Ev:∀(ks:List pA) (n:Nat),(ry ks n).1.length=yg ks
 | [],n=>rfl
 | k::ks,n=>by simp[ry,yg,NC k n,Ev ks]
end
instance instInhStp:Inhabited Stp:=⟨⟨⟨#[]⟩,[]⟩⟩
def bx (s:Stp):List CD:=[.lit (.string s.ae),bQ s.args]
def aY (l:List Stp):CD:=.sl (l.map bx)
def be (l:List Stp):List CD:=[aY l]
def kX (ss:List Stp) (i:Nat):Int:=if 40< (G ss i).args.length then 4 else if(G ss i).args.any (kf i)then 3 else 0
section
variable {ss:List Stp} {k:Nat}
theorem zN:∀ k,k<=ss.length->(∀ j,j<k->kX ss j=0)->nP 0 ss=nP k (ss.drop k)
 | 0,_,_=>by rw[List.drop_zero]
 | k+1,hk,h=>by
  rw[zN k oz λj hj=>h j oz,List.drop_eq_getElem_cons (by omega:k<ss.length),nP]
  have h1:=h k oz
  unfold kX at h1
  rw[cF (by omega:k<ss.length)]at h1
  split at h1
  ·cases h1
  ·rename_i h2
   rw[if_neg h2]
   split at h1
   ·cases h1
   ·rename_i h3
    rw[if_neg h3]
theorem rC (hn:¬ (ss.length<1∨2000<ss.length)) (hk:k<ss.length) (h:∀ j,j<k->kX ss j=0) (he:¬ kX ss k=0):ft ss=kX ss k:=by
 rw[ft,if_neg hn,zN k oz h,List.drop_eq_getElem_cons hk,nP]
 unfold kX at he ⊢
 rw[cF hk]at he ⊢
 split
 ·rfl
 ·rename_i h2
  rw[if_neg h2]at he
  split
  ·rfl
  ·rename_i h3
   rw[if_neg h3]at he
   exact absurd rfl he
theorem zP (hn:¬ (ss.length<1∨2000<ss.length)) (h:∀ j,j<ss.length->kX ss j=0):ft ss=0:=by
 rw[ft,if_neg hn,zN ss.length aV h,List.drop_length]
 rfl
theorem zQ (hn:ss.length<1∨2000<ss.length):ft ss=4:=by rw[ft,if_pos hn]
end
def dH (d:Db) (z:Int) (ss:List Stp):Int:=if iK d z=0 then ft ss else iK d z
def bg (ahead:List (List BA)) (args:List Int):List (List BA):=args.map λa=>G ahead a.toNat
def cv (d:Db) (i:Nat) (s:Stp) (ahead:List (List BA)):List BA×Int:=
 if s.ae=⟨#[63]⟩then([],27)
 else match cA (G d.ab i) s.ae with
  | some h=>if 0<s.args.length then([],23)else(h.ac,0)
  | none=>if dR d i s.ae<0 then([],22)
   else if s.args.length≠(G d.ab (dR d i s.ae).toNat).aa.length then([],23)
   else de d.vars (G d.ab i).wide (G d.ab (dR d i s.ae).toNat) (bg ahead s.args)
section
variable {d:Db} {i:Nat} {s:Stp} {a:List (List BA)}
theorem IC (h:s.ae=⟨#[63]⟩):cv d i s a=([],27):=by rw[cv,if_pos h]
variable (h0:¬ s.ae=⟨#[63]⟩)
include h0
theorem ID (h:(cA (G d.ab i) s.ae).isSome=true) (h2:0<s.args.length):cv d i s a=([],23):=by
 rw[cv,if_neg h0]
 cases h9:cA (G d.ab i) s.ae with
 | none=>rw[h9]at h;cases h
 | some y=>exact if_pos h2
theorem IE (h:(cA (G d.ab i) s.ae).isSome=true) (h2:¬ 0<s.args.length):cv d i s a=(((cA (G d.ab i) s.ae).getD default).ac,0):=by
 rw[cv,if_neg h0]
 cases h9:cA (G d.ab i) s.ae with
 | none=>rw[h9]at h;cases h
 | some y=>exact if_neg h2
variable (h1:cA (G d.ab i) s.ae=none)
include h1
theorem IA (h2:dR d i s.ae<0):cv d i s a=([],22):=by rw[cv,if_neg h0,h1];exact if_pos h2
variable (h2:¬ dR d i s.ae<0)
include h2
theorem IB (h3:s.args.length≠(G d.ab (dR d i s.ae).toNat).aa.length):cv d i s a=([],23):=by rw[cv,if_neg h0,h1];exact(if_neg h2).trans (if_pos h3)
theorem BU (h3:s.args.length=(G d.ab (dR d i s.ae).toNat).aa.length):cv d i s a=de d.vars (G d.ab i).wide (G d.ab (dR d i s.ae).toNat) (bg a s.args):=by
 rw[cv,if_neg h0,h1];exact(if_neg h2).trans (if_neg λh=>h h3)
end
def dL (d:Db) (i:Nat) (ss:List Stp):Nat->List (List BA)
 | 0=>[]
 | k+1=>dL d i ss k++[(cv d i (G ss k) (dL d i ss k)).1]
def iy (d:Db) (i:Nat) (ss:List Stp) (k:Nat):Int:=(cv d i (G ss k) (dL d i ss k)).2
theorem lx (d:Db) (i:Nat) (ss:List Stp):∀ k,(dL d i ss k).length=k
 | 0=>rfl
 | k+1=>by rw[dL,length_append,lx d i ss k];rfl
def sR (d:Db) (i:Nat) (ss:List Stp):Option Nat:=(List.range ss.length).find? λk=>decide (¬ iy d i ss k=0)
def kO (d:Db) (i:Nat) (ss:List Stp):List (List BA)×(Int×Int):=match sR d i ss with
 | some k=>(dL d i ss k,(iy d i ss k,(k:Int)))
 | none=>(dL d i ss ss.length,if G (dL d i ss ss.length) (ss.length-1)=(G d.ab i).ac then(0,0)else(28,(ss.length:Int)))
section
variable {d:Db} {i k:Nat} {ss:List Stp}
theorem Ch (hk:k<ss.length) (h:∀ j,j<k->iy d i ss j=0) (he:¬ iy d i ss k=0):kO d i ss=(dL d i ss k,(iy d i ss k,(k:Int))):=by
 have:sR d i ss=some k:=by
  rw[sR,List.find?_range_eq_some]
  exact⟨by simpa using he,by simpa using hk,λj hj=>by simpa using h j hj⟩
 rw[kO,this]
theorem pw (h:∀ j,j<ss.length->iy d i ss j=0):kO d i ss=(dL d i ss ss.length,if G (dL d i ss ss.length) (ss.length-1)=(G d.ab i).ac then(0,0)else(28,(ss.length:Int))):=by
 have:sR d i ss=none:=by
  rw[sR,List.find?_range_eq_none]
  intro j hj
  simpa using h j hj
 rw[kO,this]
end
end
section
open Go.ChangeShapes Go.WideShapes Go.ChangeAt Go.RowKit Go.Deep
def IK:List gL:=[.str,wU]
def xt:List gL:=[.sl 40 IK]
theorem Nz {cs:List CD} (h:dQ xt cs):∃ ss:List Stp,cs=be ss:=by
 simp only[xt]at h
 obtain⟨c,rfl,h3⟩:=dQ.one h
 simp only[Fits]at h3
 obtain⟨rows,rfl,_,_,h4⟩:=h3
 obtain⟨xs,rfl⟩:=uJ (f:=bx) (rows:=rows) λr hr=>by
  have h5:=h4 r hr
  simp only[IK,dQ]at h5
  obtain⟨c0,_,rfl,h0,c1,_,rfl,h1,rfl⟩:=h5
  obtain⟨s,rfl⟩:=p9 h0
  obtain⟨xs,rfl,_⟩:=Er h1
  exact⟨⟨s,xs⟩,rfl⟩
 exact⟨xs,rfl⟩
section
variable {H:Type} {enc:TypeId×Value->H} {W:World}
set_option maxRecDepth 100000 in
theorem L6:nL prog 10 28=some xt:=by kernel_rfl
set_option maxRecDepth 100000 in
theorem GS {r:Reach} {b0:Nat} {v:Value} {d:DataW H} {ps:List MemPlace} (ei:Value.okWide prog W r b0 28 v) (h:DataW.Trod enc prog W 0 (λ_=>true) true 28 v d ps) (hw:pE 28 d):∃ ss:List Stp,Rel All W (.agg (be ss)) v:=by
 simp only[Value.okWide,underlying28]at ei
 obtain⟨cs,rfl,hsz,_⟩:=ei
 obtain⟨n,hn⟩:=h
 obtain⟨ki,h1,h2⟩:=uF 10 28 xt L6 n _ _ hn hw
 obtain⟨ss,rfl⟩:=Nz h1
 refine⟨ss,?_⟩
 simp only[Rel]
 exact⟨cs.toList,by simp,by simpa [Value.cells]using h2⟩
end
end
section
section
variable {ss:List Stp} {k j n:Nat}
end
theorem zV {ss:List Stp} {k:Nat} (h:40< (G ss k).args.length):kX ss k=4:=if_pos h
theorem zU {ss:List Stp} {k:Nat} (h:¬ 40< (G ss k).args.length) (hb:((G ss k).args.any (kf k))=true):kX ss k=3:=(if_neg h).trans (if_pos hb)
theorem zW {ss:List Stp} {k:Nat} (h:¬ 40< (G ss k).args.length) (hb:((G ss k).args.any (kf k))=false):kX ss k=0:=(if_neg h).trans (if_neg (by simp[hb]))
theorem C1 {ss:List Stp} {k q:Nat} (hq:q< (G ss k).args.length) (h:kf k (G (G ss k).args q)=true):((G ss k).args.any (kf k))=true:=any_eq_true.2 ⟨_,aE hq,h⟩
theorem C2 {ss:List Stp} {k:Nat} (h:∀ q,q< (G ss k).args.length->kf k (G (G ss k).args q)=false):((G ss k).args.any (kf k))=false:=any_eq_false.2 λx Z=>by
 obtain⟨q,hq,rfl⟩:=ej Z
 simp[h q hq]
theorem um {ss:List Stp} (bw:ey ss) {k j:Nat} (hk:k<ss.length) (hj:j< (G ss k).args.length):0<=G (G ss k).args j/\G (G ss k).args j< (k:Int):=by
 rw[cF hk]at hj ⊢
 exact(bw.2.2 k hk).2 _ (aE hj)
theorem xk {ss:List Stp} (bw:ey ss) {k:Nat} (hk:k<ss.length):(G ss k).args.length<=40:=by
 rw[cF hk];exact(bw.2.2 k hk).1
section
variable {ss:List Stp} {i j m:Nat}
end
section
variable {d:Db} {z:Int} {ss:List Stp}
theorem nK (h:dH d z ss=0):iK d z=0/\ft ss=0:=by
 unfold dH at h
 split at h
 ·exact⟨by assumption,h⟩
 ·exact absurd h (by assumption)
theorem Ra {α β:Type} [Inhabited α] {f:α->β} {l:List α} {k:Nat} (h:k<l.length):(l.take (k+1)).map f=(l.take k).map f++[f (G l k)]:=by
 rw[dF h,map_append];rfl
end
section
variable {d:Db} {i:Nat} {t:List BA}
section
variable {f:Fr}
variable (h0:s7 t=true)
include h0
variable (h2:¬ (F7 t).2.2=20)
include h2
variable (h3:(f.aa.any λh=>decide (h.ae∈LW t))=false)
include h3
variable (h4:¬ (F7 t).2.2=21)
include h4
end
end
section
variable {d:Db} {i:Nat} {r:Ri} {x:hU} {gv sk tg:List (List BA)} {Cb:List Int}
end
section
variable {fs:List Fr} {vars:List BA} {f:Fr} {xs:List hU}
structure Rs where
 sk:List (List BA)
 n:Nat
 kn:Bool
 v:Int×Int
instance instInhRs:Inhabited Rs:=⟨⟨[],0,false,(0,0)⟩⟩
def US (m:Ms):Rs:=⟨m.sk,m.n,m.kn,m.v⟩
end
structure JU (d:Db) (i:Nat) (t:List BA) (n:Nat) (sk gv:List (List BA)):Prop where
 le:n<=(me d i t).length
 st:US (xM d.ab d.vars (G d.ab i) (me d i t) n (A6 d i t))=⟨sk,n,decide (n=(me d i t).length),if n=(me d i t).length then D5 (G d.ab i) sk n else(0,0)⟩
 tg:(xM d.ab d.vars (G d.ab i) (me d i t) n (A6 d i t)).tg=(yd ((me d i t).take n) 0).map λz=>G gv z.toNat
 gl:gv.length=n
 inv:JP (me d i t) (xM d.ab d.vars (G d.ab i) (me d i t) n (A6 d i t))
section
variable {d:Db} {i n:Nat} {t:List BA} {sk gv:List (List BA)} {r:Ri}
variable (hI:JU d i t n sk gv) (hn:n< (me d i t).length)
include hI hn
variable (hc:dG d=0) (hi:i<d.ab.length) (hr:JT (G d.ab i) (Bb (d.ab.take i)) (yd ((me d i t).take n) 0) (G (me d i t) n) r)
include hc hi hr
end
section
variable {d:Db} {i n most:Nat} {t:List BA} {sk gv:List (List BA)} {r:Ri}
end
section
variable {d:Db} {i n most:Nat} {t:List BA} {sk gv:List (List BA)} {r:Ri}
end
section
variable {d:Db} {i k j:Nat} {s:Stp} {a es:List (List BA)} {ag:List Int} {ss:List Stp} {vars:List BA} {wide:List Pr} {g:Fr}
theorem rt:(bg a ag).length=ag.length:=by simp[bg]
theorem ti (hj:j<ag.length):G (bg a ag) j=G a (G ag j).toNat:=by
 rw[cF (by rw[rt];exact hj),cF hj];simp[bg]
theorem zu {p:List BA->Prop} (h:∀ t∈a,p t) (hb:∀ j,j<ag.length->0<=G ag j/\G ag j< (a.length:Int)):∀ t∈bg a ag,p t:=λt ht=>by
 obtain⟨j,hj,rfl⟩:=ej ht
 rw[rt]at hj
 have:=hb j hj
 rw[ti hj]
 exact h _ (aE oz)
theorem MX (hj:j<ag.length):bg a (ag.take (j+1))=bg a (ag.take j)++[G a (G ag j).toNat]:=by rw[bg,bg,Ra hj]
theorem WJ {c:Int} (h:kQ vars wide g es 0= .error c):¬ c=0:=by
 unfold kQ at h
 split at h
 ·injection h with h;omega
 split at h
 ·injection h with h;omega
 split at h
 ·injection h with h;omega
 split at h
 ·injection h with h;omega
 ·cases h
theorem WL (hg:ul g) (h:(de vars wide g es).2=0):1<=(de vars wide g es).1.length/\(de vars wide g es).1.length<=2000:=by
 unfold de at h ⊢
 cases h9:kQ vars wide g es 0 with
 | ok t=>exact WM hg h9
 | error c=>rw[h9]at h;exact absurd h (WJ h9)
theorem VV (hc:dG d=0) (hi:i<d.ab.length) (h:(cv d i s a).2=0):1<=(cv d i s a).1.length/\(cv d i s a).1.length<=2000:=by
 unfold cv at h ⊢
 split at h
 ·cases h
 rename_i h0
 rw[if_neg h0]
 cases h9:cA (G d.ab i) s.ae with
 | some y=>
  rw[h9]at h
  simp only at h ⊢
  split at h
  ·cases h
  rename_i h1
  rw[if_neg h1]
  exact(pS hc _ (aE hi)).2.2 y (List.mem_of_find?_eq_some h9)
 | none=>
  rw[h9]at h
  simp only at h ⊢
  split at h
  ·cases h
  rename_i h1
  rw[if_neg h1]
  split at h
  ·cases h
  rename_i h2
  rw[if_neg h2]
  exact WL (pS hc _ (aE (vh h1).2.2)).2.1 h
theorem rA (hc:dG d=0) (hi:i<d.ab.length):∀ k,(∀ j,j<k->iy d i ss j=0)->∀ t∈dL d i ss k,1<=t.length/\t.length<=2000
 | 0,_,t,ht=>by simp[dL]at ht
 | k+1,h,t,ht=>by
  rw[dL]at ht
  rcases mem_append.1 ht with ht | ht
  ·exact rA hc hi k (λj hj=>h j oz) t ht
  ·rw[mem_singleton.1 ht]
   exact VV hc hi (h k oz)
theorem Nk {z:BA} (hi:i<=d.ab.length) (h:bR d z<0∨(i:Int)<=bR d z):dR d i z= -1:=yE λj hj e=>by
 have h1:¬ cH (λf=>decide (f.ae=z)) d.ab= -1:=λe1=>by
  have e2:d.ab.findIdx? (λf=>decide (f.ae=z))=none:=by
   unfold cH at e1
   cases h9:d.ab.findIdx? (λf=>decide (f.ae=z))with
   | none=>rfl
   | some q=>rw[h9]at e1;simp only at e1;omega
  have e3:=List.findIdx?_eq_none_iff.1 e2 _ (aE (show j<d.ab.length by omega))
  simp[e]at e3
 obtain⟨h2,h3,h4,h5⟩:=pf h1
 have h6:bR d z=cH (λf=>decide (f.ae=z)) d.ab:=rfl
 rw[h6]at h
 have h7:=h5 j oz
 simp[e]at h7
theorem Ei {z:BA} (hi:i<=d.ab.length) (h:¬ bR d z<0) (h0:bR d z< (i:Int)):dR d i z=bR d z:=by
 have h6:bR d z=cH (λf=>decide (f.ae=z)) d.ab:=rfl
 obtain⟨h2,h3,h4,h5⟩:=pf (p:=λf=>decide (f.ae=z)) (xs:=d.ab) (by rw[<-h6];omega)
 rw[<-h6]at h2 h3 h4 h5
 rw[yD (k:=(bR d z).toNat) hi oz (λj hj e=>by have:=h5 j hj;simp[e]at this) (by simpa using h4)]
 omega
theorem GM (bw:ey ss) (hk:k<ss.length):∀ j,j< (G ss k).args.length->0<=G (G ss k).args j/\G (G ss k).args j< (k:Int):=λ_ hj=>um bw hk hj
def aZ (d:Db) (z:Int) (ss:List Stp):List (List BA)×(Int×Int):=if dH d z ss=0 then kO d z.toNat ss else([],(0,0))
theorem rv:iy d i ss k=(cv d i (G ss k) (dL d i ss k)).2:=rfl
theorem EG:dL d i ss (k+1)=dL d i ss k++[(cv d i (G ss k) (dL d i ss k)).1]:=rfl
end
structure bZ where
 dN:Int
 step:Int
 ae:BA
 args:List Int
 before:Int
 after:Int
instance instInhChg:Inhabited bZ:=⟨⟨0,0,ByteArray.empty,[],0,0⟩⟩
def cm (c:bZ):List CD:=[.lit (.int .i64 c.dN),.lit (.int .i64 c.step),.lit (.string c.ae),bQ c.args,.lit (.int .i64 c.before),.lit (.int .i64 c.after)]
def gB (l:List bZ):CD:=.sl (l.map cm)
def iU (m:List Bool) (al:List Int):List Bool:=al.foldl (λm a=>m.set a.toNat true) m
def lG (ss:List Stp) (m:List Bool) (i:Nat):List Bool:=if G m i then iU m (G ss i).args else m
def A3 (n:Nat):List Bool:=(List.replicate n false).set (n-1) true
def jb (ss:List Stp):Nat->List Bool
 | 0=>A3 ss.length
 | k+1=>lG ss (jb ss k) (ss.length-1-k)
def fW (ss:List Stp):List Bool:=jb ss ss.length
def gO (m:List Bool):Nat:=(m.filter id).length
def mj (to:List Int) (al:List Int):List Int:=al.map λa=>G to a.toNat
def et (ss:List Stp) (m:List Bool):Nat->List Int×List Stp
 | 0=>(List.replicate ss.length 0,[])
 | k+1=>if G m k then((et ss m k).1.set k ((et ss m k).2.length:Int),(et ss m k).2++[⟨(G ss k).ae,mj ((et ss m k).1.set k ((et ss m k).2.length:Int)) (G ss k).args⟩])else et ss m k
def jt (ss:List Stp):List Stp:=(et ss (fW ss) ss.length).2
def dd (ss:List Stp):Nat:=gO (fW ss)
def jM (c:bZ) (s:Stp):Stp:=⟨s.ae,s.args.map λa=>if a=c.step then G c.args 0 else a⟩
def cw (ss:List Stp) (c:bZ):List Stp:=
 if c.dN=2 then jt (ss.set c.step.toNat ⟨c.ae,c.args⟩)
 else if c.step=(ss.length:Int)-1 then jt ((ss.map (jM c)).take (G c.args 0+1).toNat)
 else jt (ss.map (jM c))
def ii (ss:List Stp) (c:bZ):bZ:= { c with before:=(dd ss:Int),after:=((cw ss c).length:Int) }
def f4 (ss:List Stp) (c:bZ):Option bZ:=if(cw ss c).length<dd ss then some (ii ss c)else none
theorem A4:∀(al:List Int) (m:List Bool),(iU m al).length=m.length
 | [],m=>rfl
 | a::al,m=>by rw[iU,List.foldl_cons];exact(A4 al _).trans yz
theorem Gs (ss:List Stp) (m:List Bool) (i:Nat):(lG ss m i).length=m.length:=by
 unfold lG;split
 ·exact A4 _ _
 ·rfl
theorem A5 (ss:List Stp):∀ k,(jb ss k).length=ss.length
 | 0=>by simp[jb,A3]
 | k+1=>by rw[jb,Gs,A5 ss k]
theorem xg (ss:List Stp):(fW ss).length=ss.length:=A5 ss _
theorem DM (m:List Bool):gO m<=m.length:=List.length_filter_le _ _
theorem Vp (ss:List Stp):dd ss<=ss.length:=Nat.le_trans (DM _) (Nat.le_of_eq (xg ss))
def cQ (d:Db) (z:Int) (ss:List Stp):Int:=if dH d z ss=0 then(if(aZ d z ss).2.1=0 then 0 else 13)else dH d z ss
section
variable (R:List Stp->Int) (A:List Stp->List bZ)
end
end
section
open Go.ChangeShapes Go.WideShapes Go.ChangeAt Go.RowKit Go.Deep
def vG:List gL:=[.int .i64,.int .i64,.str,wU,.int .i64,.int .i64]
theorem Nv {cs:List CD} (h:dQ vG cs):∃ c:bZ,cs=cm c:=by
 simp only[vG,dQ]at h
 obtain⟨c0,_,rfl,h0,c1,_,rfl,h1,c2,_,rfl,h2,c3,_,rfl,h3,c4,_,rfl,h4,c5,_,rfl,h5,rfl⟩:=h
 obtain⟨n0,rfl,_⟩:=tt h0
 obtain⟨n1,rfl,_⟩:=tt h1
 obtain⟨s,rfl⟩:=p9 h2
 obtain⟨xs,rfl,_⟩:=Er h3
 obtain⟨n4,rfl,_⟩:=tt h4
 obtain⟨n5,rfl,_⟩:=tt h5
 exact⟨⟨n0,n1,s,xs,n4,n5⟩,rfl⟩
section
variable {H:Type} {enc:TypeId×Value->H} {W:World}
end
def DI:gL:=.sl 72 vG
section
variable {H:Type} {enc:TypeId×Value->H} {W:World}
set_option maxRecDepth 100000 in
theorem L4:nL prog 10 48=some [DI]:=by kernel_rfl
set_option maxRecDepth 100000 in
theorem RT {r:Reach} {b0:Nat} {v:Value} {d:DataW H} {ps:List MemPlace} (ei:Value.okWide prog W r b0 48 v) (h:DataW.Trod enc prog W 0 (λ_=>true) true 48 v d ps) (hw:pE 48 d):∃ xs:List bZ,Rel All W (.rd (gB xs)) v:=by
 obtain⟨n,hn⟩:=h
 obtain⟨ki,h1,h2⟩:=uF 10 48 [DI] L4 n _ _ hn hw
 obtain⟨c,rfl,h3⟩:=dQ.one h1
 obtain⟨xs,rfl,_⟩:=wi (p:=λ_:bZ=>True) (f:=cm) (λ_ h=>by obtain⟨x,Z⟩:=Nv h;exact⟨⟨x,trivial⟩,Z⟩) (show Fits (.sl 72 vG) c from h3)
 refine⟨xs,?_⟩
 cases v with
 | agg cs=>simp[Value.okWide,Cell.okWide,Cell.ok,underlying48]at ei
 | tuple cs=>simp[Value.okWide,Cell.okWide,Cell.ok,underlying48]at ei
 | _=>simp only[Rel];exact h2.1
end
end
end Go.Proofs.YtdfadihhfppjaaaGreatDoor
