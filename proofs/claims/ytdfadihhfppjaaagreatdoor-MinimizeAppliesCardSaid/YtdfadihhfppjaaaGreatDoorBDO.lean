/-
  Part of the proof that MinimizeApplies returns true. Conditions: none.
-/
import Derived.Test.YtdfadihhfppjaaaGreatDoorBDN
import Derived.Lib.Join
namespace Go.Proofs.YtdfadihhfppjaaaGreatDoor
open List (all_eq_true any_eq_false any_eq_true append_assoc getD_eq_getElem?_getD length_append length_take map_append mem_append mem_append_left mem_map mem_singleton take_append_drop)
section
def fQ {α:Type} (x y:α) (k:Nat):α:=if k=0 then x else y
structure Lt where
 number:Int
 tagged:Bool
instance instInhLt:Inhabited Lt:=⟨⟨0,false⟩⟩
structure gR where
 kind:Int
 ac:List BA
 number:Int
 tagged:Bool
instance instInhItm:Inhabited gR:=⟨⟨0,[],0,false⟩⟩
def kL (p:Int×Int):List CD:=[.lit (.int .i64 p.1),.lit (.int .i64 p.2)]
def jV:List UInt8->Int->Bool->List Lt×Bool
 | [],_,inside=>([],inside)
 | b::r,n,inside=>
  if decide (85<=b.toNat)&&decide (b.toNat<=89)then
   if 1000000<5*n+((b.toNat:Int)-85)+1 then([],true)else jV r (5*n+((b.toNat:Int)-85)+1) true
  else if decide (65<=b.toNat)&&decide (b.toNat<=84)then
   if 1000000<20*n+((b.toNat:Int)-65)+1 then([],true)
   else match r with
    | []=>([⟨20*n+((b.toNat:Int)-65)+1,false⟩],false)
    | c::r'=>if c.toNat=90 then(⟨20*n+((b.toNat:Int)-65)+1,true⟩::(jV r' 0 false).1,(jV r' 0 false).2)
     else(⟨20*n+((b.toNat:Int)-65)+1,false⟩::(jV (c::r') 0 false).1,(jV (c::r') 0 false).2)
  else if decide (b.toNat=63)&& !inside then(⟨0,false⟩::(jV r n inside).1,(jV r n inside).2)
  else([],true)
 termination_by l=>l.length
def qe (s:BA):List Lt×Bool:=jV s.data.toList 0 false
section
variable {D:List UInt8} {p:Nat} {n:Int} {ins:Bool} (h:p<D.length)
include h
variable (h1:¬ (85<=(G D p).toNat/\(G D p).toNat<=89))
include h1
variable (h2:¬ (65<=(G D p).toNat/\(G D p).toNat<=84))
include h2
end
def AW (fs:List Fr):List (BA×Int):=fs.zipIdx.foldl (λm p=>cl m p.1.ae (p.2:Int)) []
def cy (f:Fr) (ae:BA):Option Hy:=(f.aa++f.bA).find? λh=>decide (h.ae=ae)
theorem vZ {α:Type} [Inhabited α] (x:α) (l:List α):G (x::l) 0=x:=rfl
theorem vY {α:Type} [Inhabited α] (x:α) (l:List α) (k:Nat):G (x::l) (k+1)=G l k:=by simp[G]
theorem Ap {f:Fr} {s:BA} {k j:Nat} (hk:k<2) (h1:∀ i,i<k->∀ h∈fQ f.aa f.bA i,¬ h.ae=s) (hj:j< (fQ f.aa f.bA k).length) (h2:∀ i,i<j->¬ (G (fQ f.aa f.bA k) i).ae=s) (h3:(G (fQ f.aa f.bA k) j).ae=s):cy f s=some (G (fQ f.aa f.bA k) j):=by
 have key:∀(l:List Hy) (j:Nat),j<l.length->(∀ i,i<j->¬ (G l i).ae=s)->(G l j).ae=s->l.find? (λh=>decide (h.ae=s))=some (G l j):=by
  intro l
  induction l with
  | nil=>intro j hj;simp at hj
  | cons x r ih=>
   intro j hj h2 h3
   cases j with
   | zero=>simp only[vZ]at h3 ⊢;simp[h3]
   | succ j=>
    have h4:=h2 0 oz
    simp only[vZ,vY]at h3 h4 ⊢
    rw[List.find?_cons_of_neg (by simpa using h4)]
    exact ih j (by simpa using hj) (λi hi=>by have:=h2 (i+1) oz;simpa only[vY]using this) h3
 unfold cy
 rw[List.find?_append]
 match k,hk with
 | 0,_=>simp only[fQ,if_pos]at hj h2 h3 ⊢;rw[key _ _ hj h2 h3];rfl
 | 1,_=>
  simp only[fQ,if_neg (show ¬ (1:Nat)=0 by omega)]at hj h2 h3 ⊢
  rw[List.find?_eq_none.2 λx Z=>by simpa using h1 0 oz x (by simpa [fQ]using Z),key _ _ hj h2 h3];rfl
theorem Ao {f:Fr} {s:BA} (h1:∀ i,i<2->∀ h∈fQ f.aa f.bA i,¬ h.ae=s):cy f s=none:=by
 unfold cy
 rw[List.find?_eq_none]
 intro x Z
 rcases mem_append.1 Z with Z | Z
 · simpa using h1 0 oz x (by simpa [fQ]using Z)
 · simpa using h1 1 oz x (by simpa [fQ]using Z)
theorem VJ {f:Fr} {k:Nat} {x:Hy} (h:x∈fQ f.aa f.bA k):x∈f.aa++f.bA:=by
 unfold fQ at h
 split at h<;>simp[h]
def tW (f:Fr) (M:List (BA×Int)) (ae:BA):gR:=
 if decide (ae=(⟨#[63]⟩:BA))then⟨0,[],0,false⟩
 else match cy f ae with
  | some h=>⟨1,h.ac,0,false⟩
  | none=>match aw M ae with
   | some n=>⟨2,[],n,false⟩
   | none=>⟨3,[],0,false⟩
section
variable {f:Fr} {M:List (BA×Int)} {s:BA}
end
def sQ (l:List BA):Bool:=decide (0<l.length)&&decide (G l 0=(⟨#[40]⟩:BA))
def FA (s x:BA):Bool:=decide (s=x)
def qc (l:List BA) (s:BA):BA:=⟨(Lib.join (l.map (·.data.toList)) s.data.toList).toArray⟩
def w9 (proof:List BA):Option (List BA×BA):=
 let k:=cH (FA ⟨#[41]⟩) proof
 if k<0 then none
 else if((proof.take k.toNat).drop 1).any λw=>!fW w then none
 else some ((proof.take k.toNat).drop 1,qc (proof.drop (k.toNat+1)) ⟨#[]⟩)
def xO (l:List BA):Bool:=(List.range l.length).any λj=>decide (G l j∈l.take j)
def PL (f:Fr) (M:List (BA×Int)) (labels:List BA) (tags:Nat) (l:Lt):Option gR:=
 if l.number=0 then some ⟨0,[],0,l.tagged⟩
 else if l.number<=f.aa.length then some ⟨1,(G f.aa (l.number-1).toNat).ac,0,l.tagged⟩
 else if l.number<=((f.aa.length+labels.length:Nat):Int)then some { tW f M (G labels (l.number-1-f.aa.length).toNat)with tagged:=l.tagged }
 else if l.number<=((f.aa.length+labels.length+tags:Nat):Int)then some ⟨4,[],l.number-1-f.aa.length-labels.length,l.tagged⟩
 else none
def At (f:Fr) (M:List (BA×Int)) (labels:List BA):List Lt->Nat->Option (List gR)
 | [],_=>some []
 | l::r,tags=>match PL f M labels tags l with
  | none=>none
  | some x=>match At f M labels r (if l.tagged then tags+1 else tags)with
   | none=>none
   | some xs=>some (x::xs)
def HQ (f:Fr) (M:List (BA×Int)) (proof:List BA):Except Int (List gR):=
 if !sQ proof then if 2000<proof.length then .error 10 else .ok (proof.map (tW f M))
 else match w9 proof with
  | none=>.error 20
  | some (labels,ac)=>
   if xO labels||labels.any λs=>f.aa.any λh=>decide (h.ae=s)then .error 20
   else match At f M labels (qe ac).1 0 with
    | none=>.error 21
    | some xs=>if(qe ac).2 then .error 21 else if 2000<xs.length then .error 10 else .ok xs
def kN (hs:List Hy) (sk:List (List BA)) (b j:Nat):Option Bd:=if(G hs j).be then some ⟨G (G hs j).ac 1,(G sk (b+j)).drop 1⟩else none
def bO (hs:List Hy) (sk:List (List BA)) (b k:Nat):List Bd:=(List.range k).filterMap (kN hs sk b)
def fc (hs:List Hy) (sk:List (List BA)) (b j:Nat):Bool:=!(G hs j).be||decide (G (G sk (b+j)) 0=G (G hs j).ac 0)
def jA (hs:List Hy) (sk:List (List BA)) (b:Nat) (l:List Bd) (j:Nat):Bool:=(G hs j).be||lN (G hs j).ac l (G sk (b+j))
def kJ (vars:List BA) (wide:List Pr) (g:Fr) (sk:List (List BA)) (b:Nat):Except Int (List BA):=
 if !(List.range g.aa.length).all (fc g.aa sk b)then .error 24
 else if !(List.range g.aa.length).all (jA g.aa sk b (bO g.aa sk b g.aa.length))then .error 25
 else if !b7 (ay (bO g.aa sk b g.aa.length)) g.ac 2000 then .error 15
 else if eL (bO g.aa sk b g.aa.length) g.apart vars wide then .error 26
 else .ok (bz (ay (bO g.aa sk b g.aa.length)) g.ac)
def VZ (vars:List BA) (wide:List Pr) (g:Fr) (sk:List (List BA)):Except Int (List (List BA)):=
 if sk.length<g.aa.length then .error 23
 else match kJ vars wide g sk (sk.length-g.aa.length)with
  | .error c=>.error c
  | .ok t=>.ok (sk.take (sk.length-g.aa.length)++[t])
theorem sG (hs:List Hy) (sk:List (List BA)) (b k:Nat):bO hs sk b (k+1)=bO hs sk b k++(kN hs sk b k).toList:=by
 unfold bO
 rw[List.range_succ,List.filterMap_append]
 cases h:kN hs sk b k<;>simp[h]
theorem u7 (hs:List Hy) (sk:List (List BA)) (b k:Nat):(bO hs sk b k).length<=k:=by
 unfold bO
 have:=List.length_filterMap_le (kN hs sk b) (List.range k)
 simpa using this
theorem u9 {hs:List Hy} {sk:List (List BA)} {b k m:Nat} (hm:∀ t∈sk,t.length<=m) (hb:b+k<=sk.length):∀ x∈bO hs sk b k,x.ac.length<=m:=by
 intro x Z
 obtain⟨j,hj,he⟩:=List.mem_filterMap.1 Z
 have hj:j<k:=by simpa using hj
 unfold kN at he
 split at he
 · cases he
   have:=hm _ (aC (xs:=sk) (k:=b+j) oz)
   simp only[List.length_drop]
   omega
 · cases he
theorem pw {p:Nat->Bool} {k:Nat} (h:∀ j,j<k->p j=true):(List.range k).all p=true:=all_eq_true.2 λj hj=>h j (by simpa using hj)
theorem CA {p:Nat->Bool} {k j:Nat} (hj:j<k) (h:p j=false):(List.range k).all p=false:=List.all_eq_false.2 ⟨j,by simpa using hj,by simp[h]⟩
section
variable {vars:List BA} {wide:List Pr} {g:Fr} {sk:List (List BA)} {j:Nat}
variable (h0:¬ sk.length<g.aa.length) (hk:∀ j,j<g.aa.length->fc g.aa sk (sk.length-g.aa.length) j=true) (hm:∀ j,j<g.aa.length->jA g.aa sk (sk.length-g.aa.length) (bO g.aa sk (sk.length-g.aa.length) g.aa.length) j=true)
include h0 hk hm
end
def PU (fs:List Fr) (vars:List BA) (f:Fr) (sk tg:List (List BA)) (x:gR):Except Int (List (List BA)):=
 if x.kind=1 then .ok (sk++[x.ac])
 else if x.kind=2 then VZ vars f.wide (G fs x.number.toNat) sk
 else if x.kind=4 then .ok (sk++[G tg x.number.toNat])
 else if x.kind=0 then .error 27 else .error 22
def DL (f:Fr) (sk:List (List BA)) (k:Nat):Int×Int:=
 if sk.length≠1 then(23,(k:Int))else if !decide (G sk 0=f.ac)then(28,(k:Int))else(0,0)
structure Ms where
 sk:List (List BA)
 tg:List (List BA)
 n:Nat
 kn:Bool
 v:Int×Int
 did:Bool
def DM (f:Fr) (len:Nat) (m:Ms):Ms:=if m.n<len then m else { m with kn:=true,v:=DL f m.sk m.n }
def Vf (fs:List Fr) (vars:List BA) (f:Fr) (xs:List gR) (m:Ms):Ms:=
 if m.kn then { m with did:=false }
 else match PU fs vars f m.sk m.tg (G xs m.n)with
  | .error c=> { m with kn:=true,v:=(c,(m.n:Int)),did:=false }
  | .ok s=>DM f xs.length ⟨s,if(G xs m.n).tagged=true then m.tg++[G s ((s.length:Int)-1).toNat]else m.tg,m.n+1,m.kn,m.v,true⟩
section
variable {fs:List Fr} {vars:List BA} {f:Fr} {xs:List gR} {sk tg s:List (List BA)} {n:Nat} {kn:Bool} {v:Int×Int} {b:Bool} {c:Int}
end
def okF (g:Fr):Prop:=g.aa.length<=2000/\∀ h∈g.aa,h.be=true->h.ac.length=2
def xo (fs:List Fr) (vars:List BA) (f:Fr) (xs:List gR):Nat->Ms->Ms
 | 0,m=>m
 | k+1,m=>xo fs vars f xs k (Vf fs vars f xs m)
def Iu (f:Fr) (r:Except Int (List gR)):List gR×Ms:=
 match r with
 | .error c=>([],⟨[],[],0,true,(c,0),true⟩)
 | .ok xs=>(xs,DM f xs.length ⟨[],[],0,false,(0,0),true⟩)
def iw (d:Db) (z:Int):Int:=if ¬ dy d=0 then dy d else if z<0∨(d.ab.length:Int)<=z then 5 else 0
def t8 (g:Fr):Prop:=0<g.ac.length/\∀ h∈g.aa,h.be=true->¬ G h.ac 1=G g.ac 0
theorem JD {g:Fr} (hg:t8 g) (sk:List (List BA)) (b:Nat):1<=(bz (ay (bO g.aa sk b g.aa.length)) g.ac).length:=by
 obtain⟨h0,h1⟩:=hg
 have h2:aw (ay (bO g.aa sk b g.aa.length)) (G g.ac 0)=none:=by
  rw[qh,List.find?_eq_none.2,Option.map_none]
  intro x Z
  obtain⟨j,hj,he⟩:=List.mem_filterMap.1 Z
  have hj:j<g.aa.length:=by simpa using hj
  unfold kN at he
  split at he
  · rename_i hf
    cases he
    simpa using h1 _ (aC hj) hf
  · cases he
 have h3:=j5 (M:=ay (bO g.aa sk b g.aa.length)) h0
 have h4:=px (ay (bO g.aa sk b g.aa.length)) g.ac 1
 rw[h3,length_append]at h4
 simp only[bg,h2,List.length_singleton]at h4
 omega
def Vv (xs:List gR) (k:Nat):Nat:=((xs.take k).filter (·.tagged)).length
structure Jp (xs:List gR) (m:Ms):Prop where
 sk:∀ t∈m.sk,1<=t.length/\t.length<=2000
 tg:∀ t∈m.tg,1<=t.length/\t.length<=2000
 XA:m.sk.length<=m.n
 XB:m.tg.length=Vv xs m.n
 n:m.n<=xs.length
 kn:m.kn=false->m.n<xs.length
theorem V1 {vars:List BA} {wide:List Pr} {g:Fr} {sk:List (List BA)} {b:Nat} {t:List BA} (hg:t8 g) (h:kJ vars wide g sk b= .ok t):1<=t.length/\t.length<=2000:=by
 unfold kJ at h
 split at h
 · cases h
 split at h
 · cases h
 split at h
 · cases h
 split at h
 · cases h
 · rename_i h3 _
   injection h with h
   subst h
   simp only[b7,Bool.not_eq_true',decide_eq_false_iff_not,Nat.not_le,Nat.not_lt]at h3
   exact⟨JD hg sk b,h3⟩
def zI (f:Fr):Prop:=∀ h∈f.aa++f.bA,1<=h.ac.length/\h.ac.length<=2000
section
variable {fs:List Fr} {vars:List BA} {f:Fr} {xs:List gR} {m:Ms}
end
def l3 (d:Db) (n:Nat) (t:List BA):List gR:=(Iu (G d.ab n) (HQ (G d.ab n) (AW (d.ab.take n)) t)).1
def AO (d:Db) (n:Nat) (t:List BA):Ms:=(Iu (G d.ab n) (HQ (G d.ab n) (AW (d.ab.take n)) t)).2
section
variable {fs:List Fr} {vars:List BA} {f:Fr} {xs:List gR} {m:Ms}
end
section
variable {d:Db}
theorem pE (h:dy d=0):∀ k,k<d.ab.length->dB d k=0:=by
 unfold dy at h
 split at h
 · cases h
 split at h
 · rename_i h2
   rw[h]at h2
   simp at h2
 · exact lM h
theorem yK (h:dy d=0):ec d=0:=by
 unfold dy at h
 split at h
 · cases h
 split at h
 · rename_i h2
   rw[h]at h2
   simp at h2
 · rename_i h2
   simpa using h2
theorem Vu (h:ec d=0):∀ v∈d.vars,¬ v∈d.bH:=by
 unfold ec at h
 split at h
 · rename_i h2
   rw[h]at h2
   simp at h2
 · intro v hv hc
   obtain⟨j,hj,rfl⟩:=ee hv
   have:=lM h j hj
   unfold iM at this
   split at this
   · cases this
   split at this
   · cases this
   · rename_i h3
     simp[hc]at h3
theorem Pp {k:Nat} {y:Hy} {bs:List Hy} {dm:Bool} (h:eN d k y bs dm=0):(1<=y.ac.length/\y.ac.length<=200)/\(y.be=true->y.ac.length=2/\G y.ac 1∈d.vars):=by
 have h1:=rL h
 unfold eN at h
 split at h
 · cases h
 split at h
 · cases h
 split at h
 · cases h
 split at h
 · cases h
 rename_i h4
 have h5:y.be=true->y.ac.length=2/\G y.ac 1∈d.vars:=λhf=>⟨im h1 hf,by simp[oF,hf]at h4;exact h4.2⟩
 refine⟨?_,h5⟩
 cases hf:y.be with
 | true=>have:=(h5 hf).1;omega
 | false=>simp[gY,hf]at h1;have:=List.length_pos_iff.2 h1.2.1;omega
theorem NF (hs:ec d=0) {k:Nat} (h:dB d k=0):okF (G d.ab k)/\t8 (G d.ab k)/\zI (G d.ab k):=by
 have hz:=tl h
 unfold dB eZ at h
 split at h
 · cases h
 split at h
 · cases h
 split at h
 · cases h
 split at h
 · rename_i h2
   rw[h]at h2
   simp at h2
 rename_i h3
 have h3:lu d k=0:=by simpa using h3
 have hy:∀ y∈(G d.ab k).aa++(G d.ab k).bA,(1<=y.ac.length/\y.ac.length<=200)/\(y.be=true->y.ac.length=2/\G y.ac 1∈d.vars):=λy hy=>by
  obtain⟨j,hj,rfl⟩:=ee hy
  exact Pp (lM h3 j hj)
 split at h
 · cases h
 rename_i h4
 split at h
 · rename_i h2
   rw[h]at h2
   simp at h2
 rename_i h5
 have hc:G (G d.ab k).ac 0∈d.bH:=by
  have h6:iz d (G d.ab k).ac=0:=by simpa using h5
  unfold iz rm at h6
  split at h6
  · rename_i h7
    simp only[Bool.and_eq_true,decide_eq_true_eq]at h7
    exact h7.1
  · cases h6
 have hp:0< (G d.ab k).ac.length:=by
  simp only[Bool.or_eq_true,decide_eq_true_eq,not_or]at h4
  omega
 refine⟨⟨oz,λy hy' hf=>((hy y (mem_append_left _ hy')).2 hf).1⟩,⟨hp,λy hy' hf e=>?_⟩,λy hy'=>⟨(hy y hy').1.1,Nat.le_trans (hy y hy').1.2 oz⟩⟩
 have:=((hy y (mem_append_left _ hy')).2 hf).2
 rw[e]at this
 exact Vu hs _ this hc
theorem pF (h:dy d=0):∀ g∈d.ab,okF g/\t8 g/\zI g:=λg hg=>by
 obtain⟨k,hk,rfl⟩:=ee hg
 exact NF (yK h) (pE h k hk)
theorem ou {z:Int} (h:iw d z=0):dy d=0/\0<=z/\z< (d.ab.length:Int):=by
 unfold iw at h
 split at h
 · rename_i h2;exact absurd h h2
 split at h
 · cases h
 · rename_i h1 h2
   exact⟨by simpa using h1,oz,oz⟩
end
theorem pH {x y:BA}:dN x y<0↔Op.bytesLess x.toList y.toList=true:=by
 unfold dN
 split
 · rename_i h;simp[h]
 · rename_i h
   split<;>simp[h]
theorem sP {x y:BA}:dN x y=0↔x=y:=by
 unfold dN
 split
 · rename_i h
   constructor
   · intro e;omega
   · rintro rfl;rw[pB]at h;cases h
 · split
   · rename_i h;simp[h]
   · rename_i h;simp[h]
theorem vy {p q:Pr}:ix p q<0↔cB p q=true:=by
 unfold ix cB
 split
 · rename_i h
   rw[sP]at h
   rw[pH,h,pB]
   simp
 · rename_i h
   rw[sP]at h
   rw[pH]
   simp[h]
theorem Ld {p q:Pr}:ix p q=0↔p=q:=by
 unfold ix
 split
 · rename_i h
   rw[sP]at h ⊢
   constructor
   · intro h2;cases p;cases q;simp_all
   · rintro rfl;rfl
 · rename_i h
   constructor
   · intro e;exact absurd e h
   · rintro rfl;exact absurd (sP.2 rfl) h
theorem wM (x:Pr):cB x x=false:=by simp[cB,pB]
theorem AF {x y:Pr} (h1:cB x y=false) (h2:cB y x=false):x=y:=by
 cases h3:ib x y with
 | true=>simp only[ib,Bool.and_eq_true,decide_eq_true_eq]at h3;cases x;cases y;simp_all
 | false=>have:=FT h1 h3;rw[h2]at this;cases this
def fC (ps:List Pr):Nat->List Pr
 | 0=>[]
 | m+1=>if m=0∨ ¬ G ps m=G ps (m-1)then fC ps m++[G ps m]else fC ps m
theorem yT {ps:List Pr} {m:Nat} (h:m=0∨ ¬ G ps m=G ps (m-1)):fC ps (m+1)=fC ps m++[G ps m]:=by rw[fC,if_pos h]
theorem yU {ps:List Pr} {m:Nat} (h0:0<m) (h:G ps m=G ps (m-1)):fC ps (m+1)=fC ps m:=by rw[fC,if_neg (by rintro(e | e);omega;exact e h)]
theorem Du (ps:List Pr):∀ m,(fC ps m).length<=m
 | 0=>by simp[fC]
 | m+1=>by
  have:=Du ps m
  rw[fC]
  split
  · simp only[length_append,List.length_singleton];omega
  · omega
def pq (l:List Pr):Prop:=l.Pairwise λx y=>cB y x=false
theorem pq.at {l:List Pr} (h:pq l) {i j:Nat} (gH:i<j) (hj:j<l.length):cB (G l j) (G l i)=false:=by
 rw[cV hj,cV (show i<l.length by omega)]
 exact List.pairwise_iff_getElem.1 h i j oz hj gH
theorem F8 {α:Type} [Inhabited α] {l:List α} {x:α} {m:Nat} (h:x∈l.take m):∃ i,i<m/\i<l.length/\x=G l i:=by
 obtain⟨i,hi,rfl⟩:=List.getElem_of_mem h
 rw[length_take]at hi
 exact⟨i,oz,oz,by rw[cV oz,List.getElem_take]⟩
theorem Dv {ps:List Pr} (h:pq ps):∀ m,m<=ps.length->iZ (fC ps m)/\∀ x,x∈fC ps m↔x∈ps.take m
 | 0,_=>⟨List.Pairwise.nil,λx=>by simp[fC]⟩
 | m+1,hm=>by
  obtain⟨h1,h2⟩:=Dv h m oz
  by_cases hc:m=0∨ ¬ G ps m=G ps (m-1)
  · rw[yT hc,dG oz]
    refine⟨List.pairwise_append.2 ⟨h1,List.pairwise_singleton _ _,λx Z y hy=>?_⟩,λx=>by simp only[mem_append,h2]⟩
    rw[mem_singleton.1 hy]
    obtain⟨i,hi,rC,rfl⟩:=F8 ((h2 x).1 Z)
    have h3:=h.at hi oz
    cases h4:cB (G ps i) (G ps m)with
    | true=>rfl
    | false=>
     have he:=AF h4 h3
     rcases hc with rfl | hc
     · omega
     · have h5:=h.at (show m-1<m by omega) oz
       have h6:cB (G ps (m-1)) (G ps m)=false:=by
        rcases Nat.lt_or_ge i (m-1)with h7 | h7
        · rw[<-he];exact h.at h7 oz
        · rw[show m-1=i by omega,he];exact wM _
       exact absurd (AF h5 h6) hc
  · have zY:0<m:=by omega
    have he:G ps m=G ps (m-1):=by simpa [show ¬ m=0 by omega]using hc
    rw[yU zY he]
    refine⟨h1,λx=>?_⟩
    rw[h2,dG oz,mem_append]
    constructor
    · exact .inl
    · rintro(h3 | h3)
      · exact h3
      · rw[mem_singleton.1 h3,he]
        refine List.mem_of_getElem? (i:=m-1) ?_
        rw[List.getElem?_take,if_pos oz,List.getElem?_eq_getElem oz,cV oz]
def yg (l qs:List Pr):Prop:=iZ qs/\(∀ p,p∈qs↔p∈l.map c8)/\qs.length<=l.length
theorem U0 {l ps:List Pr} (hp:ps.Perm (l.map c8)) (hw:pq ps):yg l (fC ps ps.length):=by
 obtain⟨h1,h2⟩:=Dv hw ps.length aV
 refine⟨h1,λp=>?_,?_⟩
 · rw[h2,List.take_length]
   exact hp.mem_iff
 · have h3:=Du ps ps.length
   have h4:=hp.length_eq
   rw[List.length_map]at h4
   omega
theorem iZ.at {l:List Pr} (h:iZ l) {i j:Nat} (gH:i<j) (hj:j<l.length):cB (G l i) (G l j)=true:=by
 rw[cV hj,cV (show i<l.length by omega)]
 exact List.pairwise_iff_getElem.1 h i j oz hj gH
theorem J7 {qs:List Pr} {p:Pr} {i j:Nat} (hs:iZ qs) (gH:j<=i) (h1:∀ k,k<i->cB (G qs k) p=true) (h2:∀ k,j<=k->k<qs.length->cB (G qs k) p=false):p∈qs↔i<qs.length/\G qs i=p:=by
 constructor
 · intro hp
   obtain⟨k,hk,rfl⟩:=ee hp
   have h3:i<=k:=Nat.le_of_not_lt λh=>by have:=h1 k h;rw[wM]at this;cases this
   rcases Nat.lt_or_ge i k with h4 | h4
   · have:=hs.at h4 hk
     rw[h2 i gH oz]at this
     cases this
   · have:i=k:=by omega
     subst this
     exact⟨hk,rfl⟩
 · rintro⟨h3,rfl⟩
   exact aC h3
theorem G7 {x y:Pr} (h1:x.a=y.a) (h2:x.b=y.b):x=y:=by cases x;cases y;simp_all
section
variable {ps rs:List Pr} {i j k m:Nat} {x:Pr}
theorem Lr (h:1<=ps.length):fC ps 1=ps.take 1:=by
 cases ps with
 | nil=>simp at h
 | cons y r=>rfl
theorem yW (h:ps.length<2):ps=fC ps ps.length:=by
 match ps,h with
 | [],_=>rfl
 | [y],_=>rfl
theorem yV (h:¬ k<ps.length) (hk:k<=ps.length) (h2:fC ps k=ps.take k):ps=fC ps ps.length:=by
 have:k=ps.length:=by omega
 subst this
 rw[h2,List.take_length]
theorem Lq (hk:k<ps.length) (h2:fC ps k=ps.take k) (h3:¬ G ps k=G ps (k-1)):fC ps (k+1)=ps.take (k+1):=by
 rw[yT (.inr h3),h2,dG hk]
theorem NN (h:¬ i=j):G (rs.set j x) i=G rs i:=by
 simp only[G,getD_eq_getElem?_getD]
 rw[List.getElem?_set_ne (λe=>h e.symm)]
theorem take_set (hj:j<rs.length):(rs.set j x).take (j+1)=rs.take j++[x]:=by
 have h1:j< (rs.set j x).length:=by rw[List.length_set];exact hj
 rw[dG h1,List.take_set_of_le aV]
 congr 2
 rw[cV h1,List.getElem_set_self]
end
def vg (qs:List Pr) (p:Pr):Nat:=(qs.filter λq=>cB q p).length
section
variable {qs:List Pr} {p:Pr} {i j h:Nat}
theorem J8 (gH:j<=i) (hi:i<=qs.length) (h1:∀ k,k<i->cB (G qs k) p=true) (h2:∀ k,j<=k->k<qs.length->cB (G qs k) p=false):i=vg qs p:=by
 have e1:(qs.take i).filter (λq=>cB q p)=qs.take i:=List.filter_eq_self.2 λx Z=>by
  obtain⟨k,hk,_,rfl⟩:=F8 Z
  exact h1 k hk
 have e2:(qs.drop i).filter (λq=>cB q p)=[]:=List.filter_eq_nil_iff.2 λx Z=>by
  obtain⟨k,hk,rfl⟩:=List.mem_drop_iff_getElem.1 Z
  have:=h2 (i+k) oz oz
  rw[cV oz]at this
  simpa [Nat.add_comm]using this
 unfold vg
 have e3:qs.filter (λq=>cB q p)=(qs.take i).filter (λq=>cB q p)++(qs.drop i).filter (λq=>cB q p):=by rw[<-List.filter_append,take_append_drop]
 rw[e3,e1,e2,List.append_nil,length_take]
 omega
theorem J5 (hs:iZ qs) (gH:j<=i) (h1:∀ k,k<i->cB (G qs k) p=true) (h2:∀ k,j<=k->k<qs.length->cB (G qs k) p=false):(decide ((i:Int)< (qs.length:Int))&&decide (ix (G qs i) p=0))=decide (p∈qs):=by
 rw[<-Bool.decide_and]
 congr 1
 rw[Ld]
 exact propext ((J7 hs gH h1 h2).trans ⟨λ⟨a,b⟩=>⟨oz,b⟩,λ⟨a,b⟩=>⟨oz,b⟩⟩).symm
theorem J9 (hs:iZ qs) (hh:h<qs.length) (hc:ix (G qs h) p<0):∀ k,k<h+1->cB (G qs k) p=true:=λk hk=>by
 rw[vy]at hc
 rcases Nat.lt_or_ge k h with h3 | h3
 · exact rN (hs.at h3 hh) hc
 · rw[show k=h by omega];exact hc
theorem J6 (hs:iZ qs) (hc:¬ ix (G qs h) p<0):∀ k,h<=k->k<qs.length->cB (G qs k) p=false:=λk hk kW=>by
 rw[vy]at hc
 have hc:cB (G qs h) p=false:=by simpa using hc
 rcases Nat.lt_or_ge h k with h3 | h3
 · cases h4:cB (G qs k) p with
   | false=>rfl
   | true=>have:=rN (hs.at h3 kW) h4;rw[hc]at this;cases this
 · rw[show k=h by omega];exact hc
end

section
variable {α β:Type} [Inhabited α] {f:α->List β} {g:α->β} {xs:List α} {k:Nat} {q:List β}
theorem tj (hk:k<xs.length):(xs.take (k+1)).flatMap f=(xs.take k).flatMap f++f (G xs k):=by
 rw[dG hk,List.flatMap_append]
 simp
theorem El (hk:k<xs.length) (h:q<+:f (G xs k)):(xs.take k).flatMap f++q<+:xs.flatMap f:=by
 obtain⟨r,hr⟩:=h
 refine⟨r++(xs.drop (k+1)).flatMap f,?_⟩
 have e:xs.flatMap f=((xs.take (k+1))++xs.drop (k+1)).flatMap f:=by rw[take_append_drop]
 rw[e,List.flatMap_append,tj hk,<-hr]
 simp
theorem QB (hk:k<xs.length):(xs.take k).map g++[g (G xs k)]<+:xs.map g:=by
 refine⟨(xs.drop (k+1)).map g,?_⟩
 have e:xs.map g=((xs.take (k+1))++xs.drop (k+1)).map g:=by rw[take_append_drop]
 rw[e,map_append,AJ hk]
end
def dj (l:List Bd) (us:List BA) (s:BA):List BA:=cZ (bg (ay l) s) (cX us)
def se (l:List Bd) (us:List BA) (p:Pr) (x:BA):List Pr:=(dj l us p.b).map λy=>c8 ⟨x,y⟩
def pd (l:List Bd) (us:List BA) (p:Pr):List Pr:=(dj l us p.a).flatMap (se l us p)
theorem Bv (l:List Bd) (ap:List Pr) (us:List BA):fe l ap us=ap.flatMap (pd l us):=rfl
theorem Ug {l:List Bd} {us:List BA} {ap:List Pr} {k j i:Nat} (hk:k<ap.length) (hj:j< (dj l us (G ap k).a).length) (hi:i< (dj l us (G ap k).b).length):
 (ap.take k).flatMap (pd l us)++((dj l us (G ap k).a).take j).flatMap (se l us (G ap k))++((dj l us (G ap k).b).take i).map (λy=>c8 ⟨G (dj l us (G ap k).a) j,y⟩)++[c8 ⟨G (dj l us (G ap k).a) j,G (dj l us (G ap k).b) i⟩]<+:fe l ap us:=by
 rw[Bv,append_assoc,append_assoc]
 refine El hk (El hj ?_)
 exact QB (g:=λy=>c8 ⟨G (dj l us (G ap k).a) j,y⟩) hi
theorem QA {l rs:List Pr} (h1:rs.length=l.length) (h2:∀ i,i<l.length->G rs i=c8 (G l i)):rs=l.map c8:=by
 apply List.ext_getElem (by simpa using h1)
 intro i hi nM
 have h3:i<l.length:=by omega
 have:=h2 i h3
 rw[cV hi,cV h3]at this
 simpa using this
section
variable {l:List Bd} {ap wd qs pre:List Pr} {us:List BA} {p:Pr}
theorem CP (h:yg wd qs):(!decide (p∈qs)||decide (p.a=p.b))=gC wd p:=by
 unfold gC
 rw[show decide (p∈qs)=decide (p∈wd.map c8)from decide_eq_decide.2 (h.2.1 p)]
theorem J2 (hp:(pre++[p])<+:fe l ap us) (h1:∀ x∈pre,gC wd x=false) (h2:gC wd p=true):jL l ap us wd=some p:=by
 obtain⟨r,hr⟩:=hp
 unfold jL
 rw[<-hr,append_assoc,List.find?_append,List.find?_eq_none.2 (λx Z=>by simp[h1 x Z])]
 simp[h2]
theorem J3 (h1:∀ x∈fe l ap us,gC wd x=false):jL l ap us wd=none:=List.find?_eq_none.2 λx Z=>by simp[h1 x Z]
theorem Ta (h1:∀ x∈pre,gC wd x=false) (h2:gC wd p=false):∀ x∈pre++[p],gC wd x=false:=λx Z=>by
 rcases mem_append.1 Z with Z | Z
 · exact h1 x Z
 · rw[mem_singleton.1 Z];exact h2
end
def Jq (D:List UInt8) (i:Nat) (out:List Lt) (n:Int) (ins fresh:Bool):Prop:=
 (fresh=true->ins=false/\n=0/\∃ pre x,out=pre++[⟨x,false⟩]/\jV D 0 false=if i<D.length/\(G D i).toNat=90 then(pre++⟨x,true⟩::(jV (D.drop (i+1)) 0 false).1,(jV (D.drop (i+1)) 0 false).2)else(out++(jV (D.drop i) 0 false).1,(jV (D.drop i) 0 false).2))/\
 (fresh=false->jV D 0 false=(out++(jV (D.drop i) n ins).1,(jV (D.drop i) n ins).2))
section
variable {D:List UInt8} {i:Nat} {out:List Lt} {n:Int} {ins fresh:Bool}
variable (h:Jq D i out n ins fresh) (hi:i<D.length)
include h hi
end
abbrev Mr (t:List BA):Nat:=(cH (FA ⟨#[41]⟩) t).toNat
abbrev Ls (t:List BA):List BA:=(t.take (Mr t)).drop 1
def FK (t:List BA):List BA×List Lt×Int:=
 if sQ t=true then
  match w9 t with
  | none=>([],[],20)
  | some z=>if xO z.1=true then([],[],20)else if(qe z.2).2=true then([],[],21)else if 2000< (qe z.2).1.length then([],[],10)else(z.1,(qe z.2).1,0)
 else([],[],2)
section
variable {t:List BA} (h0:sQ t=true)
include h0
variable {z:List BA×BA} (hz:w9 t=some z)
include hz
variable (h1:xO z.1=false)
include h1
variable (h2:(qe z.2).2=false)
include h2
end
theorem T6 {S:Nat->Prop} {w:World} {v:Value} {i:Int} (h0:0<=i) (h:Rel S w (.int i) v):Rel S w (.int ((i.toNat:Nat):Int)) v:=by
 rw[Int.toNat_of_nonneg h0]
 exact h
section
variable {d:Db} {k:Nat} {fs:List BA} {hm:List (BA×Hy)} {tm:List (BA×BA)} {bf:List Hy}
theorem ng.fr' (h:ng d k fs hm tm bf) (hk:k<d.ab.length) (s:BA):s∈cU fs (G d.ab k).ae↔fo d (k+1) s=true:=by
 rw[AP,fo,sC hk,Bool.or_eq_true,h.fr s,fo,decide_eq_true_eq]
 exact or_congr Iff.rfl eq_comm
theorem Fs (h:ng d k fs hm tm bf) (hk:k<d.ab.length) {y:Hy} {bs:List Hy} {ts:List (BA×BA)} {dm:Bool} (ht:ld bs ts):
 iP d.bH d.vars (cU fs (G d.ab k).ae) hm tm (mS bs) ts y dm=eN d k y bs dm:=by
 unfold iP eN
 by_cases h1:gY y dm=true
 · rw[if_pos h1,if_pos h1]
 rw[if_neg h1,if_neg h1]
 have h1':gY y dm=false:=by simpa using h1
 have q1:(((decide (y.ae∈d.bH)||decide (y.ae∈d.vars))||decide (y.ae∈cU fs (G d.ab k).ae))||decide (y.ae∈mS bs))=((fo d (k+1) y.ae||fG d y.ae)||bs.any (kS y)):=by
  rw[show decide (y.ae∈cU fs (G d.ab k).ae)=fo d (k+1) y.ae by rw[Bool.eq_iff_iff,decide_eq_true_eq];exact h.fr' hk _,
   show decide (y.ae∈mS bs)=bs.any (kS y) by rw[Bool.eq_iff_iff,decide_eq_true_eq,Qj,any_eq_true];simp[kS],<-fG,Bool.or_comm (fG d y.ae)]
 rw[q1]
 by_cases h2:(fo d (k+1) y.ae||fG d y.ae)=true
 · rw[if_pos (by rw[h2];rfl),if_pos h2]
 rw[if_neg h2,show(fo d (k+1) y.ae||fG d y.ae)=false by simpa using h2,Bool.false_or]
 by_cases h3:bs.any (kS y)=true
 · rw[if_pos h3,if_pos h3]
 rw[if_neg h3,if_neg h3]
 change (if oF d y then 12 else _)=_
 by_cases h4:oF d y=true
 · rw[if_pos h4,if_pos h4]
 rw[if_neg h4,if_neg h4,h.hy.bad]
 cases hf:y.be with
 | true=>
  have hl:=im h1' hf
  simp only[Bool.not_true,Bool.false_and,Bool.false_eq_true,if_false,Bool.true_and]
  rw[h.ty.bad y hl,ht.bad y hl,ht.have y hl,List.any_append]
 | false=>
  simp only[Bool.not_false,Bool.false_and,Bool.false_eq_true,if_false,Bool.true_and]
  have hl:(decide (((y.ac.length:Nat):Int)=0)||decide (200< ((y.ac.length:Nat):Int)))=false:=by
   have:=h1'
   simp only[gY,hf,Bool.not_false,Bool.true_and,Bool.or_eq_false_iff]at this
   simpa using this.2
  rw[IL,hl]
  simp
theorem tP {d:Db} {k:Nat} {y:Hy} {bs:List Hy} {dm:Bool} (h:eN d k y bs dm=0):
 bs.any (kS y)=false/\(y.be=true->(iV d k++bs).any (jz y)=false/\bs.any (gZ y)=false)/\(iV d k).any (fL y)=false:=by
 unfold eN at h
 by_cases h1:gY y dm=true
 · rw[if_pos h1]at h;exact absurd h dz
 rw[if_neg h1]at h
 by_cases h2:(fo d (k+1) y.ae||fG d y.ae)=true
 · rw[if_pos h2]at h;exact absurd h dz
 rw[if_neg h2]at h
 by_cases h3:bs.any (kS y)=true
 · rw[if_pos h3]at h;exact absurd h dz
 rw[if_neg h3]at h
 by_cases h4:oF d y=true
 · rw[if_pos h4]at h;exact absurd h dz
 rw[if_neg h4]at h
 by_cases h5:(!y.be&& !decide (iz d y.ac=0))=true
 · rw[if_pos h5]at h;simp[h]at h5
 rw[if_neg h5]at h
 by_cases h6:(y.be&& (iV d k++bs).any (jz y))=true
 · rw[if_pos h6]at h;exact absurd h dz
 rw[if_neg h6]at h
 by_cases h7:(y.be&&bs.any (gZ y))=true
 · rw[if_pos h7]at h;exact absurd h dz
 rw[if_neg h7]at h
 by_cases h8:(iV d k).any (fL y)=true
 · rw[if_pos h8]at h;exact absurd h dz
 exact⟨(Bool.not_eq_true _).mp h3,λhf=>⟨by rw[hf,Bool.true_and]at h6;exact(Bool.not_eq_true _).mp h6,by rw[hf,Bool.true_and]at h7;exact(Bool.not_eq_true _).mp h7⟩,(Bool.not_eq_true _).mp h8⟩
theorem Qv (h:∀ j,j< (bG (G d.ab k)).length->eD d k j=0):∀ i,i<=(bG (G d.ab k)).length->ld ((bG (G d.ab k)).take i) (iL ((bG (G d.ab k)).take i)):=by
 intro i
 induction i with
 | zero=>intro _;exact⟨λx Z=>by simp at Z,λv t ht=>by simp[iL,oT]at ht⟩
 | succ i ih=>
  intro hi
  have h0:=h i oz
  rw[dG oz,uB]
  exact IP (ih oz) (λhf=>im (rL h0) hf) λhf=>((tP h0).2.1 hf).2
theorem Qu (h:ng d k fs hm tm bf) (hk:k<d.ab.length):fS (bG (G d.ab k)).length (lm d.bH d.vars fs hm tm (G d.ab k))=lu d k:=by
 have key:∀ i,i< (bG (G d.ab k)).length->(∀ j,j<i->eD d k j=0)->lm d.bH d.vars fs hm tm (G d.ab k) i=eD d k i/\ld ((bG (G d.ab k)).take i) (iL ((bG (G d.ab k)).take i)):=by
  intro i
  induction i with
  | zero=>
   intro _ _
   have ht:ld ((bG (G d.ab k)).take 0) (iL ((bG (G d.ab k)).take 0)):=⟨λx Z=>by simp at Z,λv t ht=>by simp[iL,oT]at ht⟩
   exact⟨Fs h hk ht,ht⟩
  | succ i ih=>
   intro hi hj
   have h0:=hj i oz
   have ht:ld ((bG (G d.ab k)).take (i+1)) (iL ((bG (G d.ab k)).take (i+1))):=by
    rw[dG oz,uB]
    exact IP (ih oz λj hj'=>hj j oz).2 (λhf=>im (rL h0) hf) λhf=>((tP h0).2.1 hf).2
   exact⟨Fs h hk ht,ht⟩
 exact(MN λi hi hj=>(key i hi hj).1.symm).symm
theorem VM:∀ {l:List Hy},(∀ i,i<l.length->(G l i).be=true->(G l i).ac.length=2/\(l.take i).any (gZ (G l i))=false)->(eG l).Nodup:=by
 intro l h
 have key:∀ i,i<=l.length->(eG (l.take i)).Nodup:=by
  intro i
  induction i with
  | zero=>intro _;simp[eG]
  | succ i ih=>
   intro hi
   rw[eG,kP oz,map_append]
   by_cases hf:(G l i).be=true
   · simp only[hf,if_true,List.map_cons,List.map_nil]
     rw[List.nodup_append]
     refine⟨ih oz,by simp,λx Z z hz e=>?_⟩
     rw[mem_singleton.1 hz]at e
     obtain⟨w,hw,rfl⟩:=mem_map.1 Z
     rw[List.mem_filter]at hw
     have h1:=h i oz hf
     have h2:=any_eq_false.1 h1.2 w hw.1
     refine h2 ?_
     rw[gZ,sV h1.1]
     obtain⟨q,hq,rfl⟩:=ee hw.1
     have hq':q<i:=by simp at hq;omega
     have e2:G (l.take i) q=G l q:=by simp[G,getD_eq_getElem?_getD,hq']
     rw[e2]at hw e ⊢
     exact t7.2 ⟨by simpa using hw.2,(h q oz (by simpa using hw.2)).1,e⟩
   · simp only[hf,Bool.false_eq_true,if_false,List.map_nil,List.append_nil]
     exact ih oz
 have:=key l.length aV
 rwa [cS aV]at this
theorem NL {α:Type} [Inhabited α] {xs ys:List α} {i:Nat} (h:i<xs.length):G (xs++ys) i=G xs i:=by
 simp[G,getD_eq_getElem?_getD,List.getElem?_append_left h]
theorem UC (h:∀ j,j< (bG (G d.ab k)).length->eD d k j=0):pf d.vars (G d.ab k)=f4 d (G d.ab k):=by
 have EU:∀ i,i< (G d.ab k).aa.length->(G (G d.ab k).aa i).be=true->(G (G d.ab k).aa i).ac.length=2/\((G d.ab k).aa.take i).any (gZ (G (G d.ab k).aa i))=false:=λi hi hf=>by
  have h0:=h i (by simp[bG];omega)
  rw[eD]at h0
  rw[NL hi]at h0
  rw[List.take_append_of_le_length oz]at h0
  exact⟨im (rL h0) hf,((tP h0).2.1 hf).2⟩
 have d7:=VM EU
 have zY:kx d.vars (G d.ab k)=fX d (G d.ab k):=rfl
 have OQ:(fX d (G d.ab k)).Nodup:=(A2 _ _).1
 unfold pf f4
 rw[JJ rfl,zY]
 have e1:(G d.ab k).aa.all (kR (fX d (G d.ab k)))=(G d.ab k).aa.all (hIn (fX d (G d.ab k))):=by
  rw[Bool.eq_iff_iff,all_eq_true,all_eq_true]
  refine forall_congr' λx=>⟨λZ hm=>?_,λZ hm=>?_⟩<;>have:=Z hm
  · obtain⟨i,hi,rfl⟩:=ee hm
    cases hf:(G (G d.ab k).aa i).be with
    | false=>simp[hIn,hf]
    | true=>
     simp only[kR,hf,Bool.not_true,Bool.false_or,decide_eq_true_eq]at this
     simp[hIn,gu,hf,(EU i hi hf).1,this]
  · obtain⟨i,hi,rfl⟩:=ee hm
    cases hf:(G (G d.ab k).aa i).be with
    | false=>simp[kR,hf]
    | true=>
     simp only[hIn,gu,hf,Bool.not_true,Bool.false_or,Bool.true_and,Bool.and_eq_true,decide_eq_true_eq]at this
     simp[kR,hf,this.2]
 rw[e1]
 by_cases ha:(G d.ab k).aa.all (hIn (fX d (G d.ab k)))=true
 · have hsub:∀ s∈eG (G d.ab k).aa,s∈fX d (G d.ab k):=λs hs=>by
    obtain⟨x,Z,rfl⟩:=mem_map.1 hs
    rw[List.mem_filter]at Z
    have:=all_eq_true.1 (e1.trans ha) x Z.1
    simpa [kR,Z.2]using this
   have e2:decide ((eG (G d.ab k).aa).length=(fX d (G d.ab k)).length)=(fX d (G d.ab k)).all λs=>decide (s∈eG (G d.ab k).aa):=by
    rw[Bool.eq_iff_iff,decide_eq_true_eq,all_eq_true]
    constructor
    · intro e s hs
      rw[decide_eq_true_eq]
      refine Classical.byContradiction λhn=>?_
      have:=nV (ys:=(fX d (G d.ab k)).erase s) d7 λz hz=>(List.mem_erase_of_ne (λe':z=s=>hn (by rw[<-e'];exact hz))).2 (hsub z hz)
      rw[List.length_erase_of_mem hs]at this
      have:=List.length_pos_of_mem hs
      omega
    · intro e
      have h1:=nV d7 hsub
      have h2:=nV OQ λs hs=>by simpa using e s hs
      omega
   rw[e2,ha]
   simp only[Bool.true_and,Bool.and_assoc]
 · rw[show(G d.ab k).aa.all (hIn (fX d (G d.ab k)))=false by simpa using ha]
   rfl
theorem zC (h:ng d k fs hm tm bf) (hk:k<d.ab.length):gG d.bH d.vars fs hm tm (G d.ab k) bf=dB d k:=by
 unfold gG dB eZ
 by_cases h1:(!fW (G d.ab k).ae)=true
 · rw[if_pos h1,if_pos h1]
 rw[if_neg h1,if_neg h1,h.hy.some,<-Fp]
 have q:((iC d k (G d.ab k).ae|| (decide ((G d.ab k).ae∈d.bH)||decide ((G d.ab k).ae∈d.vars)))||decide ((G d.ab k).ae∈fs))=((fo d k (G d.ab k).ae||iC d k (G d.ab k).ae)||fG d (G d.ab k).ae):=by
  rw[show decide ((G d.ab k).ae∈fs)=fo d k (G d.ab k).ae by rw[Bool.eq_iff_iff,decide_eq_true_eq];exact h.fr _,<-fG]
  cases iC d k (G d.ab k).ae<;>cases fo d k (G d.ab k).ae<;>cases fG d (G d.ab k).ae<;>rfl
 rw[q]
 by_cases h2:((fo d k (G d.ab k).ae||iC d k (G d.ab k).ae)||fG d (G d.ab k).ae)=true
 · rw[if_pos h2,if_pos h2]
 rw[if_neg h2,if_neg h2]
 by_cases h3:(decide ((40:Int)< (((G d.ab k).aa.length:Nat):Int))||decide ((40:Int)< (((G d.ab k).bA.length:Nat):Int)))=true
 · rw[if_pos h3,if_pos h3]
 rw[if_neg h3,if_neg h3,Qu h hk]
 by_cases h4:(!decide (lu d k=0))=true
 · rw[if_pos h4,if_pos h4]
 rw[if_neg h4,if_neg h4,IL]
 have h4':∀ j,j< (bG (G d.ab k)).length->eD d k j=0:=lM (n:=(bG (G d.ab k)).length) (show lu d k=0 by simpa using h4)
 by_cases h5:(decide ((((G d.ab k).ac.length:Nat):Int)=0)||decide (200< (((G d.ab k).ac.length:Nat):Int)))=true
 · rw[if_pos h5,if_pos h5,if_pos dz]
 rw[if_neg h5,if_neg h5]
 by_cases h6:(!decide (iz d (G d.ab k).ac=0))=true
 · rw[if_pos h6,if_pos h6]
 rw[if_neg h6,if_neg h6,iu,UC h4']
 by_cases h7:f4 d (G d.ab k)=true
 · rw[if_pos h7,if_neg (show ¬ (!decide ((0:Int)=0))=true by decide),if_neg (show ¬ (!f4 d (G d.ab k))=true by simp[h7])]
   have e8:sc (G d.ab k)=(((decide (0< (((G d.ab k).proof.length:Nat):Int))&& !(G d.ab k).thm)||decide (8000< (((G d.ab k).proof.length:Nat):Int)))|| !(G d.ab k).proof.all fq):=by
    rw[show(!(G d.ab k).proof.all fq)=(G d.ab k).proof.any λs=>!fq s from List.not_all_eq_any_not ..]
    unfold sc
    by_cases h0:(G d.ab k).proof=[]
    · simp[h0]
    · have:0< (G d.ab k).proof.length:=List.length_pos_iff.2 h0
      simp[this]
   have e9:(((bR (G d.ab k).aa).drop (gp (bf.map Hy.ae) ((bR (G d.ab k).aa).map Hy.ae))).any λy=>(aw hm y.ae).isSome)=uf d k (G d.ab k):=by
    rw[uf,h.bf,<-List.map_drop,List.any_map]
    congr 1
    funext y
    rw[h.hy.some,<-Fp];rfl
   rw[e8,e9]
   by_cases h8:((decide (0< (((G d.ab k).proof.length:Nat):Int))&& !(G d.ab k).thm)||decide (8000< (((G d.ab k).proof.length:Nat):Int)))=true
   · rw[if_pos (by rw[h8];rfl),if_pos h8]
   · rw[if_neg h8,show((decide (0< (((G d.ab k).proof.length:Nat):Int))&& !(G d.ab k).thm)||decide (8000< (((G d.ab k).proof.length:Nat):Int)))=false by simpa using h8,Bool.false_or]
 · rw[if_neg h7,if_pos (show(!decide ((70:Int)=0))=true by decide),if_pos (show(!f4 d (G d.ab k))=true by simpa using h7)]
theorem NE (h:dB d k=0):∀ j,j< (bG (G d.ab k)).length->eD d k j=0:=by
 refine lM (n:=(bG (G d.ab k)).length) ?_
 change lu d k=0
 unfold dB eZ at h
 refine Classical.byContradiction λhn=>?_
 by_cases h1:(!fW (G d.ab k).ae)=true
 · rw[if_pos h1]at h;exact absurd h dz
 rw[if_neg h1]at h
 by_cases h2:((fo d k (G d.ab k).ae||iC d k (G d.ab k).ae)||fG d (G d.ab k).ae)=true
 · rw[if_pos h2]at h;exact absurd h dz
 rw[if_neg h2]at h
 by_cases h3:(decide ((40:Int)< (((G d.ab k).aa.length:Nat):Int))||decide ((40:Int)< (((G d.ab k).bA.length:Nat):Int)))=true
 · rw[if_pos h3]at h;exact absurd h dz
 rw[if_neg h3,if_pos (by simpa using hn)]at h
 exact hn h
theorem PV (h:ng d k fs hm tm bf) (hk:k<d.ab.length) (h0:dB d k=0) {tn:List (BA×BA)}
 (ht:∀ v,aw tn v=if(aw (iL (bG (G d.ab k))) v).isSome then aw (iL (bG (G d.ab k))) v else aw tm v):
 ng d (k+1) (cU fs (G d.ab k).ae) (mN hm (bG (G d.ab k))) tn (bR (G d.ab k).aa):=by
 have hl:=NE h0
 have hT:=Qv hl (bG (G d.ab k)).length aV
 rw[cS aV]at hT
 have tt:∀ y∈bG (G d.ab k),(y.be=true->(iV d k).any (jz y)=false)/\(iV d k).any (fL y)=false:=λy hy=>by
  obtain⟨j,hj,rfl⟩:=ee hy
  have:=tP (hl j hj)
  refine⟨λhf=>?_,this.2.2⟩
  have:=(this.2.1 hf).1
  rw[List.any_append,Bool.or_eq_false_iff]at this
  exact this.1
 have hdist:∀ x∈bG (G d.ab k),∀ y∈bG (G d.ab k),y.ae=x.ae->y=x:=λx Z y hy e=>by
  obtain⟨i,hi,rfl⟩:=ee Z
  obtain⟨j,hj,rfl⟩:=ee hy
  have key:∀ p q,p<q->q< (bG (G d.ab k)).length->(G (bG (G d.ab k)) p).ae≠(G (bG (G d.ab k)) q).ae:=λp q hpq hq e=>by
   have:=(tP (hl q hq)).1
   rw[any_eq_false]at this
   refine this (G (bG (G d.ab k)) p) ?_ (by simpa [kS]using e)
   have e2:G ((bG (G d.ab k)).take q) p=G (bG (G d.ab k)) p:=by simp[G,getD_eq_getElem?_getD,hpq]
   rw[<-e2]
   exact aC (show p< ((bG (G d.ab k)).take q).length by rw[length_take];omega)
  rcases Nat.lt_trichotomy i j with h1 | h1 | h1
  · exact absurd e.symm (key i j h1 hj)
  · rw[h1]
  · exact absurd e (key j i h1 hi)
 have OY:∀ x∈iV d k,∀ y∈bG (G d.ab k),y.ae=x.ae->y=x:=λx Z y hy e=>by
  have:=any_eq_false.1 (tt y hy).2 x Z
  simp only[fL,Bool.and_eq_true,Bool.not_eq_true',decide_eq_true_eq,not_and,Bool.not_eq_false]at this
  exact(Fo.1 (this e.symm)).symm
 refine⟨h.fr' hk,⟨λx Z=>?_,λs x Z=>?_⟩,⟨λx Z v hv=>?_,λv t hv=>?_⟩,?_⟩
 · rw[rY hk]at Z
   rcases mem_append.1 Z with Z | Z
   · exact zZ _ _ _ (OY x Z) (.inr (h.hy.hit x Z))
   · exact zZ _ _ _ (hdist x Z) (.inl Z)
 · rw[rY hk]
   rcases E9 _ _ _ _ Z with⟨h1,h2⟩ | h1
   · exact⟨List.mem_append_right _ h1,h2⟩
   · have:=h.hy.got _ _ h1
     exact⟨mem_append_left _ this.1,this.2⟩
 · rw[rY hk]at Z
   rw[ht]
   rcases mem_append.1 Z with Z | Z
   · cases hs:aw (iL (bG (G d.ab k))) v with
     | none=>simpa using h.ty.hit x Z v hv
     | some t=>
      obtain⟨y,hy,h1,h2⟩:=hT.got v t hs
      have rK:=t7.1 h1
      have:=any_eq_false.1 ((tt y hy).1 rK.1) x Z
      simp only[jz,sV rK.2.1,rK.2.2,hv,Bool.true_and,Bool.not_eq_true',decide_eq_false_iff_not,Classical.not_not]at this
      simp[this,h2]
   · rw[hT.hit x Z v hv];rfl
 · rw[rY hk]
   rw[ht]at hv
   split at hv
   · obtain⟨y,hy,h1⟩:=hT.got v t hv
     exact⟨y,List.mem_append_right _ hy,h1⟩
   · obtain⟨y,hy,h1⟩:=h.ty.got v t hv
     exact⟨y,mem_append_left _ hy,h1⟩
 · rw[j8,if_neg oz,Nat.add_sub_cancel]
end
theorem zi {α:Type} [Inhabited α] {p:α->Bool}:∀ {l:List α} {k:Nat},k<l.length->(∀ j,j<k->p (G l j)=false)->p (G l k)=true->l.find? p=some (G l k)
 | [],k,h,_,_=>by simp at h
 | x::r,0,_,_,h3=>by
  simp only[vZ]at h3 ⊢
  simp[h3]
 | x::r,k+1,h1,h2,h3=>by
  have h4:=h2 0 oz
  simp only[vZ,vY]at h3 h4 ⊢
  rw[List.find?_cons_of_neg (by simp[h4])]
  exact zi (by simpa using h1) (λj hj=>by have:=h2 (j+1) oz;simpa only[vY]using this) h3
theorem DZ {α:Type} [Inhabited α] {p:α->Bool} {l:List α} (h:∀ j,j<l.length->p (G l j)=false):l.find? p=none:=List.find?_eq_none.2 λx Z=>by
 obtain⟨j,hj,rfl⟩:=ee Z
 simp[h j hj]
section
variable {l:List Bd} {s:BA} {k:Nat} {t vs:List BA}
theorem Fx (hk:k<l.length) (h:∀ j,j<k->¬ (G l j).var=s) (he:(G l k).var=s):bg (ay l) s=(G l k).ac:=by
 unfold bg
 rw[qh,zi hk (λj hj=>by simpa using h j hj) (by simpa using he)]
 rfl
theorem Fy (h:∀ j,j<l.length->¬ (G l j).var=s):bg (ay l) s=[s]:=by
 unfold bg
 rw[qh,DZ (λj hj=>by simpa using h j hj)]
 rfl
theorem QW (t vs:List BA):cZ t (cX vs)=cZ t vs:=by
 have e:kA (cX vs)=kA vs:=by
  funext out s
  unfold kA
  simp only[QE]
 unfold cZ
 rw[e]
theorem QV {t vs:List BA}:(cZ t vs).length<=t.length:=by
 have key:∀(t out:List BA),(t.foldl (kA vs) out).length<=out.length+t.length:=by
  intro t
  induction t with
  | nil=>intro out;simp
  | cons s r ih=>
   intro out
   have h1:=ih (kA vs out s)
   have h2:(kA vs out s).length<=out.length+1:=by unfold kA;split<;>simp
   simp only[List.foldl_cons,List.length_cons]
   omega
 simpa [cZ]using key t []
end
section
variable {M:BM} {pattern ac:List BA} {k p:Nat}
theorem Ua (hk:k<pattern.length) (h:ac.take p=bz M (pattern.take k)) (hp:p<=ac.length) (hb:¬ ((bg M (G pattern k)).length<=ac.length-p/\(ac.take (p+(bg M (G pattern k)).length)).drop p=bg M (G pattern k))):¬ bz M pattern=ac:=by
 intro e
 apply hb
 have e1:bz M pattern=bz M (pattern.take k)++(bg M (G pattern k)++bz M (pattern.drop (k+1))):=by
  rw[<-append_assoc,<-j5 hk,<-uZ,take_append_drop]
 have hl:(bz M (pattern.take k)).length=p:=by rw[<-h,length_take];omega
 have e2:ac.drop p=bg M (G pattern k)++bz M (pattern.drop (k+1)):=by
  rw[<-e,e1,List.drop_append_of_le_length oz,List.drop_of_length_le oz,List.nil_append]
 constructor
 · have:=congrArg List.length e2
   rw[List.length_drop,length_append]at this
   omega
 · rw[List.drop_take,Nat.add_sub_cancel_left,e2,List.take_left]
theorem T9 (hk:k<pattern.length) (h:ac.take p=bz M (pattern.take k)) (hb:(ac.take (p+(bg M (G pattern k)).length)).drop p=bg M (G pattern k)):ac.take (p+(bg M (G pattern k)).length)=bz M (pattern.take (k+1)):=by
 have e:=take_append_drop p (ac.take (p+(bg M (G pattern k)).length))
 rw[List.take_take,Nat.min_eq_left (Nat.le_add_right _ _),hb,h]at e
 rw[j5 hk]
 exact e.symm
theorem T8 (h:ac.take p=bz M pattern) (hp:p<=ac.length):decide (((p:Nat):Int)=((ac.length:Nat):Int))=decide (bz M pattern=ac):=D3 h hp
end
section
variable {l:List Bd} {ap wd:List Pr} {us:List BA} {k:Nat} {x:Pr}
theorem J0 (hk:k< (fe l ap us).length) (h:∀ j,j<k->gC wd (G (fe l ap us) j)=false) (hh:gC wd (G (fe l ap us) k)=true):jL l ap us wd=some (G (fe l ap us) k):=zi hk h hh
theorem J4 (h:∀ j,j< (fe l ap us).length->gC wd (G (fe l ap us) j)=false):jL l ap us wd=none:=DZ h
theorem S6 (hk:k<wd.length) (h:c8 (G wd k)=x):x∈wd.map c8:=h▸List.mem_map_of_mem (aC hk)
theorem S7 (h:∀ j,j<wd.length->¬ c8 (G wd j)=x):¬ x∈wd.map c8:=λZ=>by
 obtain⟨y,hy,rfl⟩:=mem_map.1 Z
 obtain⟨j,hj,rfl⟩:=ee hy
 exact h j hj rfl
theorem Gh (l:List Bd) (us:List BA) (s:BA):cZ (bg (ay l) s) us=dj l us s:=(QW _ _).symm
theorem Gi {s:BA} (hl:∀ b∈l,b.ac.length<=2000):(dj l us s).length<=2000:=Nat.le_trans QV (qa dz hl s)
end
def dd (vars:List BA) (wide:List Pr) (g:Fr) (es:List (List BA)):List BA×Int:=match kJ vars wide g es 0 with
 | .ok t=>(t,0)
 | .error c=>([],c)
section
variable {vars:List BA} {wide:List Pr} {g:Fr} {es sk:List (List BA)} {j b:Nat}
theorem I0 (hj:j<g.aa.length) (h:fc g.aa es 0 j=false):dd vars wide g es=([],24):=by
 rw[dd,kJ,CA hj h];rfl
theorem I1 (hk:∀ j,j<g.aa.length->fc g.aa es 0 j=true) (hj:j<g.aa.length) (h:jA g.aa es 0 (bO g.aa es 0 g.aa.length) j=false):dd vars wide g es=([],25):=by
 rw[dd,kJ,pw hk,CA hj h];rfl
variable (hk:∀ j,j<g.aa.length->fc g.aa es 0 j=true) (hm:∀ j,j<g.aa.length->jA g.aa es 0 (bO g.aa es 0 g.aa.length) j=true)
include hk hm
theorem IZ (h:b7 (ay (bO g.aa es 0 g.aa.length)) g.ac 2000=false):dd vars wide g es=([],15):=by
 rw[dd,kJ,pw hk,pw hm,h];rfl
theorem I2 (h:b7 (ay (bO g.aa es 0 g.aa.length)) g.ac 2000=true) (h2:eL (bO g.aa es 0 g.aa.length) g.apart vars wide=true):dd vars wide g es=([],26):=by
 rw[dd,kJ,pw hk,pw hm,h,h2];rfl
theorem I3 (h:b7 (ay (bO g.aa es 0 g.aa.length)) g.ac 2000=true) (h2:eL (bO g.aa es 0 g.aa.length) g.apart vars wide=false):dd vars wide g es=(bz (ay (bO g.aa es 0 g.aa.length)) g.ac,0):=by
 rw[dd,kJ,pw hk,pw hm,h,h2];rfl
end
structure Ri where
 ae:BA
 back:Int
 unk:Bool
instance instInhRi:Inhabited Ri:=⟨⟨⟨#[]⟩,0,false⟩⟩
section
variable {f:Fr} {labels:List BA} {ls:List Lt} {k:Nat} {q r:List Ri×List Int} {x:Ri}
end
def dM (d:Db) (i:Nat) (s:BA):Int:=match(d.ab.take i).findIdx? (λf=>decide (f.ae=s))with
 | some k=>(k:Int)
 | none=> -1
section
variable {d:Db} {i k j:Nat} {s:BA} {z:Int}
theorem tq {α:Type} [Inhabited α] {l:List α} (h:j<i):G (l.take i) j=G l j:=by
 simp only[G,getD_eq_getElem?_getD,List.getElem?_take]
 rw[if_pos h]
theorem yl (hi:i<=d.ab.length) (hk:k<i) (h0:∀ j,j<k->¬ (G d.ab j).ae=s) (h:(G d.ab k).ae=s):dM d i s=(k:Int):=by
 have:(d.ab.take i).findIdx? (λf=>decide (f.ae=s))=some k:=by
  rw[List.findIdx?_eq_some_iff_getElem]
  have hl:k< (d.ab.take i).length:=by rw[length_take];omega
  refine⟨hl,?_,λj hj=>?_⟩
  · rw[<-cV hl,tq hk];simpa using h
  · rw[<-cV (show j< (d.ab.take i).length by omega),tq oz];simpa using h0 j hj
 rw[dM,this]
theorem ym (h0:∀ j,j<i->¬ (G d.ab j).ae=s):dM d i s= -1:=by
 have:(d.ab.take i).findIdx? (λf=>decide (f.ae=s))=none:=by
  rw[List.findIdx?_eq_none_iff]
  intro x Z
  obtain⟨j,hj,rD,rfl⟩:=QF Z
  simpa using h0 j hj
 rw[dM,this]
 where
  QF {l:List Fr} {x:Fr} {m:Nat} (h:x∈l.take m):∃ i,i<m/\i<l.length/\G l i=x:=by
   obtain⟨i,hi,rfl⟩:=List.getElem_of_mem h
   rw[length_take]at hi
   exact⟨i,oz,oz,by rw[cV oz,List.getElem_take]⟩
theorem uX (h:¬ dM d i s<0):0<=dM d i s/\(dM d i s).toNat<i/\(dM d i s).toNat<d.ab.length:=by
 unfold dM at h ⊢
 split
 · rename_i k hk
   have h1:=(List.findIdx?_eq_some_iff_getElem.1 hk).1
   rw[length_take]at h1
   exact⟨oz,by rw[Int.toNat_natCast];omega,by rw[Int.toNat_natCast];omega⟩
 · rename_i hk
   rw[hk]at h
   exact absurd dz h
end
def xK:List gR->Int->List Int
 | [],_=>[]
 | x::r,b=>if x.tagged then b::xK r (b+1)else xK r (b+1)
def Jt (f:Fr) (M:List (BA×Int)) (BV:List Int) (x:gR) (r:Ri):Prop:=
 (r.unk=true/\x.kind=0)∨(r.unk=false/\r.back= -1/\¬ r.ae=⟨#[63]⟩/\x.kind=(tW f M r.ae).kind/\x.ac=(tW f M r.ae).ac/\x.number=(tW f M r.ae).number)∨
 (r.unk=false/\x.kind=4/\0<=x.number/\x.number<BV.length/\r.back=G BV x.number.toNat/\0<=r.back)
section
variable {f:Fr} {M:List (BA×Int)} {labels:List BA}
end
def IF {α:Type} [DecidableEq α] (kids:α->List α):Nat->α->List α->List α
 | 0,_,o=>o
 | f+1,x,o=>if x∈o then o else(kids x).foldl (λo a=>IF kids f a o) o++[x]
section
variable {α:Type} [DecidableEq α] (kids:α->List α)
variable (r:α->Nat) (hr:∀ x,∀ a∈kids x,r a<r x)
include hr
end
section
variable {α:Type} [DecidableEq α] (kids:α->List α) (r:α->Nat) (hr:∀ x,∀ a∈kids x,r a<r x)
include hr
end
def PT (ss:List Stp) (i:Nat):List Nat:=((ss[i]?.map Stp.args).getD []).map Int.toNat
def et (ss:List Stp):Prop:=1<=ss.length/\ss.length<=2000/\∀ i (h:i<ss.length),ss[i].args.length<=40/\∀ a∈ss[i].args,0<=a/\a<i
def post (ss:List Stp):List Nat:=IF (PT ss) ss.length (ss.length-1) []
theorem Ev:∀(l:List Stp) (i:Nat),nC i l=0↔ ∀ j (h:j<l.length),l[j].args.length<=40/\∀ a∈l[j].args,0<=a/\a< ((i+j:Nat):Int)
 | [],i=>by simp[nC]
 | s::r,i=>by
  have ih:=Ev r (i+1)
  simp only[nC]
  constructor
  · intro h
    split at h
    · simp at h
    split at h
    · simp at h
    rename_i h1 h2
    intro j hj
    cases j with
    | zero=>
     refine⟨by simp;omega,λa ha=>?_⟩
     have:=h2
     simp only[any_eq_true,not_exists,not_and,Bool.not_eq_true]at this
     have h3:=this a (by simpa using ha)
     simp[j7]at h3
     simp;omega
    | succ j=>
     have h3:=ih.1 h j (by simp at hj;omega)
     refine⟨by simpa using h3.1,λa ha=>?_⟩
     have:=h3.2 a (by simpa using ha)
     omega
  · intro h
    have h0:=h 0 (by simp)
    simp only[List.getElem_cons_zero]at h0
    rw[if_neg (by omega),if_neg,ih]
    · intro j hj
      have h1:=h (j+1) (by simp;omega)
      simp only[List.getElem_cons_succ]at h1
      refine⟨h1.1,λa ha=>?_⟩
      have:=h1.2 a ha
      omega
    · simp only[any_eq_true,not_exists,not_and,Bool.not_eq_true]
      intro a ha
      have:=h0.2 a ha
      simp[j7];omega
theorem tk (ss:List Stp):fm ss=0↔et ss:=by
 unfold fm et
 split
 · simp;omega
 · rw[Ev]
   simp only[Nat.zero_add]
   constructor
   · intro h;exact⟨by omega,by omega,h⟩
   · intro h;exact h.2.2
inductive pl where
 | node (ae:ByteArray) (kids:List pl)
mutual
def flat:pl->Nat->List Stp
 | .node l ks,n=>(rj ks n).1++[⟨l,(rj ks n).2⟩]
def rj:List pl->Nat->List Stp×List Int
 | [],_=>([],[])
 | k::ks,n=>(flat k n++(rj ks (n+(flat k n).length)).1,(((n+(flat k n).length:Nat):Int)-1)::(rj ks (n+(flat k n).length)).2)
end
mutual
def B1:pl->Nat
 | .node _ ks=>xN ks+1
def xN:List pl->Nat
 | []=>0
 | k::ks=>B1 k+xN ks
end
mutual
theorem M6:∀(t:pl) (n:Nat),(flat t n).length=B1 t
 | .node l ks,n=>by simp[flat,B1,Ea ks n]
theorem Ea:∀(ks:List pl) (n:Nat),(rj ks n).1.length=xN ks
 | [],n=>rfl
 | k::ks,n=>by simp[rj,xN,M6 k n,Ea ks]
end
instance instInhStp:Inhabited Stp:=⟨⟨⟨#[]⟩,[]⟩⟩
def bF (s:Stp):List CD:=[.lit (.string s.ae),bS s.args]
def br (l:List Stp):CD:=.sl (l.map bF)
def bw (l:List Stp):List CD:=[br l]
def kQ (ss:List Stp) (i:Nat):Int:=if 40< (G ss i).args.length then 4 else if(G ss i).args.any (j7 i)then 3 else 0
section
variable {ss:List Stp} {k:Nat}
theorem zx:∀ k,k<=ss.length->(∀ j,j<k->kQ ss j=0)->nC 0 ss=nC k (ss.drop k)
 | 0,_,_=>by rw[List.drop_zero]
 | k+1,hk,h=>by
  rw[zx k oz λj hj=>h j oz,List.drop_eq_getElem_cons (by omega:k<ss.length),nC]
  have h1:=h k oz
  unfold kQ at h1
  rw[cV (by omega:k<ss.length)]at h1
  split at h1
  · cases h1
  · rename_i h2
    rw[if_neg h2]
    split at h1
    · cases h1
    · rename_i h3
      rw[if_neg h3]
theorem rn (hn:¬ (ss.length<1∨2000<ss.length)) (hk:k<ss.length) (h:∀ j,j<k->kQ ss j=0) (he:¬ kQ ss k=0):fm ss=kQ ss k:=by
 rw[fm,if_neg hn,zx k oz h,List.drop_eq_getElem_cons hk,nC]
 unfold kQ at he ⊢
 rw[cV hk]at he ⊢
 split
 · rfl
 · rename_i h2
   rw[if_neg h2]at he
   split
   · rfl
   · rename_i h3
     rw[if_neg h3]at he
     exact absurd rfl he
theorem zy (hn:¬ (ss.length<1∨2000<ss.length)) (h:∀ j,j<ss.length->kQ ss j=0):fm ss=0:=by
 rw[fm,if_neg hn,zx ss.length aV h,List.drop_length]
 rfl
theorem zz (hn:ss.length<1∨2000<ss.length):fm ss=4:=by rw[fm,if_pos hn]
end
def dA (d:Db) (z:Int) (ss:List Stp):Int:=if iw d z=0 then fm ss else iw d z
def a8 (ahead:List (List BA)) (args:List Int):List (List BA):=args.map λa=>G ahead a.toNat
def cr (d:Db) (i:Nat) (s:Stp) (ahead:List (List BA)):List BA×Int:=
 if s.ae=⟨#[63]⟩then([],27)
 else match cy (G d.ab i) s.ae with
  | some h=>if 0<s.args.length then([],23)else(h.ac,0)
  | none=>if dM d i s.ae<0 then([],22)
   else if s.args.length≠(G d.ab (dM d i s.ae).toNat).aa.length then([],23)
   else dd d.vars (G d.ab i).wide (G d.ab (dM d i s.ae).toNat) (a8 ahead s.args)
section
variable {d:Db} {i:Nat} {s:Stp} {a:List (List BA)}
theorem Ia (h:s.ae=⟨#[63]⟩):cr d i s a=([],27):=by rw[cr,if_pos h]
variable (h0:¬ s.ae=⟨#[63]⟩)
include h0
theorem Ib (h:(cy (G d.ab i) s.ae).isSome=true) (h2:0<s.args.length):cr d i s a=([],23):=by
 rw[cr,if_neg h0]
 cases h9:cy (G d.ab i) s.ae with
 | none=>rw[h9]at h;cases h
 | some y=>exact if_pos h2
theorem Ic (h:(cy (G d.ab i) s.ae).isSome=true) (h2:¬ 0<s.args.length):cr d i s a=(((cy (G d.ab i) s.ae).getD default).ac,0):=by
 rw[cr,if_neg h0]
 cases h9:cy (G d.ab i) s.ae with
 | none=>rw[h9]at h;cases h
 | some y=>exact if_neg h2
variable (h1:cy (G d.ab i) s.ae=none)
include h1
theorem H8 (h2:dM d i s.ae<0):cr d i s a=([],22):=by rw[cr,if_neg h0,h1];exact if_pos h2
variable (h2:¬ dM d i s.ae<0)
include h2
theorem H9 (h3:s.args.length≠(G d.ab (dM d i s.ae).toNat).aa.length):cr d i s a=([],23):=by rw[cr,if_neg h0,h1];exact(if_neg h2).trans (if_pos h3)
theorem BE (h3:s.args.length=(G d.ab (dM d i s.ae).toNat).aa.length):cr d i s a=dd d.vars (G d.ab i).wide (G d.ab (dM d i s.ae).toNat) (a8 a s.args):=by
 rw[cr,if_neg h0,h1];exact(if_neg h2).trans (if_neg λh=>h h3)
end
def dH (d:Db) (i:Nat) (ss:List Stp):Nat->List (List BA)
 | 0=>[]
 | k+1=>dH d i ss k++[(cr d i (G ss k) (dH d i ss k)).1]
def ik (d:Db) (i:Nat) (ss:List Stp) (k:Nat):Int:=(cr d i (G ss k) (dH d i ss k)).2
theorem lk (d:Db) (i:Nat) (ss:List Stp):∀ k,(dH d i ss k).length=k
 | 0=>rfl
 | k+1=>by rw[dH,length_append,lk d i ss k];rfl
def sF (d:Db) (i:Nat) (ss:List Stp):Option Nat:=(List.range ss.length).find? λk=>decide (¬ ik d i ss k=0)
def kH (d:Db) (i:Nat) (ss:List Stp):List (List BA)×(Int×Int):=match sF d i ss with
 | some k=>(dH d i ss k,(ik d i ss k,(k:Int)))
 | none=>(dH d i ss ss.length,if G (dH d i ss ss.length) (ss.length-1)=(G d.ab i).ac then(0,0)else(28,(ss.length:Int)))
section
variable {d:Db} {i k:Nat} {ss:List Stp}
theorem B2 (hk:k<ss.length) (h:∀ j,j<k->ik d i ss j=0) (he:¬ ik d i ss k=0):kH d i ss=(dH d i ss k,(ik d i ss k,(k:Int))):=by
 have:sF d i ss=some k:=by
  rw[sF,List.find?_range_eq_some]
  exact⟨by simpa using he,by simpa using hk,λj hj=>by simpa using h j hj⟩
 rw[kH,this]
theorem ph (h:∀ j,j<ss.length->ik d i ss j=0):kH d i ss=(dH d i ss ss.length,if G (dH d i ss ss.length) (ss.length-1)=(G d.ab i).ac then(0,0)else(28,(ss.length:Int))):=by
 have:sF d i ss=none:=by
  rw[sF,List.find?_range_eq_none]
  intro j hj
  simpa using h j hj
 rw[kH,this]
end
end
section
open Go.ChangeShapes Go.WideShapes Go.ChangeAt Go.RowKit Go.Deep
def Ij:List gS:=[.str,wE]
def xa:List gS:=[.sl 40 Ij]
theorem MY {cs:List CD} (h:dR xa cs):∃ ss:List Stp,cs=bw ss:=by
 simp only[xa]at h
 obtain⟨c,rfl,h3⟩:=dR.one h
 simp only[Fits]at h3
 obtain⟨rows,rfl,_,_,h4⟩:=h3
 obtain⟨xs,rfl⟩:=ux (f:=bF) (rows:=rows) λr hr=>by
  have h5:=h4 r hr
  simp only[Ij,dR]at h5
  obtain⟨c0,_,rfl,h0,c1,_,rfl,h1,rfl⟩:=h5
  obtain⟨s,rfl⟩:=pQ h0
  obtain⟨xs,rfl,_⟩:=D6 h1
  exact⟨⟨s,xs⟩,rfl⟩
 exact⟨xs,rfl⟩
section
variable {H:Type} {enc:TypeId×Value->H} {W:World}
set_option maxRecDepth 100000 in
theorem LD:nw Tryz.prog 10 28=some xa:=by kernel_rfl
set_option maxRecDepth 100000 in
theorem Rl {r:Reach} {b0:Nat} {v:Value} {d:DataW H} {ps:List MemPlace} (ei:Value.okWide Tryz.prog W r b0 28 v) (h:DataW.Trod enc Tryz.prog W 0 (λ_=>true) true 28 v d ps) (hw:qV 28 d):∃ ss:List Stp,Rel All W (.agg (bw ss)) v:=by
 simp only[Value.okWide,Tryz.underlying28]at ei
 obtain⟨cs,rfl,hsz,_⟩:=ei
 obtain⟨n,hn⟩:=h
 obtain⟨ka,h1,h2⟩:=ut 10 28 xa LD n _ _ hn hw
 obtain⟨ss,rfl⟩:=MY h1
 refine⟨ss,?_⟩
 simp only[Rel]
 exact⟨cs.toList,by simp,by simpa [Value.cells]using h2⟩
end
end
section
section
variable {ss:List Stp} {k j n:Nat}
end
theorem zE {ss:List Stp} {k:Nat} (h:40< (G ss k).args.length):kQ ss k=4:=if_pos h
theorem zD {ss:List Stp} {k:Nat} (h:¬ 40< (G ss k).args.length) (hb:((G ss k).args.any (j7 k))=true):kQ ss k=3:=(if_neg h).trans (if_pos hb)
theorem zF {ss:List Stp} {k:Nat} (h:¬ 40< (G ss k).args.length) (hb:((G ss k).args.any (j7 k))=false):kQ ss k=0:=(if_neg h).trans (if_neg (by simp[hb]))
theorem CL {ss:List Stp} {k q:Nat} (hq:q< (G ss k).args.length) (h:j7 k (G (G ss k).args q)=true):((G ss k).args.any (j7 k))=true:=any_eq_true.2 ⟨_,aC hq,h⟩
theorem CM {ss:List Stp} {k:Nat} (h:∀ q,q< (G ss k).args.length->j7 k (G (G ss k).args q)=false):((G ss k).args.any (j7 k))=false:=any_eq_false.2 λx Z=>by
 obtain⟨q,hq,rfl⟩:=ee Z
 simp[h q hq]
theorem ua {ss:List Stp} (bv:et ss) {k j:Nat} (hk:k<ss.length) (hj:j< (G ss k).args.length):0<=G (G ss k).args j/\G (G ss k).args j< (k:Int):=by
 rw[cV hk]at hj ⊢
 exact(bv.2.2 k hk).2 _ (aC hj)
theorem wY {ss:List Stp} (bv:et ss) {k:Nat} (hk:k<ss.length):(G ss k).args.length<=40:=by
 rw[cV hk];exact(bv.2.2 k hk).1
section
variable {ss:List Stp} {i j m:Nat}
end
section
variable {d:Db} {z:Int} {ss:List Stp}
theorem ns (h:dA d z ss=0):iw d z=0/\fm ss=0:=by
 unfold dA at h
 split at h
 · exact⟨by assumption,h⟩
 · exact absurd h (by assumption)
theorem QC {α β:Type} [Inhabited α] {f:α->β} {l:List α} {k:Nat} (h:k<l.length):(l.take (k+1)).map f=(l.take k).map f++[f (G l k)]:=by
 rw[dG h,map_append];rfl
end
section
variable {d:Db} {i:Nat} {t:List BA}
section
variable {f:Fr}
variable (h0:sQ t=true)
include h0
variable (h2:¬ (FK t).2.2=20)
include h2
variable (h3:(f.aa.any λh=>decide (h.ae∈Ls t))=false)
include h3
variable (h4:¬ (FK t).2.2=21)
include h4
end
end
section
variable {d:Db} {i:Nat} {r:Ri} {x:gR} {gv sk tg:List (List BA)} {BV:List Int}
end
section
variable {fs:List Fr} {vars:List BA} {f:Fr} {xs:List gR}
structure Rs where
 sk:List (List BA)
 n:Nat
 kn:Bool
 v:Int×Int
instance instInhRs:Inhabited Rs:=⟨⟨[],0,false,(0,0)⟩⟩
def Uh (m:Ms):Rs:=⟨m.sk,m.n,m.kn,m.v⟩
end
structure Ju (d:Db) (i:Nat) (t:List BA) (n:Nat) (sk gv:List (List BA)):Prop where
 le:n<=(l3 d i t).length
 st:Uh (xo d.ab d.vars (G d.ab i) (l3 d i t) n (AO d i t))=⟨sk,n,decide (n=(l3 d i t).length),if n=(l3 d i t).length then DL (G d.ab i) sk n else(0,0)⟩
 tg:(xo d.ab d.vars (G d.ab i) (l3 d i t) n (AO d i t)).tg=(xK ((l3 d i t).take n) 0).map λz=>G gv z.toNat
 gl:gv.length=n
 inv:Jp (l3 d i t) (xo d.ab d.vars (G d.ab i) (l3 d i t) n (AO d i t))
section
variable {d:Db} {i n:Nat} {t:List BA} {sk gv:List (List BA)} {r:Ri}
variable (hI:Ju d i t n sk gv) (hn:n< (l3 d i t).length)
include hI hn
variable (hc:dy d=0) (hi:i<d.ab.length) (hr:Jt (G d.ab i) (AW (d.ab.take i)) (xK ((l3 d i t).take n) 0) (G (l3 d i t) n) r)
include hc hi hr
end
section
variable {d:Db} {i n most:Nat} {t:List BA} {sk gv:List (List BA)} {r:Ri}
end
section
variable {d:Db} {i n most:Nat} {t:List BA} {sk gv:List (List BA)} {r:Ri}
end
section
variable {d:Db} {i k j:Nat} {s:Stp} {a es:List (List BA)} {ag:List Int} {ss:List Stp} {vars:List BA} {wide:List Pr} {g:Fr}
theorem re:(a8 a ag).length=ag.length:=by simp[a8]
theorem sY (hj:j<ag.length):G (a8 a ag) j=G a (G ag j).toNat:=by
 rw[cV (by rw[re];exact hj),cV hj];simp[a8]
theorem zd {p:List BA->Prop} (h:∀ t∈a,p t) (hb:∀ j,j<ag.length->0<=G ag j/\G ag j< (a.length:Int)):∀ t∈a8 a ag,p t:=λt ht=>by
 obtain⟨j,hj,rfl⟩:=ee ht
 rw[re]at hj
 have:=hb j hj
 rw[sY hj]
 exact h _ (aC oz)
theorem Mt (hj:j<ag.length):a8 a (ag.take (j+1))=a8 a (ag.take j)++[G a (G ag j).toNat]:=by rw[a8,a8,QC hj]
theorem VY {c:Int} (h:kJ vars wide g es 0= .error c):¬ c=0:=by
 unfold kJ at h
 split at h
 · injection h with h;omega
 split at h
 · injection h with h;omega
 split at h
 · injection h with h;omega
 split at h
 · injection h with h;omega
 · cases h
theorem V0 (hg:t8 g) (h:(dd vars wide g es).2=0):1<=(dd vars wide g es).1.length/\(dd vars wide g es).1.length<=2000:=by
 unfold dd at h ⊢
 cases h9:kJ vars wide g es 0 with
 | ok t=>exact V1 hg h9
 | error c=>rw[h9]at h;exact absurd h (VY h9)
theorem Vi (hc:dy d=0) (hi:i<d.ab.length) (h:(cr d i s a).2=0):1<=(cr d i s a).1.length/\(cr d i s a).1.length<=2000:=by
 unfold cr at h ⊢
 split at h
 · cases h
 rename_i h0
 rw[if_neg h0]
 cases h9:cy (G d.ab i) s.ae with
 | some y=>
  rw[h9]at h
  simp only at h ⊢
  split at h
  · cases h
  rename_i h1
  rw[if_neg h1]
  exact(pF hc _ (aC hi)).2.2 y (List.mem_of_find?_eq_some h9)
 | none=>
  rw[h9]at h
  simp only at h ⊢
  split at h
  · cases h
  rename_i h1
  rw[if_neg h1]
  split at h
  · cases h
  rename_i h2
  rw[if_neg h2]
  exact V0 (pF hc _ (aC (uX h1).2.2)).2.1 h
theorem rl (hc:dy d=0) (hi:i<d.ab.length):∀ k,(∀ j,j<k->ik d i ss j=0)->∀ t∈dH d i ss k,1<=t.length/\t.length<=2000
 | 0,_,t,ht=>by simp[dH]at ht
 | k+1,h,t,ht=>by
  rw[dH]at ht
  rcases mem_append.1 ht with ht | ht
  · exact rl hc hi k (λj hj=>h j oz) t ht
  · rw[mem_singleton.1 ht]
    exact Vi hc hi (h k oz)
theorem MK {z:BA} (hi:i<=d.ab.length) (h:bP d z<0∨(i:Int)<=bP d z):dM d i z= -1:=ym λj hj e=>by
 have h1:¬ cH (λf=>decide (f.ae=z)) d.ab= -1:=λe1=>by
  have e2:d.ab.findIdx? (λf=>decide (f.ae=z))=none:=by
   unfold cH at e1
   cases h9:d.ab.findIdx? (λf=>decide (f.ae=z))with
   | none=>rfl
   | some q=>rw[h9]at e1;simp only at e1;omega
  have e3:=List.findIdx?_eq_none_iff.1 e2 _ (aC (show j<d.ab.length by omega))
  simp[e]at e3
 obtain⟨h2,h3,h4,h5⟩:=oQ h1
 have h6:bP d z=cH (λf=>decide (f.ae=z)) d.ab:=rfl
 rw[h6]at h
 have h7:=h5 j oz
 simp[e]at h7
theorem DY {z:BA} (hi:i<=d.ab.length) (h:¬ bP d z<0) (h0:bP d z< (i:Int)):dM d i z=bP d z:=by
 have h6:bP d z=cH (λf=>decide (f.ae=z)) d.ab:=rfl
 obtain⟨h2,h3,h4,h5⟩:=oQ (p:=λf=>decide (f.ae=z)) (xs:=d.ab) (by rw[<-h6];omega)
 rw[<-h6]at h2 h3 h4 h5
 rw[yl (k:=(bP d z).toNat) hi oz (λj hj e=>by have:=h5 j hj;simp[e]at this) (by simpa using h4)]
 omega
theorem Gn (bv:et ss) (hk:k<ss.length):∀ j,j< (G ss k).args.length->0<=G (G ss k).args j/\G (G ss k).args j< (k:Int):=λ_ hj=>ua bv hk hj
def aX (d:Db) (z:Int) (ss:List Stp):List (List BA)×(Int×Int):=if dA d z ss=0 then kH d z.toNat ss else([],(0,0))
theorem rh:ik d i ss k=(cr d i (G ss k) (dH d i ss k)).2:=rfl
theorem Ek:dH d i ss (k+1)=dH d i ss k++[(cr d i (G ss k) (dH d i ss k)).1]:=rfl
end
structure cd where
 dQ:Int
 step:Int
 ae:BA
 args:List Int
 before:Int
 after:Int
instance instInhChg:Inhabited cd:=⟨⟨0,0,ByteArray.empty,[],0,0⟩⟩
def cw (c:cd):List CD:=[.lit (.int .i64 c.dQ),.lit (.int .i64 c.step),.lit (.string c.ae),bS c.args,.lit (.int .i64 c.before),.lit (.int .i64 c.after)]
def nv (l:List cd):CD:=.sl (l.map cw)
def iE (m:List Bool) (al:List Int):List Bool:=al.foldl (λm a=>m.set a.toNat true) m
def lw (ss:List Stp) (m:List Bool) (i:Nat):List Bool:=if G m i then iE m (G ss i).args else m
def AK (n:Nat):List Bool:=(List.replicate n false).set (n-1) true
def iT (ss:List Stp):Nat->List Bool
 | 0=>AK ss.length
 | k+1=>lw ss (iT ss k) (ss.length-1-k)
def fN (ss:List Stp):List Bool:=iT ss ss.length
def gE (m:List Bool):Nat:=(m.filter id).length
def l8 (to:List Int) (al:List Int):List Int:=al.map λa=>G to a.toNat
def eo (ss:List Stp) (m:List Bool):Nat->List Int×List Stp
 | 0=>(List.replicate ss.length 0,[])
 | k+1=>if G m k then((eo ss m k).1.set k ((eo ss m k).2.length:Int),(eo ss m k).2++[⟨(G ss k).ae,l8 ((eo ss m k).1.set k ((eo ss m k).2.length:Int)) (G ss k).args⟩])else eo ss m k
def jj (ss:List Stp):List Stp:=(eo ss (fN ss) ss.length).2
def dr (ss:List Stp):Nat:=gE (fN ss)
def jE (c:cd) (s:Stp):Stp:=⟨s.ae,s.args.map λa=>if a=c.step then G c.args 0 else a⟩
def cu (ss:List Stp) (c:cd):List Stp:=
 if c.dQ=2 then jj (ss.set c.step.toNat ⟨c.ae,c.args⟩)
 else if c.step=(ss.length:Int)-1 then jj ((ss.map (jE c)).take (G c.args 0+1).toNat)
 else jj (ss.map (jE c))
def gX (ss:List Stp) (c:cd):cd:= { c with before:=(dr ss:Int),after:=((cu ss c).length:Int) }
def fT (ss:List Stp) (c:cd):Option cd:=if(cu ss c).length<dr ss then some (gX ss c)else none
theorem AL:∀(al:List Int) (m:List Bool),(iE m al).length=m.length
 | [],m=>rfl
 | a::al,m=>by rw[iE,List.foldl_cons];exact(AL al _).trans yz
theorem F4 (ss:List Stp) (m:List Bool) (i:Nat):(lw ss m i).length=m.length:=by
 unfold lw;split
 · exact AL _ _
 · rfl
theorem AM (ss:List Stp):∀ k,(iT ss k).length=ss.length
 | 0=>by simp[iT,AK]
 | k+1=>by rw[iT,F4,AM ss k]
theorem AX (ss:List Stp):(fN ss).length=ss.length:=AM ss _
theorem Lj (m:List Bool):gE m<=m.length:=List.length_filter_le _ _
def dF (d:Db) (z:Int) (ss:List Stp):Int:=if dA d z ss=0 then(if(aX d z ss).2.1=0 then 0 else 13)else dA d z ss
section
variable (R:List Stp->Int) (A:List Stp->List cd)
end
end
section
open Go.ChangeShapes Go.WideShapes Go.ChangeAt Go.RowKit Go.Deep
def vq:List gS:=[.int .i64,.int .i64,.str,wE,.int .i64,.int .i64]
theorem MU {cs:List CD} (h:dR vq cs):∃ c:cd,cs=cw c:=by
 simp only[vq,dR]at h
 obtain⟨c0,_,rfl,h0,c1,_,rfl,h1,c2,_,rfl,h2,c3,_,rfl,h3,c4,_,rfl,h4,c5,_,rfl,h5,rfl⟩:=h
 obtain⟨n0,rfl,_⟩:=tc h0
 obtain⟨n1,rfl,_⟩:=tc h1
 obtain⟨s,rfl⟩:=pQ h2
 obtain⟨xs,rfl,_⟩:=D6 h3
 obtain⟨n4,rfl,_⟩:=tc h4
 obtain⟨n5,rfl,_⟩:=tc h5
 exact⟨⟨n0,n1,s,xs,n4,n5⟩,rfl⟩
section
variable {H:Type} {enc:TypeId×Value->H} {W:World}
set_option maxRecDepth 100000 in
theorem LB:nw Tryz.prog 10 31=some vq:=by kernel_rfl
set_option maxRecDepth 100000 in
theorem Rj {r:Reach} {b0:Nat} {v:Value} {d:DataW H} {ps:List MemPlace} (ei:Value.okWide Tryz.prog W r b0 31 v) (h:DataW.Trod enc Tryz.prog W 0 (λ_=>true) true 31 v d ps) (hw:qV 31 d):∃ c:cd,Rel All W (.agg (cw c)) v:=by
 simp only[Value.okWide,Tryz.underlying31]at ei
 obtain⟨cs,rfl,hsz,_⟩:=ei
 obtain⟨n,hn⟩:=h
 obtain⟨ka,h1,h2⟩:=ut 10 31 vq LB n _ _ hn hw
 obtain⟨c,rfl⟩:=MU h1
 refine⟨c,?_⟩
 simp only[Rel]
 exact⟨cs.toList,by simp,by simpa [Value.cells]using h2⟩
end
end
end Go.Proofs.YtdfadihhfppjaaaGreatDoor
