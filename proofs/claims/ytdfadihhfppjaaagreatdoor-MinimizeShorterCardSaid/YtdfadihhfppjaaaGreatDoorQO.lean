/-
  THE STACK MACHINE AS DATA (plain): letters, items, steps, runs.
  WHAT THE STACK MACHINE KEEPS (plain).
  WHAT IS READ CAN BE WORKED (plain).
  WHAT A RIGHT DATABASE GIVES THE STACK MACHINE (plain).
  PAIRS IN ORDER (plain): sorted rows, a search by halves, what a substitution requires.
  LETTERS, ONE BY ONE (plain): what the reference's loop knows.
  PLAIN LAW: the program's check of a database is the reference's.
  THE REFERENCE OF VERDICTS AS DATA (plain): substitution, items, steps.
  THE REFERENCE's MACHINE AND THE PROGRAM's (plain): item by item, step by step.
  THE WALK OF A GRAPH IN POSTORDER, in plain Lean.
  THE SIZES OF THE TREES OF ALL STEPS, in plain Lean.
  THE TREE OF A PROOF, in plain Lean; its flat form (each step used once), its size.
  PROOFS AS GRAPHS (plain): their form, the formulas of their steps, up to the first error.
  A PROOF AS AN ARGUMENT, in the engine's words.
-/
import Derived.Test.YtdfadihhfppjaaaGreatDoorQN
import Derived.Lib.Join
namespace Go.Proofs.YtdfadihhfppjaaaGreatDoor
def Zdt {α:Type} (x y:α) (k:Nat):α:=if k=0 then x else y
structure Lt where
 number:Int
 tagged:Bool
instance instInhLt:Inhabited Lt:=⟨⟨0,false⟩⟩
structure Itm where
 kind:Int
 text:List BA
 number:Int
 tagged:Bool
instance instInhItm:Inhabited Itm:=⟨⟨0,[],0,false⟩⟩
def vdC (p:Int×Int):List CD:=[.lit (.int .i64 p.1),.lit (.int .i64 p.2)]
def Xg:List UInt8→Int→Bool→List Lt×Bool
 | [],_,inside=>([],inside)
 | b::r,n,inside=>
  if decide (85≤b.toNat)&&decide (b.toNat≤89)then
   if 1000000<5*n+((b.toNat:Int)-85)+1 then([],true)else Xg r (5*n+((b.toNat:Int)-85)+1) true
  else if decide (65≤b.toNat)&&decide (b.toNat≤84)then
   if 1000000<20*n+((b.toNat:Int)-65)+1 then([],true)
   else match r with
    | []=>([⟨20*n+((b.toNat:Int)-65)+1,false⟩],false)
    | c::r'=>if c.toNat=90 then(⟨20*n+((b.toNat:Int)-65)+1,true⟩::(Xg r' 0 false).1,(Xg r' 0 false).2)
     else(⟨20*n+((b.toNat:Int)-65)+1,false⟩::(Xg (c::r') 0 false).1,(Xg (c::r') 0 false).2)
  else if decide (b.toNat=63)&& !inside then(⟨0,false⟩::(Xg r n inside).1,(Xg r n inside).2)
  else([],true)
 termination_by l=>l.length
def Q4 (s:BA):List Lt×Bool:=Xg s.data.toList 0 false
section
variable {D:List UInt8} {p:Nat} {n:Int} {ins:Bool} (h:p<D.length)
include h
variable (h1:¬ (85≤(ge D p).toNat∧(ge D p).toNat≤89))
include h1
variable (h2:¬ (65≤(ge D p).toNat∧(ge D p).toNat≤84))
include h2
end
def namL (fs:List Fr):List (BA×Int):=fs.zipIdx.foldl (fun m p=>XK m p.1.label (p.2:Int)) []
def ZbA (f:Fr) (label:BA):Option Hy:=(f.hyps++f.dummies).find? fun h=>decide (h.label=label)
theorem ge_z {α:Type} [Inhabited α] (x:α) (l:List α):ge (x::l) 0=x:=rfl
theorem ge_s {α:Type} [Inhabited α] (x:α) (l:List α) (k:Nat):ge (x::l) (k+1)=ge l k:=by simp[ge]
theorem ZpY {f:Fr} {s:BA} {k j:Nat} (hk:k<2) (h1:∀ i,i<k→∀ h∈Zdt f.hyps f.dummies i,¬ h.label=s) (hj:j< (Zdt f.hyps f.dummies k).length) (h2:∀ i,i<j→¬ (ge (Zdt f.hyps f.dummies k) i).label=s) (h3:(ge (Zdt f.hyps f.dummies k) j).label=s):ZbA f s=some (ge (Zdt f.hyps f.dummies k) j):=by
 have key:∀(l:List Hy) (j:Nat),j<l.length→(∀ i,i<j→¬ (ge l i).label=s)→(ge l j).label=s→l.find? (fun h=>decide (h.label=s))=some (ge l j):=by
  intro l
  induction l with
  | nil=>intro j hj;simp at hj
  | cons x r ih=>
   intro j hj h2 h3
   cases j with
   | zero=>simp only[ge_z]at h3 ⊢;simp[h3]
   | succ j=>
    have h4:=h2 0 oz
    simp only[ge_z,ge_s]at h3 h4 ⊢
    rw[List.find?_cons_of_neg (by simpa using h4)]
    exact ih j (by simpa using hj) (fun i hi=>by have:=h2 (i+1) oz;simpa only[ge_s]using this) h3
 unfold ZbA
 rw[List.find?_append]
 match k,hk with
 | 0,_=>simp only[Zdt,if_pos]at hj h2 h3 ⊢;rw[key _ _ hj h2 h3];rfl
 | 1,_=>
  simp only[Zdt,if_neg (show ¬ (1:Nat)=0 by omega)]at hj h2 h3 ⊢
  rw[List.find?_eq_none.2 fun x hx=>by simpa using h1 0 oz x (by simpa [Zdt]using hx),key _ _ hj h2 h3];rfl
theorem ZiQ {f:Fr} {s:BA} (h1:∀ i,i<2→∀ h∈Zdt f.hyps f.dummies i,¬ h.label=s):ZbA f s=none:=by
 unfold ZbA
 rw[List.find?_eq_none]
 intro x hx
 rcases List.mem_append.1 hx with hx | hx
 · simpa using h1 0 oz x (by simpa [Zdt]using hx)
 · simpa using h1 1 oz x (by simpa [Zdt]using hx)
theorem Zvz {f:Fr} {k:Nat} {x:Hy} (h:x∈Zdt f.hyps f.dummies k):x∈f.hyps++f.dummies:=by
 unfold Zdt at h
 split at h<;>simp[h]
def Ziu (f:Fr) (M:List (BA×Int)) (label:BA):Itm:=
 if decide (label=(⟨#[63]⟩:BA))then⟨0,[],0,false⟩
 else match ZbA f label with
  | some h=>⟨1,h.text,0,false⟩
  | none=>match Zy M label with
   | some n=>⟨2,[],n,false⟩
   | none=>⟨3,[],0,false⟩
section
variable {f:Fr} {M:List (BA×Int)} {s:BA}
end
def ZqA (l:List BA):Bool:=decide (0<l.length)&&decide (ge l 0=(⟨#[40]⟩:BA))
def isV (s x:BA):Bool:=decide (s=x)
def ZiJ (l:List BA) (s:BA):BA:=⟨(Lib.join (l.map (·.data.toList)) s.data.toList).toArray⟩
def Zlv (proof:List BA):Option (List BA×BA):=
 let k:=Qj (isV ⟨#[41]⟩) proof
 if k<0 then none
 else if((proof.take k.toNat).drop 1).any fun w=>!ZiI w then none
 else some ((proof.take k.toNat).drop 1,ZiJ (proof.drop (k.toNat+1)) ⟨#[]⟩)
def ZkY (l:List BA):Bool:=(List.range l.length).any fun j=>decide (ge l j∈l.take j)
def itemD (f:Fr) (M:List (BA×Int)) (labels:List BA) (tags:Nat) (l:Lt):Option Itm:=
 if l.number=0 then some ⟨0,[],0,l.tagged⟩
 else if l.number≤f.hyps.length then some ⟨1,(ge f.hyps (l.number-1).toNat).text,0,l.tagged⟩
 else if l.number≤((f.hyps.length+labels.length:Nat):Int)then some { Ziu f M (ge labels (l.number-1-f.hyps.length).toNat)with tagged:=l.tagged }
 else if l.number≤((f.hyps.length+labels.length+tags:Nat):Int)then some ⟨4,[],l.number-1-f.hyps.length-labels.length,l.tagged⟩
 else none
def ZpT (f:Fr) (M:List (BA×Int)) (labels:List BA):List Lt→Nat→Option (List Itm)
 | [],_=>some []
 | l::r,tags=>match itemD f M labels tags l with
  | none=>none
  | some x=>match ZpT f M labels r (if l.tagged then tags+1 else tags)with
   | none=>none
   | some xs=>some (x::xs)
def readD (f:Fr) (M:List (BA×Int)) (proof:List BA):Except Int (List Itm):=
 if !ZqA proof then if 2000<proof.length then .error 10 else .ok (proof.map (Ziu f M))
 else match Zlv proof with
  | none=>.error 20
  | some (labels,text)=>
   if ZkY labels||labels.any fun s=>f.hyps.any fun h=>decide (h.label=s)then .error 20
   else match ZpT f M labels (Q4 text).1 0 with
    | none=>.error 21
    | some xs=>if(Q4 text).2 then .error 21 else if 2000<xs.length then .error 10 else .ok xs
def Zuj (hs:List Hy) (sk:List (List BA)) (b j:Nat):Option Bd:=if(ge hs j).floating then some ⟨ge (ge hs j).text 1,(ge sk (b+j)).drop 1⟩else none
def Ql (hs:List Hy) (sk:List (List BA)) (b k:Nat):List Bd:=(List.range k).filterMap (Zuj hs sk b)
def ZdY (hs:List Hy) (sk:List (List BA)) (b j:Nat):Bool:=!(ge hs j).floating||decide (ge (ge sk (b+j)) 0=ge (ge hs j).text 0)
def Zsv (hs:List Hy) (sk:List (List BA)) (b:Nat) (l:List Bd) (j:Nat):Bool:=(ge hs j).floating||fitB (ge hs j).text l (ge sk (b+j))
def ZmN (vars:List BA) (wide:List Pr) (g:Fr) (sk:List (List BA)) (b:Nat):Except Int (List BA):=
 if !(List.range g.hyps.length).all (ZdY g.hyps sk b)then .error 24
 else if !(List.range g.hyps.length).all (Zsv g.hyps sk b (Ql g.hyps sk b g.hyps.length))then .error 25
 else if !XZ (ZQ (Ql g.hyps sk b g.hyps.length)) g.text 2000 then .error 15
 else if ZfE (Ql g.hyps sk b g.hyps.length) g.apart vars wide then .error 26
 else .ok (Xp (ZQ (Ql g.hyps sk b g.hyps.length)) g.text)
def useS (vars:List BA) (wide:List Pr) (g:Fr) (sk:List (List BA)):Except Int (List (List BA)):=
 if sk.length<g.hyps.length then .error 23
 else match ZmN vars wide g sk (sk.length-g.hyps.length)with
  | .error c=>.error c
  | .ok t=>.ok (sk.take (sk.length-g.hyps.length)++[t])
theorem Zjj (hs:List Hy) (sk:List (List BA)) (b k:Nat):Ql hs sk b (k+1)=Ql hs sk b k++(Zuj hs sk b k).toList:=by
 unfold Ql
 rw[List.range_succ,List.filterMap_append]
 cases h:Zuj hs sk b k<;>simp[h]
theorem Zmx (hs:List Hy) (sk:List (List BA)) (b k:Nat):(Ql hs sk b k).length≤k:=by
 unfold Ql
 have:=List.length_filterMap_le (Zuj hs sk b) (List.range k)
 simpa using this
theorem Zji {hs:List Hy} {sk:List (List BA)} {b k m:Nat} (hm:∀ t∈sk,t.length≤m) (hb:b+k≤sk.length):∀ x∈Ql hs sk b k,x.text.length≤m:=by
 intro x hx
 obtain⟨j,hj,he⟩:=List.mem_filterMap.1 hx
 have hj:j<k:=by simpa using hj
 unfold Zuj at he
 split at he
 · cases he
   have:=hm _ (Zp (xs:=sk) (k:=b+j) oz)
   simp only[List.length_drop]
   omega
 · cases he
theorem Zad {p:Nat→Bool} {k:Nat} (h:∀ j,j<k→p j=true):(List.range k).all p=true:=List.all_eq_true.2 fun j hj=>h j (by simpa using hj)
theorem ZdF {p:Nat→Bool} {k j:Nat} (hj:j<k) (h:p j=false):(List.range k).all p=false:=List.all_eq_false.2 ⟨j,by simpa using hj,by simp[h]⟩
section
variable {vars:List BA} {wide:List Pr} {g:Fr} {sk:List (List BA)} {j:Nat}
variable (h0:¬ sk.length<g.hyps.length) (hk:∀ j,j<g.hyps.length→ZdY g.hyps sk (sk.length-g.hyps.length) j=true) (hm:∀ j,j<g.hyps.length→Zsv g.hyps sk (sk.length-g.hyps.length) (Ql g.hyps sk (sk.length-g.hyps.length) g.hyps.length) j=true)
include h0 hk hm
end
def kindD (fs:List Fr) (vars:List BA) (f:Fr) (sk tg:List (List BA)) (x:Itm):Except Int (List (List BA)):=
 if x.kind=1 then .ok (sk++[x.text])
 else if x.kind=2 then useS vars f.wide (ge fs x.number.toNat) sk
 else if x.kind=4 then .ok (sk++[ge tg x.number.toNat])
 else if x.kind=0 then .error 27 else .error 22
def endD (f:Fr) (sk:List (List BA)) (k:Nat):Int×Int:=
 if sk.length≠1 then(23,(k:Int))else if !decide (ge sk 0=f.text)then(28,(k:Int))else(0,0)
structure Ms where
 sk:List (List BA)
 tg:List (List BA)
 n:Nat
 kn:Bool
 v:Int×Int
 did:Bool
def endM (f:Fr) (len:Nat) (m:Ms):Ms:=if m.n<len then m else { m with kn:=true,v:=endD f m.sk m.n }
def stepM (fs:List Fr) (vars:List BA) (f:Fr) (xs:List Itm) (m:Ms):Ms:=
 if m.kn then { m with did:=false }
 else match kindD fs vars f m.sk m.tg (ge xs m.n)with
  | .error c=> { m with kn:=true,v:=(c,(m.n:Int)),did:=false }
  | .ok s=>endM f xs.length ⟨s,if(ge xs m.n).tagged=true then m.tg++[ge s ((s.length:Int)-1).toNat]else m.tg,m.n+1,m.kn,m.v,true⟩
section
variable {fs:List Fr} {vars:List BA} {f:Fr} {xs:List Itm} {sk tg s:List (List BA)} {n:Nat} {kn:Bool} {v:Int×Int} {b:Bool} {c:Int}
end
def okF (g:Fr):Prop:=g.hyps.length≤2000∧∀ h∈g.hyps,h.floating=true→h.text.length=2
def runM (fs:List Fr) (vars:List BA) (f:Fr) (xs:List Itm):Nat→Ms→Ms
 | 0,m=>m
 | k+1,m=>runM fs vars f xs k (stepM fs vars f xs m)
def ZuA (f:Fr) (r:Except Int (List Itm)):List Itm×Ms:=
 match r with
 | .error c=>([],⟨[],[],0,true,(c,0),true⟩)
 | .ok xs=>(xs,endM f xs.length ⟨[],[],0,false,(0,0),true⟩)
def Zaw (d:Db) (z:Int):Int:=if ¬ ZcU d=0 then ZcU d else if z<0∨(d.frames.length:Int)≤z then 5 else 0
def okT (g:Fr):Prop:=0<g.text.length∧∀ h∈g.hyps,h.floating=true→¬ ge h.text 1=ge g.text 0
theorem ZxX {g:Fr} (hg:okT g) (sk:List (List BA)) (b:Nat):1≤(Xp (ZQ (Ql g.hyps sk b g.hyps.length)) g.text).length:=by
 obtain⟨h0,h1⟩:=hg
 have h2:Zy (ZQ (Ql g.hyps sk b g.hyps.length)) (ge g.text 0)=none:=by
  rw[ZeN,List.find?_eq_none.2,Option.map_none]
  intro x hx
  obtain⟨j,hj,he⟩:=List.mem_filterMap.1 hx
  have hj:j<g.hyps.length:=by simpa using hj
  unfold Zuj at he
  split at he
  · rename_i hf
    cases he
    simpa using h1 _ (Zp hj) hf
  · cases he
 have h3:=QD (M:=ZQ (Ql g.hyps sk b g.hyps.length)) h0
 have h4:=Zav (ZQ (Ql g.hyps sk b g.hyps.length)) g.text 1
 rw[h3,List.length_append]at h4
 simp only[XP,h2,List.length_singleton]at h4
 omega
def tagsN (xs:List Itm) (k:Nat):Nat:=((xs.take k).filter (·.tagged)).length
structure InvM (xs:List Itm) (m:Ms):Prop where
 sk:∀ t∈m.sk,1≤t.length∧t.length≤2000
 tg:∀ t∈m.tg,1≤t.length∧t.length≤2000
 skn:m.sk.length≤m.n
 tgn:m.tg.length=tagsN xs m.n
 n:m.n≤xs.length
 kn:m.kn=false→m.n<xs.length
theorem Zvs {vars:List BA} {wide:List Pr} {g:Fr} {sk:List (List BA)} {b:Nat} {t:List BA} (hg:okT g) (h:ZmN vars wide g sk b= .ok t):1≤t.length∧t.length≤2000:=by
 unfold ZmN at h
 split at h
 · cases h
 split at h
 · cases h
 split at h
 · cases h
 split at h
 · cases h
 · rename_i h3 _
   injection h with h
   subst h
   simp only[XZ,Bool.not_eq_true',decide_eq_false_iff_not,Nat.not_le,Nat.not_lt]at h3
   exact⟨ZxX hg sk b,h3⟩
def ZwT (f:Fr):Prop:=∀ h∈f.hyps++f.dummies,1≤h.text.length∧h.text.length≤2000
section
variable {fs:List Fr} {vars:List BA} {f:Fr} {xs:List Itm} {m:Ms}
end
def ZpS (d:Db) (n:Nat) (t:List BA):List Itm:=(ZuA (ge d.frames n) (readD (ge d.frames n) (namL (d.frames.take n)) t)).1
def mchV (d:Db) (n:Nat) (t:List BA):Ms:=(ZuA (ge d.frames n) (readD (ge d.frames n) (namL (d.frames.take n)) t)).2
section
variable {fs:List Fr} {vars:List BA} {f:Fr} {xs:List Itm} {m:Ms}
end
section
variable {d:Db}
theorem ZqG (h:ZcU d=0):∀ k,k<d.frames.length→frE d k=0:=by
 unfold ZcU at h
 split at h
 · cases h
 split at h
 · rename_i h2
   rw[h]at h2
   simp at h2
 · exact Xw h
theorem Zhk (h:ZcU d=0):Zdu d=0:=by
 unfold ZcU at h
 split at h
 · cases h
 split at h
 · rename_i h2
   rw[h]at h2
   simp at h2
 · rename_i h2
   simpa using h2
theorem Zon (h:Zdu d=0):∀ v∈d.vars,¬ v∈d.consts:=by
 unfold Zdu at h
 split at h
 · rename_i h2
   rw[h]at h2
   simp at h2
 · intro v hv hc
   obtain⟨j,hj,rfl⟩:=Xc hv
   have:=Xw h j hj
   unfold ZkU at this
   split at this
   · cases this
   split at this
   · cases this
   · rename_i h3
     simp[hc]at h3
theorem ZsN {k:Nat} {y:Hy} {bs:List Hy} {dm:Bool} (h:ZpX d k y bs dm=0):(1≤y.text.length∧y.text.length≤200)∧(y.floating=true→y.text.length=2∧ge y.text 1∈d.vars):=by
 have h1:=Zbz h
 unfold ZpX at h
 split at h
 · cases h
 split at h
 · cases h
 split at h
 · cases h
 split at h
 · cases h
 rename_i h4
 have h5:y.floating=true→y.text.length=2∧ge y.text 1∈d.vars:=fun hf=>⟨YN h1 hf,by simp[Zgb,hf]at h4;exact h4.2⟩
 refine⟨?_,h5⟩
 cases hf:y.floating with
 | true=>have:=(h5 hf).1;omega
 | false=>simp[ZaS,hf]at h1;have:=List.length_pos_iff.2 h1.2.1;omega
theorem ZwY (hs:Zdu d=0) {k:Nat} (h:frE d k=0):okF (ge d.frames k)∧okT (ge d.frames k)∧ZwT (ge d.frames k):=by
 have hz:=ZlY h
 unfold frE ZwX at h
 split at h
 · cases h
 split at h
 · cases h
 split at h
 · cases h
 split at h
 · rename_i h2
   rw[h]at h2
   simp at h2
 rename_i h3
 have h3:Zu0 d k=0:=by simpa using h3
 have hy:∀ y∈(ge d.frames k).hyps++(ge d.frames k).dummies,(1≤y.text.length∧y.text.length≤200)∧(y.floating=true→y.text.length=2∧ge y.text 1∈d.vars):=fun y hy=>by
  obtain⟨j,hj,rfl⟩:=Xc hy
  exact ZsN (Xw h3 j hj)
 split at h
 · cases h
 rename_i h4
 split at h
 · rename_i h2
   rw[h]at h2
   simp at h2
 rename_i h5
 have hc:ge (ge d.frames k).text 0∈d.consts:=by
  have h6:ZbB d (ge d.frames k).text=0:=by simpa using h5
  unfold ZbB Znv at h6
  split at h6
  · rename_i h7
    simp only[Bool.and_eq_true,decide_eq_true_eq]at h7
    exact h7.1
  · cases h6
 have hp:0< (ge d.frames k).text.length:=by
  simp only[Bool.or_eq_true,decide_eq_true_eq,not_or]at h4
  omega
 refine⟨⟨oz,fun y hy' hf=>((hy y (List.mem_append_left _ hy')).2 hf).1⟩,⟨hp,fun y hy' hf e=>?_⟩,fun y hy'=>⟨(hy y hy').1.1,Nat.le_trans (hy y hy').1.2 oz⟩⟩
 have:=((hy y (List.mem_append_left _ hy')).2 hf).2
 rw[e]at this
 exact Zon hs _ this hc
theorem ZcT (h:ZcU d=0):∀ g∈d.frames,okF g∧okT g∧ZwT g:=fun g hg=>by
 obtain⟨k,hk,rfl⟩:=Xc hg
 exact ZwY (Zhk h) (ZqG h k hk)
theorem Zc1 {z:Int} (h:Zaw d z=0):ZcU d=0∧0≤z∧z< (d.frames.length:Int):=by
 unfold Zaw at h
 split at h
 · rename_i h2;exact absurd h h2
 split at h
 · cases h
 · rename_i h1 h2
   exact⟨by simpa using h1,oz,oz⟩
end
theorem cmpX_lt {x y:BA}:ZaC x y<0↔Op.bytesLess x.toList y.toList=true:=by
 unfold ZaC
 split
 · rename_i h;simp[h]
 · rename_i h
   split<;>simp[h]
theorem cmpX_eq {x y:BA}:ZaC x y=0↔x=y:=by
 unfold ZaC
 split
 · rename_i h
   constructor
   · intro e;omega
   · rintro rfl;rw[Zac]at h;cases h
 · split
   · rename_i h;simp[h]
   · rename_i h;simp[h]
theorem cmpT_lt {p q:Pr}:Zgp p q<0↔ltP p q=true:=by
 unfold Zgp ltP
 split
 · rename_i h
   rw[cmpX_eq]at h
   rw[cmpX_lt,h,Zac]
   simp
 · rename_i h
   rw[cmpX_eq]at h
   rw[cmpX_lt]
   simp[h]
theorem Ztg {p q:Pr}:Zgp p q=0↔p=q:=by
 unfold Zgp
 split
 · rename_i h
   rw[cmpX_eq]at h ⊢
   constructor
   · intro h2;cases p;cases q;simp_all
   · rintro rfl;rfl
 · rename_i h
   constructor
   · intro e;exact absurd e h
   · rintro rfl;exact absurd (cmpX_eq.2 rfl) h
theorem Zka (x:Pr):ltP x x=false:=by simp[ltP,Zac]
theorem Zj9 {x y:Pr} (h1:ltP x y=false) (h2:ltP y x=false):x=y:=by
 cases h3:Zrh x y with
 | true=>simp only[Zrh,Bool.and_eq_true,decide_eq_true_eq]at h3;cases x;cases y;simp_all
 | false=>have:=ZiC h1 h3;rw[h2]at this;cases this
def Zc4 (ps:List Pr):Nat→List Pr
 | 0=>[]
 | m+1=>if m=0∨ ¬ ge ps m=ge ps (m-1)then Zc4 ps m++[ge ps m]else Zc4 ps m
theorem Zhg {ps:List Pr} {m:Nat} (h:m=0∨ ¬ ge ps m=ge ps (m-1)):Zc4 ps (m+1)=Zc4 ps m++[ge ps m]:=by rw[Zc4,if_pos h]
theorem Zfe {ps:List Pr} {m:Nat} (h0:0<m) (h:ge ps m=ge ps (m-1)):Zc4 ps (m+1)=Zc4 ps m:=by rw[Zc4,if_neg (by rintro(e | e);omega;exact e h)]
theorem Zl8 (ps:List Pr):∀ m,(Zc4 ps m).length≤m
 | 0=>by simp[Zc4]
 | m+1=>by
  have:=Zl8 ps m
  rw[Zc4]
  split
  · simp only[List.length_append,List.length_singleton];omega
  · omega
def WkP (l:List Pr):Prop:=l.Pairwise fun x y=>ltP y x=false
theorem WkP.at {l:List Pr} (h:WkP l) {i j:Nat} (hij:i<j) (hj:j<l.length):ltP (ge l j) (ge l i)=false:=by
 rw[Yj hj,Yj (show i<l.length by omega)]
 exact List.pairwise_iff_getElem.1 h i j oz hj hij
theorem ZeO {α:Type} [Inhabited α] {l:List α} {x:α} {m:Nat} (h:x∈l.take m):∃ i,i<m∧i<l.length∧x=ge l i:=by
 obtain⟨i,hi,rfl⟩:=List.getElem_of_mem h
 rw[List.length_take]at hi
 exact⟨i,oz,oz,by rw[Yj oz,List.getElem_take]⟩
theorem Zl7 {ps:List Pr} (h:WkP ps):∀ m,m≤ps.length→SrtP (Zc4 ps m)∧∀ x,x∈Zc4 ps m↔x∈ps.take m
 | 0,_=>⟨List.Pairwise.nil,fun x=>by simp[Zc4]⟩
 | m+1,hm=>by
  obtain⟨h1,h2⟩:=Zl7 h m oz
  by_cases hc:m=0∨ ¬ ge ps m=ge ps (m-1)
  · rw[Zhg hc,ZZ oz]
    refine⟨List.pairwise_append.2 ⟨h1,List.pairwise_singleton _ _,fun x hx y hy=>?_⟩,fun x=>by simp only[List.mem_append,h2]⟩
    rw[List.mem_singleton.1 hy]
    obtain⟨i,hi,hil,rfl⟩:=ZeO ((h2 x).1 hx)
    have h3:=h.at hi oz
    cases h4:ltP (ge ps i) (ge ps m)with
    | true=>rfl
    | false=>
     have he:=Zj9 h4 h3
     rcases hc with rfl | hc
     · omega
     · have h5:=h.at (show m-1<m by omega) oz
       have h6:ltP (ge ps (m-1)) (ge ps m)=false:=by
        rcases Nat.lt_or_ge i (m-1)with h7 | h7
        · rw[←he];exact h.at h7 oz
        · rw[show m-1=i by omega,he];exact Zka _
       exact absurd (Zj9 h5 h6) hc
  · have hm0:0<m:=by omega
    have he:ge ps m=ge ps (m-1):=by simpa [show ¬ m=0 by omega]using hc
    rw[Zfe hm0 he]
    refine⟨h1,fun x=>?_⟩
    rw[h2,ZZ oz,List.mem_append]
    constructor
    · exact .inl
    · rintro(h3 | h3)
      · exact h3
      · rw[List.mem_singleton.1 h3,he]
        refine List.mem_of_getElem? (i:=m-1) ?_
        rw[List.getElem?_take,if_pos oz,List.getElem?_eq_getElem oz,Yj oz]
def Zx0 (l qs:List Pr):Prop:=SrtP qs∧(∀ p,p∈qs↔p∈l.map ZcG)∧qs.length≤l.length
theorem srt_of {l ps:List Pr} (hp:ps.Perm (l.map ZcG)) (hw:WkP ps):Zx0 l (Zc4 ps ps.length):=by
 obtain⟨h1,h2⟩:=Zl7 hw ps.length nlr
 refine⟨h1,fun p=>?_,?_⟩
 · rw[h2,List.take_length]
   exact hp.mem_iff
 · have h3:=Zl8 ps ps.length
   have h4:=hp.length_eq
   rw[List.length_map]at h4
   omega
theorem SrtP.at {l:List Pr} (h:SrtP l) {i j:Nat} (hij:i<j) (hj:j<l.length):ltP (ge l i) (ge l j)=true:=by
 rw[Yj hj,Yj (show i<l.length by omega)]
 exact List.pairwise_iff_getElem.1 h i j oz hj hij
theorem Zug {qs:List Pr} {p:Pr} {i j:Nat} (hs:SrtP qs) (hij:j≤i) (h1:∀ k,k<i→ltP (ge qs k) p=true) (h2:∀ k,j≤k→k<qs.length→ltP (ge qs k) p=false):p∈qs↔i<qs.length∧ge qs i=p:=by
 constructor
 · intro hp
   obtain⟨k,hk,rfl⟩:=Xc hp
   have h3:i≤k:=Nat.le_of_not_lt fun h=>by have:=h1 k h;rw[Zka]at this;cases this
   rcases Nat.lt_or_ge i k with h4 | h4
   · have:=hs.at h4 hk
     rw[h2 i hij oz]at this
     cases this
   · have:i=k:=by omega
     subst this
     exact⟨hk,rfl⟩
 · rintro⟨h3,rfl⟩
   exact Zp h3
theorem ZuJ {x y:Pr} (h1:x.a=y.a) (h2:x.b=y.b):x=y:=by cases x;cases y;simp_all
section
variable {ps rs:List Pr} {i j k m:Nat} {x:Pr}
theorem Zxh (h:1≤ps.length):Zc4 ps 1=ps.take 1:=by
 cases ps with
 | nil=>simp at h
 | cons y r=>rfl
theorem Zfd (h:ps.length<2):ps=Zc4 ps ps.length:=by
 match ps,h with
 | [],_=>rfl
 | [y],_=>rfl
theorem Zkt (h:¬ k<ps.length) (hk:k≤ps.length) (h2:Zc4 ps k=ps.take k):ps=Zc4 ps ps.length:=by
 have:k=ps.length:=by omega
 subst this
 rw[h2,List.take_length]
theorem Ztc (hk:k<ps.length) (h2:Zc4 ps k=ps.take k) (h3:¬ ge ps k=ge ps (k-1)):Zc4 ps (k+1)=ps.take (k+1):=by
 rw[Zhg (.inr h3),h2,ZZ hk]
theorem Zp6 (h:¬ i=j):ge (rs.set j x) i=ge rs i:=by
 simp only[ge,List.getD_eq_getElem?_getD]
 rw[List.getElem?_set_ne (fun e=>h e.symm)]
theorem take_set (hj:j<rs.length):(rs.set j x).take (j+1)=rs.take j++[x]:=by
 have h1:j< (rs.set j x).length:=by rw[List.length_set];exact hj
 rw[ZZ h1,List.take_set_of_le nlr]
 congr 2
 rw[Yj h1,List.getElem_set_self]
end
def bsN (qs:List Pr) (p:Pr):Nat:=(qs.filter fun q=>ltP q p).length
section
variable {qs:List Pr} {p:Pr} {i j h:Nat}
theorem bs_pos (hij:j≤i) (hi:i≤qs.length) (h1:∀ k,k<i→ltP (ge qs k) p=true) (h2:∀ k,j≤k→k<qs.length→ltP (ge qs k) p=false):i=bsN qs p:=by
 have e1:(qs.take i).filter (fun q=>ltP q p)=qs.take i:=List.filter_eq_self.2 fun x hx=>by
  obtain⟨k,hk,_,rfl⟩:=ZeO hx
  exact h1 k hk
 have e2:(qs.drop i).filter (fun q=>ltP q p)=[]:=List.filter_eq_nil_iff.2 fun x hx=>by
  obtain⟨k,hk,rfl⟩:=List.mem_drop_iff_getElem.1 hx
  have:=h2 (i+k) oz oz
  rw[Yj oz]at this
  simpa [Nat.add_comm]using this
 unfold bsN
 have e3:qs.filter (fun q=>ltP q p)=(qs.take i).filter (fun q=>ltP q p)++(qs.drop i).filter (fun q=>ltP q p):=by rw[←List.filter_append,List.take_append_drop]
 rw[e3,e1,e2,List.append_nil,List.length_take]
 omega
theorem bs_dec (hs:SrtP qs) (hij:j≤i) (h1:∀ k,k<i→ltP (ge qs k) p=true) (h2:∀ k,j≤k→k<qs.length→ltP (ge qs k) p=false):(decide ((i:Int)< (qs.length:Int))&&decide (Zgp (ge qs i) p=0))=decide (p∈qs):=by
 rw[←Bool.decide_and]
 congr 1
 rw[Ztg]
 exact propext ((Zug hs hij h1 h2).trans ⟨fun⟨a,b⟩=>⟨oz,b⟩,fun⟨a,b⟩=>⟨oz,b⟩⟩).symm
theorem bs_up (hs:SrtP qs) (hh:h<qs.length) (hc:Zgp (ge qs h) p<0):∀ k,k<h+1→ltP (ge qs k) p=true:=fun k hk=>by
 rw[cmpT_lt]at hc
 rcases Nat.lt_or_ge k h with h3 | h3
 · exact ZaP (hs.at h3 hh) hc
 · rw[show k=h by omega];exact hc
theorem ZxP (hs:SrtP qs) (hc:¬ Zgp (ge qs h) p<0):∀ k,h≤k→k<qs.length→ltP (ge qs k) p=false:=fun k hk hkl=>by
 rw[cmpT_lt]at hc
 have hc:ltP (ge qs h) p=false:=by simpa using hc
 rcases Nat.lt_or_ge h k with h3 | h3
 · cases h4:ltP (ge qs k) p with
   | false=>rfl
   | true=>have:=ZaP (hs.at h3 hkl) h4;rw[hc]at this;cases this
 · rw[show k=h by omega];exact hc
end

section
variable {α β:Type} [Inhabited α] {f:α→List β} {g:α→β} {xs:List α} {k:Nat} {q:List β}
theorem Zki (hk:k<xs.length):(xs.take (k+1)).flatMap f=(xs.take k).flatMap f++f (ge xs k):=by
 rw[ZZ hk,List.flatMap_append]
 simp
theorem Zu5 (hk:k<xs.length) (h:q<+:f (ge xs k)):(xs.take k).flatMap f++q<+:xs.flatMap f:=by
 obtain⟨r,hr⟩:=h
 refine⟨r++(xs.drop (k+1)).flatMap f,?_⟩
 have e:xs.flatMap f=((xs.take (k+1))++xs.drop (k+1)).flatMap f:=by rw[List.take_append_drop]
 rw[e,List.flatMap_append,Zki hk,←hr]
 simp
theorem Zwx (hk:k<xs.length):(xs.take k).map g++[g (ge xs k)]<+:xs.map g:=by
 refine⟨(xs.drop (k+1)).map g,?_⟩
 have e:xs.map g=((xs.take (k+1))++xs.drop (k+1)).map g:=by rw[List.take_append_drop]
 rw[e,List.map_append,ZcK hk]
end
def Zri (l:List Bd) (us:List BA) (s:BA):List BA:=Zba (XP (ZQ l) s) (QP us)
def rqB (l:List Bd) (us:List BA) (p:Pr) (x:BA):List Pr:=(Zri l us p.b).map fun y=>ZcG ⟨x,y⟩
def rqA (l:List Bd) (us:List BA) (p:Pr):List Pr:=(Zri l us p.a).flatMap (rqB l us p)
theorem ZuF (l:List Bd) (ap:List Pr) (us:List BA):ZvX l ap us=ap.flatMap (rqA l us):=rfl
theorem rq_pre {l:List Bd} {us:List BA} {ap:List Pr} {k j i:Nat} (hk:k<ap.length) (hj:j< (Zri l us (ge ap k).a).length) (hi:i< (Zri l us (ge ap k).b).length):
 (ap.take k).flatMap (rqA l us)++((Zri l us (ge ap k).a).take j).flatMap (rqB l us (ge ap k))++((Zri l us (ge ap k).b).take i).map (fun y=>ZcG ⟨ge (Zri l us (ge ap k).a) j,y⟩)++[ZcG ⟨ge (Zri l us (ge ap k).a) j,ge (Zri l us (ge ap k).b) i⟩]<+:ZvX l ap us:=by
 rw[ZuF,List.append_assoc,List.append_assoc]
 refine Zu5 hk (Zu5 hj ?_)
 exact Zwx (g:=fun y=>ZcG ⟨ge (Zri l us (ge ap k).a) j,y⟩) hi
theorem map_of {l rs:List Pr} (h1:rs.length=l.length) (h2:∀ i,i<l.length→ge rs i=ZcG (ge l i)):rs=l.map ZcG:=by
 apply List.ext_getElem (by simpa using h1)
 intro i hi hi2
 have h3:i<l.length:=by omega
 have:=h2 i h3
 rw[Yj hi,Yj h3]at this
 simpa using this
section
variable {l:List Bd} {ap wd qs pre:List Pr} {us:List BA} {p:Pr}
theorem Zvh (h:Zx0 wd qs):(!decide (p∈qs)||decide (p.a=p.b))=Zjy wd p:=by
 unfold Zjy
 rw[show decide (p∈qs)=decide (p∈wd.map ZcG)from decide_eq_decide.2 (h.2.1 p)]
theorem ZxQ (hp:(pre++[p])<+:ZvX l ap us) (h1:∀ x∈pre,Zjy wd x=false) (h2:Zjy wd p=true):Zq1 l ap us wd=some p:=by
 obtain⟨r,hr⟩:=hp
 unfold Zq1
 rw[←hr,List.append_assoc,List.find?_append,List.find?_eq_none.2 (fun x hx=>by simp[h1 x hx])]
 simp[h2]
theorem Zuh (h1:∀ x∈ZvX l ap us,Zjy wd x=false):Zq1 l ap us wd=none:=List.find?_eq_none.2 fun x hx=>by simp[h1 x hx]
theorem ZrU (h1:∀ x∈pre,Zjy wd x=false) (h2:Zjy wd p=false):∀ x∈pre++[p],Zjy wd x=false:=fun x hx=>by
 rcases List.mem_append.1 hx with hx | hx
 · exact h1 x hx
 · rw[List.mem_singleton.1 hx];exact h2
end
def InvR (D:List UInt8) (i:Nat) (out:List Lt) (n:Int) (ins fresh:Bool):Prop:=
 (fresh=true→ins=false∧n=0∧∃ pre x,out=pre++[⟨x,false⟩]∧Xg D 0 false=if i<D.length∧(ge D i).toNat=90 then(pre++⟨x,true⟩::(Xg (D.drop (i+1)) 0 false).1,(Xg (D.drop (i+1)) 0 false).2)else(out++(Xg (D.drop i) 0 false).1,(Xg (D.drop i) 0 false).2))∧
 (fresh=false→Xg D 0 false=(out++(Xg (D.drop i) n ins).1,(Xg (D.drop i) n ins).2))
section
variable {D:List UInt8} {i:Nat} {out:List Lt} {n:Int} {ins fresh:Bool}
variable (h:InvR D i out n ins fresh) (hi:i<D.length)
include h hi
end
abbrev endL (t:List BA):Nat:=(Qj (isV ⟨#[41]⟩) t).toNat
abbrev cutL (t:List BA):List BA:=(t.take (endL t)).drop 1
def letE (t:List BA):List BA×List Lt×Int:=
 if ZqA t=true then
  match Zlv t with
  | none=>([],[],20)
  | some z=>if ZkY z.1=true then([],[],20)else if(Q4 z.2).2=true then([],[],21)else if 2000< (Q4 z.2).1.length then([],[],10)else(z.1,(Q4 z.2).1,0)
 else([],[],2)
section
variable {t:List BA} (h0:ZqA t=true)
include h0
variable {z:List BA×BA} (hz:Zlv t=some z)
include hz
variable (h1:ZkY z.1=false)
include h1
variable (h2:(Q4 z.2).2=false)
include h2
end
theorem ZvY {S:Nat→Prop} {w:World} {v:Value} {i:Int} (h0:0≤i) (h:Rel S w (.int i) v):Rel S w (.int ((i.toNat:Nat):Int)) v:=by
 rw[Int.toNat_of_nonneg h0]
 exact h
section
variable {d:Db} {k:Nat} {fs:List BA} {hm:List (BA×Hy)} {tm:List (BA×BA)} {bf:List Hy}
theorem KInv.fr' (h:KInv d k fs hm tm bf) (hk:k<d.frames.length) (s:BA):s∈QE fs (ge d.frames k).label↔frL d (k+1) s=true:=by
 rw[ZlJ,frL,Zhz hk,Bool.or_eq_true,h.fr s,frL,decide_eq_true_eq]
 exact or_congr Iff.rfl eq_comm
theorem ZlQ (h:KInv d k fs hm tm bf) (hk:k<d.frames.length) {y:Hy} {bs:List Hy} {ts:List (BA×BA)} {dm:Bool} (ht:TyI bs ts):
 Zg8 d.consts d.vars (QE fs (ge d.frames k).label) hm tm (lsK bs) ts y dm=ZpX d k y bs dm:=by
 unfold Zg8 ZpX
 by_cases h1:ZaS y dm=true
 · rw[if_pos h1,if_pos h1]
 rw[if_neg h1,if_neg h1]
 have h1':ZaS y dm=false:=by simpa using h1
 have q1:(((decide (y.label∈d.consts)||decide (y.label∈d.vars))||decide (y.label∈QE fs (ge d.frames k).label))||decide (y.label∈lsK bs))=((frL d (k+1) y.label||ZfN d y.label)||bs.any (Zu4 y)):=by
  rw[show decide (y.label∈QE fs (ge d.frames k).label)=frL d (k+1) y.label by rw[Bool.eq_iff_iff,decide_eq_true_eq];exact h.fr' hk _,
   show decide (y.label∈lsK bs)=bs.any (Zu4 y) by rw[Bool.eq_iff_iff,decide_eq_true_eq,ZwD,List.any_eq_true];simp[Zu4],←ZfN,Bool.or_comm (ZfN d y.label)]
 rw[q1]
 by_cases h2:(frL d (k+1) y.label||ZfN d y.label)=true
 · rw[if_pos (by rw[h2];rfl),if_pos h2]
 rw[if_neg h2,show(frL d (k+1) y.label||ZfN d y.label)=false by simpa using h2,Bool.false_or]
 by_cases h3:bs.any (Zu4 y)=true
 · rw[if_pos h3,if_pos h3]
 rw[if_neg h3,if_neg h3]
 change (if Zgb d y then 12 else _)=_
 by_cases h4:Zgb d y=true
 · rw[if_pos h4,if_pos h4]
 rw[if_neg h4,if_neg h4,h.hy.bad]
 cases hf:y.floating with
 | true=>
  have hl:=YN h1' hf
  simp only[Bool.not_true,Bool.false_and,Bool.false_eq_true,if_false,Bool.true_and]
  rw[h.ty.bad y hl,ht.bad y hl,ht.have y hl,List.any_append]
 | false=>
  simp only[Bool.not_false,Bool.false_and,Bool.false_eq_true,if_false,Bool.true_and]
  have hl:(decide (((y.text.length:Nat):Int)=0)||decide (200< ((y.text.length:Nat):Int)))=false:=by
   have:=h1'
   simp only[ZaS,hf,Bool.not_false,Bool.true_and,Bool.or_eq_false_iff]at this
   simpa using this.2
  rw[ZhT,hl]
  simp
theorem ZeV {d:Db} {k:Nat} {y:Hy} {bs:List Hy} {dm:Bool} (h:ZpX d k y bs dm=0):
 bs.any (Zu4 y)=false∧(y.floating=true→(oth d k++bs).any (ZwO y)=false∧bs.any (hOf y)=false)∧(oth d k).any (ZwP y)=false:=by
 unfold ZpX at h
 by_cases h1:ZaS y dm=true
 · rw[if_pos h1]at h;exact absurd h dz
 rw[if_neg h1]at h
 by_cases h2:(frL d (k+1) y.label||ZfN d y.label)=true
 · rw[if_pos h2]at h;exact absurd h dz
 rw[if_neg h2]at h
 by_cases h3:bs.any (Zu4 y)=true
 · rw[if_pos h3]at h;exact absurd h dz
 rw[if_neg h3]at h
 by_cases h4:Zgb d y=true
 · rw[if_pos h4]at h;exact absurd h dz
 rw[if_neg h4]at h
 by_cases h5:(!y.floating&& !decide (ZbB d y.text=0))=true
 · rw[if_pos h5]at h;simp[h]at h5
 rw[if_neg h5]at h
 by_cases h6:(y.floating&& (oth d k++bs).any (ZwO y))=true
 · rw[if_pos h6]at h;exact absurd h dz
 rw[if_neg h6]at h
 by_cases h7:(y.floating&&bs.any (hOf y))=true
 · rw[if_pos h7]at h;exact absurd h dz
 rw[if_neg h7]at h
 by_cases h8:(oth d k).any (ZwP y)=true
 · rw[if_pos h8]at h;exact absurd h dz
 exact⟨(Bool.not_eq_true _).mp h3,fun hf=>⟨by rw[hf,Bool.true_and]at h6;exact(Bool.not_eq_true _).mp h6,by rw[hf,Bool.true_and]at h7;exact(Bool.not_eq_true _).mp h7⟩,(Bool.not_eq_true _).mp h8⟩
theorem ZpC (h:∀ j,j< (alH (ge d.frames k)).length→ZuZ d k j=0):∀ i,i≤(alH (ge d.frames k)).length→TyI ((alH (ge d.frames k)).take i) (tsK ((alH (ge d.frames k)).take i)):=by
 intro i
 induction i with
 | zero=>intro _;exact⟨fun x hx=>by simp at hx,fun v t ht=>by simp[tsK,Zaq]at ht⟩
 | succ i ih=>
  intro hi
  have h0:=h i oz
  rw[ZZ oz,Zcr]
  exact ZkW (ih oz) (fun hf=>YN (Zbz h0) hf) fun hf=>((ZeV h0).2.1 hf).2
theorem Zsy (h:KInv d k fs hm tm bf) (hk:k<d.frames.length):Xy (alH (ge d.frames k)).length (hyK d.consts d.vars fs hm tm (ge d.frames k))=Zu0 d k:=by
 have key:∀ i,i< (alH (ge d.frames k)).length→(∀ j,j<i→ZuZ d k j=0)→hyK d.consts d.vars fs hm tm (ge d.frames k) i=ZuZ d k i∧TyI ((alH (ge d.frames k)).take i) (tsK ((alH (ge d.frames k)).take i)):=by
  intro i
  induction i with
  | zero=>
   intro _ _
   have ht:TyI ((alH (ge d.frames k)).take 0) (tsK ((alH (ge d.frames k)).take 0)):=⟨fun x hx=>by simp at hx,fun v t ht=>by simp[tsK,Zaq]at ht⟩
   exact⟨ZlQ h hk ht,ht⟩
  | succ i ih=>
   intro hi hj
   have h0:=hj i oz
   have ht:TyI ((alH (ge d.frames k)).take (i+1)) (tsK ((alH (ge d.frames k)).take (i+1))):=by
    rw[ZZ oz,Zcr]
    exact ZkW (ih oz fun j hj'=>hj j oz).2 (fun hf=>YN (Zbz h0) hf) fun hf=>((ZeV h0).2.1 hf).2
   exact⟨ZlQ h hk ht,ht⟩
 exact(ZiW fun i hi hj=>(key i hi hj).1.symm).symm
theorem ZmQ:∀ {l:List Hy},(∀ i,i<l.length→(ge l i).floating=true→(ge l i).text.length=2∧(l.take i).any (hOf (ge l i))=false)→(ZhR l).Nodup:=by
 intro l h
 have key:∀ i,i≤l.length→(ZhR (l.take i)).Nodup:=by
  intro i
  induction i with
  | zero=>intro _;simp[ZhR]
  | succ i ih=>
   intro hi
   rw[ZhR,Xs oz,List.map_append]
   by_cases hf:(ge l i).floating=true
   · simp only[hf,if_true,List.map_cons,List.map_nil]
     rw[List.nodup_append]
     refine⟨ih oz,by simp,fun x hx z hz e=>?_⟩
     rw[List.mem_singleton.1 hz]at e
     obtain⟨w,hw,rfl⟩:=List.mem_map.1 hx
     rw[List.mem_filter]at hw
     have h1:=h i oz hf
     have h2:=List.any_eq_false.1 h1.2 w hw.1
     refine h2 ?_
     rw[hOf,ZbF h1.1]
     obtain⟨q,hq,rfl⟩:=Xc hw.1
     have hq':q<i:=by simp at hq;omega
     have e2:ge (l.take i) q=ge l q:=by simp[ge,List.getD_eq_getElem?_getD,hq']
     rw[e2]at hw e ⊢
     exact ofB_one.2 ⟨by simpa using hw.2,(h q oz (by simpa using hw.2)).1,e⟩
   · simp only[hf,Bool.false_eq_true,if_false,List.map_nil,List.append_nil]
     exact ih oz
 have:=key l.length nlr
 rwa [ZX nlr]at this
theorem ZwV {α:Type} [Inhabited α] {xs ys:List α} {i:Nat} (h:i<xs.length):ge (xs++ys) i=ge xs i:=by
 simp[ge,List.getD_eq_getElem?_getD,List.getElem?_append_left h]
theorem ZvQ (h:∀ j,j< (alH (ge d.frames k)).length→ZuZ d k j=0):ZuE d.vars (ge d.frames k)=Zx1 d (ge d.frames k):=by
 have hf0:∀ i,i< (ge d.frames k).hyps.length→(ge (ge d.frames k).hyps i).floating=true→(ge (ge d.frames k).hyps i).text.length=2∧((ge d.frames k).hyps.take i).any (hOf (ge (ge d.frames k).hyps i))=false:=fun i hi hf=>by
  have h0:=h i (by simp[alH];omega)
  rw[ZuZ]at h0
  rw[ZwV hi]at h0
  rw[List.take_append_of_le_length oz]at h0
  exact⟨YN (Zbz h0) hf,((ZeV h0).2.1 hf).2⟩
 have hnd:=ZmQ hf0
 have hm0:ZlN d.vars (ge d.frames k)=Zdh d (ge d.frames k):=rfl
 have hmn:(Zdh d (ge d.frames k)).Nodup:=(Zpt _ _).1
 unfold ZuE Zx1
 rw[Zq5 rfl,hm0]
 have e1:(ge d.frames k).hyps.all (Znp (Zdh d (ge d.frames k)))=(ge d.frames k).hyps.all (hIn (Zdh d (ge d.frames k))):=by
  rw[Bool.eq_iff_iff,List.all_eq_true,List.all_eq_true]
  refine forall_congr' fun x=>⟨fun hx hm=>?_,fun hx hm=>?_⟩<;>have:=hx hm
  · obtain⟨i,hi,rfl⟩:=Xc hm
    cases hf:(ge (ge d.frames k).hyps i).floating with
    | false=>simp[hIn,hf]
    | true=>
     simp only[Znp,hf,Bool.not_true,Bool.false_or,decide_eq_true_eq]at this
     simp[hIn,ofB,hf,(hf0 i hi hf).1,this]
  · obtain⟨i,hi,rfl⟩:=Xc hm
    cases hf:(ge (ge d.frames k).hyps i).floating with
    | false=>simp[Znp,hf]
    | true=>
     simp only[hIn,ofB,hf,Bool.not_true,Bool.false_or,Bool.true_and,Bool.and_eq_true,decide_eq_true_eq]at this
     simp[Znp,hf,this.2]
 rw[e1]
 by_cases ha:(ge d.frames k).hyps.all (hIn (Zdh d (ge d.frames k)))=true
 · have hsub:∀ s∈ZhR (ge d.frames k).hyps,s∈Zdh d (ge d.frames k):=fun s hs=>by
    obtain⟨x,hx,rfl⟩:=List.mem_map.1 hs
    rw[List.mem_filter]at hx
    have:=List.all_eq_true.1 (e1.trans ha) x hx.1
    simpa [Znp,hx.2]using this
   have e2:decide ((ZhR (ge d.frames k).hyps).length=(Zdh d (ge d.frames k)).length)=(Zdh d (ge d.frames k)).all fun s=>decide (s∈ZhR (ge d.frames k).hyps):=by
    rw[Bool.eq_iff_iff,decide_eq_true_eq,List.all_eq_true]
    constructor
    · intro e s hs
      rw[decide_eq_true_eq]
      refine Classical.byContradiction fun hn=>?_
      have:=Zao (ys:=(Zdh d (ge d.frames k)).erase s) hnd fun z hz=>(List.mem_erase_of_ne (fun e':z=s=>hn (by rw[←e'];exact hz))).2 (hsub z hz)
      rw[List.length_erase_of_mem hs]at this
      have:=List.length_pos_of_mem hs
      omega
    · intro e
      have h1:=Zao hnd hsub
      have h2:=Zao hmn fun s hs=>by simpa using e s hs
      omega
   rw[e2,ha]
   simp only[Bool.true_and,Bool.and_assoc]
 · rw[show(ge d.frames k).hyps.all (hIn (Zdh d (ge d.frames k)))=false by simpa using ha]
   rfl
theorem Zdk (h:KInv d k fs hm tm bf) (hk:k<d.frames.length):ZeY d.consts d.vars fs hm tm (ge d.frames k) bf=frE d k:=by
 unfold ZeY frE ZwX
 by_cases h1:(!ZiI (ge d.frames k).label)=true
 · rw[if_pos h1,if_pos h1]
 rw[if_neg h1,if_neg h1,h.hy.some,←ZpZ]
 have q:((hyL d k (ge d.frames k).label|| (decide ((ge d.frames k).label∈d.consts)||decide ((ge d.frames k).label∈d.vars)))||decide ((ge d.frames k).label∈fs))=((frL d k (ge d.frames k).label||hyL d k (ge d.frames k).label)||ZfN d (ge d.frames k).label):=by
  rw[show decide ((ge d.frames k).label∈fs)=frL d k (ge d.frames k).label by rw[Bool.eq_iff_iff,decide_eq_true_eq];exact h.fr _,←ZfN]
  cases hyL d k (ge d.frames k).label<;>cases frL d k (ge d.frames k).label<;>cases ZfN d (ge d.frames k).label<;>rfl
 rw[q]
 by_cases h2:((frL d k (ge d.frames k).label||hyL d k (ge d.frames k).label)||ZfN d (ge d.frames k).label)=true
 · rw[if_pos h2,if_pos h2]
 rw[if_neg h2,if_neg h2]
 by_cases h3:(decide ((40:Int)< (((ge d.frames k).hyps.length:Nat):Int))||decide ((40:Int)< (((ge d.frames k).dummies.length:Nat):Int)))=true
 · rw[if_pos h3,if_pos h3]
 rw[if_neg h3,if_neg h3,Zsy h hk]
 by_cases h4:(!decide (Zu0 d k=0))=true
 · rw[if_pos h4,if_pos h4]
 rw[if_neg h4,if_neg h4,ZhT]
 have h4':∀ j,j< (alH (ge d.frames k)).length→ZuZ d k j=0:=Xw (n:=(alH (ge d.frames k)).length) (show Zu0 d k=0 by simpa using h4)
 by_cases h5:(decide ((((ge d.frames k).text.length:Nat):Int)=0)||decide (200< (((ge d.frames k).text.length:Nat):Int)))=true
 · rw[if_pos h5,if_pos h5,if_pos dz]
 rw[if_neg h5,if_neg h5]
 by_cases h6:(!decide (ZbB d (ge d.frames k).text=0))=true
 · rw[if_pos h6,if_pos h6]
 rw[if_neg h6,if_neg h6,Zfw,ZvQ h4']
 by_cases h7:Zx1 d (ge d.frames k)=true
 · rw[if_pos h7,if_neg (show ¬ (!decide ((0:Int)=0))=true by decide),if_neg (show ¬ (!Zx1 d (ge d.frames k))=true by simp[h7])]
   have e8:Zx3 (ge d.frames k)=(((decide (0< (((ge d.frames k).proof.length:Nat):Int))&& !(ge d.frames k).thm)||decide (8000< (((ge d.frames k).proof.length:Nat):Int)))|| !(ge d.frames k).proof.all Qe):=by
    rw[show(!(ge d.frames k).proof.all Qe)=(ge d.frames k).proof.any fun s=>!Qe s from List.not_all_eq_any_not ..]
    unfold Zx3
    by_cases h0:(ge d.frames k).proof=[]
    · simp[h0]
    · have:0< (ge d.frames k).proof.length:=List.length_pos_iff.2 h0
      simp[this]
   have e9:(((QQ (ge d.frames k).hyps).drop (Zhh (bf.map Hy.label) ((QQ (ge d.frames k).hyps).map Hy.label))).any fun y=>(Zy hm y.label).isSome)=ordB d k (ge d.frames k):=by
    rw[ordB,h.bf,←List.map_drop,List.any_map]
    congr 1
    funext y
    rw[h.hy.some,←ZpZ];rfl
   rw[e8,e9]
   by_cases h8:((decide (0< (((ge d.frames k).proof.length:Nat):Int))&& !(ge d.frames k).thm)||decide (8000< (((ge d.frames k).proof.length:Nat):Int)))=true
   · rw[if_pos (by rw[h8];rfl),if_pos h8]
   · rw[if_neg h8,show((decide (0< (((ge d.frames k).proof.length:Nat):Int))&& !(ge d.frames k).thm)||decide (8000< (((ge d.frames k).proof.length:Nat):Int)))=false by simpa using h8,Bool.false_or]
 · rw[if_neg h7,if_pos (show(!decide ((70:Int)=0))=true by decide),if_pos (show(!Zx1 d (ge d.frames k))=true by simpa using h7)]
theorem ZsY (h:frE d k=0):∀ j,j< (alH (ge d.frames k)).length→ZuZ d k j=0:=by
 refine Xw (n:=(alH (ge d.frames k)).length) ?_
 change Zu0 d k=0
 unfold frE ZwX at h
 refine Classical.byContradiction fun hn=>?_
 by_cases h1:(!ZiI (ge d.frames k).label)=true
 · rw[if_pos h1]at h;exact absurd h dz
 rw[if_neg h1]at h
 by_cases h2:((frL d k (ge d.frames k).label||hyL d k (ge d.frames k).label)||ZfN d (ge d.frames k).label)=true
 · rw[if_pos h2]at h;exact absurd h dz
 rw[if_neg h2]at h
 by_cases h3:(decide ((40:Int)< (((ge d.frames k).hyps.length:Nat):Int))||decide ((40:Int)< (((ge d.frames k).dummies.length:Nat):Int)))=true
 · rw[if_pos h3]at h;exact absurd h dz
 rw[if_neg h3,if_pos (by simpa using hn)]at h
 exact hn h
theorem ZpO (h:KInv d k fs hm tm bf) (hk:k<d.frames.length) (h0:frE d k=0) {tn:List (BA×BA)}
 (ht:∀ v,Zy tn v=if(Zy (tsK (alH (ge d.frames k))) v).isSome then Zy (tsK (alH (ge d.frames k))) v else Zy tm v):
 KInv d (k+1) (QE fs (ge d.frames k).label) (hmK hm (alH (ge d.frames k))) tn (QQ (ge d.frames k).hyps):=by
 have hl:=ZsY h0
 have hT:=ZpC hl (alH (ge d.frames k)).length nlr
 rw[ZX nlr]at hT
 have hat:∀ y∈alH (ge d.frames k),(y.floating=true→(oth d k).any (ZwO y)=false)∧(oth d k).any (ZwP y)=false:=fun y hy=>by
  obtain⟨j,hj,rfl⟩:=Xc hy
  have:=ZeV (hl j hj)
  refine⟨fun hf=>?_,this.2.2⟩
  have:=(this.2.1 hf).1
  rw[List.any_append,Bool.or_eq_false_iff]at this
  exact this.1
 have hdist:∀ x∈alH (ge d.frames k),∀ y∈alH (ge d.frames k),y.label=x.label→y=x:=fun x hx y hy e=>by
  obtain⟨i,hi,rfl⟩:=Xc hx
  obtain⟨j,hj,rfl⟩:=Xc hy
  have key:∀ p q,p<q→q< (alH (ge d.frames k)).length→(ge (alH (ge d.frames k)) p).label≠(ge (alH (ge d.frames k)) q).label:=fun p q hpq hq e=>by
   have:=(ZeV (hl q hq)).1
   rw[List.any_eq_false]at this
   refine this (ge (alH (ge d.frames k)) p) ?_ (by simpa [Zu4]using e)
   have e2:ge ((alH (ge d.frames k)).take q) p=ge (alH (ge d.frames k)) p:=by simp[ge,List.getD_eq_getElem?_getD,hpq]
   rw[←e2]
   exact Zp (show p< ((alH (ge d.frames k)).take q).length by rw[List.length_take];omega)
  rcases Nat.lt_trichotomy i j with h1 | h1 | h1
  · exact absurd e.symm (key i j h1 hj)
  · rw[h1]
  · exact absurd e (key j i h1 hi)
 have hsam:∀ x∈oth d k,∀ y∈alH (ge d.frames k),y.label=x.label→y=x:=fun x hx y hy e=>by
  have:=List.any_eq_false.1 (hat y hy).2 x hx
  simp only[ZwP,Bool.and_eq_true,Bool.not_eq_true',decide_eq_true_eq,not_and,Bool.not_eq_false]at this
  exact(hyEq_iff.1 (this e.symm)).symm
 refine⟨h.fr' hk,⟨fun x hx=>?_,fun s x hx=>?_⟩,⟨fun x hx v hv=>?_,fun v t hv=>?_⟩,?_⟩
 · rw[ZdT hk]at hx
   rcases List.mem_append.1 hx with hx | hx
   · exact Zke _ _ _ (hsam x hx) (.inr (h.hy.hit x hx))
   · exact Zke _ _ _ (hdist x hx) (.inl hx)
 · rw[ZdT hk]
   rcases Zp2 _ _ _ _ hx with⟨h1,h2⟩ | h1
   · exact⟨List.mem_append_right _ h1,h2⟩
   · have:=h.hy.got _ _ h1
     exact⟨List.mem_append_left _ this.1,this.2⟩
 · rw[ZdT hk]at hx
   rw[ht]
   rcases List.mem_append.1 hx with hx | hx
   · cases hs:Zy (tsK (alH (ge d.frames k))) v with
     | none=>simpa using h.ty.hit x hx v hv
     | some t=>
      obtain⟨y,hy,h1,h2⟩:=hT.got v t hs
      have hy1:=ofB_one.1 h1
      have:=List.any_eq_false.1 ((hat y hy).1 hy1.1) x hx
      simp only[ZwO,ZbF hy1.2.1,hy1.2.2,hv,Bool.true_and,Bool.not_eq_true',decide_eq_false_iff_not,Classical.not_not]at this
      simp[this,h2]
   · rw[hT.hit x hx v hv];rfl
 · rw[ZdT hk]
   rw[ht]at hv
   split at hv
   · obtain⟨y,hy,h1⟩:=hT.got v t hv
     exact⟨y,List.mem_append_right _ hy,h1⟩
   · obtain⟨y,hy,h1⟩:=h.ty.got v t hv
     exact⟨y,List.mem_append_left _ hy,h1⟩
 · rw[befL,if_neg oz,Nat.add_sub_cancel]
end
section
variable {l:List Bd} {s:BA} {k:Nat} {t vs:List BA}
end
section
variable {M:BM} {pattern text:List BA} {k p:Nat}
end
section
variable {l:List Bd} {ap wd:List Pr} {us:List BA} {k:Nat} {x:Pr}
end
def Zb4 (vars:List BA) (wide:List Pr) (g:Fr) (es:List (List BA)):List BA×Int:=match ZmN vars wide g es 0 with
 | .ok t=>(t,0)
 | .error c=>([],c)
section
variable {vars:List BA} {wide:List Pr} {g:Fr} {es sk:List (List BA)} {j b:Nat}
theorem ux_24 (hj:j<g.hyps.length) (h:ZdY g.hyps es 0 j=false):Zb4 vars wide g es=([],24):=by
 rw[Zb4,ZmN,ZdF hj h];rfl
theorem ux_25 (hk:∀ j,j<g.hyps.length→ZdY g.hyps es 0 j=true) (hj:j<g.hyps.length) (h:Zsv g.hyps es 0 (Ql g.hyps es 0 g.hyps.length) j=false):Zb4 vars wide g es=([],25):=by
 rw[Zb4,ZmN,Zad hk,ZdF hj h];rfl
variable (hk:∀ j,j<g.hyps.length→ZdY g.hyps es 0 j=true) (hm:∀ j,j<g.hyps.length→Zsv g.hyps es 0 (Ql g.hyps es 0 g.hyps.length) j=true)
include hk hm
theorem ux_15 (h:XZ (ZQ (Ql g.hyps es 0 g.hyps.length)) g.text 2000=false):Zb4 vars wide g es=([],15):=by
 rw[Zb4,ZmN,Zad hk,Zad hm,h];rfl
theorem ux_26 (h:XZ (ZQ (Ql g.hyps es 0 g.hyps.length)) g.text 2000=true) (h2:ZfE (Ql g.hyps es 0 g.hyps.length) g.apart vars wide=true):Zb4 vars wide g es=([],26):=by
 rw[Zb4,ZmN,Zad hk,Zad hm,h,h2];rfl
theorem ux_ok (h:XZ (ZQ (Ql g.hyps es 0 g.hyps.length)) g.text 2000=true) (h2:ZfE (Ql g.hyps es 0 g.hyps.length) g.apart vars wide=false):Zb4 vars wide g es=(Xp (ZQ (Ql g.hyps es 0 g.hyps.length)) g.text,0):=by
 rw[Zb4,ZmN,Zad hk,Zad hm,h,h2];rfl
end
structure Ri where
 label:BA
 back:Int
 unk:Bool
instance instInhRi:Inhabited Ri:=⟨⟨⟨#[]⟩,0,false⟩⟩
section
variable {f:Fr} {labels:List BA} {ls:List Lt} {k:Nat} {q r:List Ri×List Int} {x:Ri}
end
def Y9 (d:Db) (i:Nat) (s:BA):Int:=match(d.frames.take i).findIdx? (fun f=>decide (f.label=s))with
 | some k=>(k:Int)
 | none=> -1
section
variable {d:Db} {i k j:Nat} {s:BA} {z:Int}
theorem Zkg {α:Type} [Inhabited α] {l:List α} (h:j<i):ge (l.take i) j=ge l j:=by
 simp only[ge,List.getD_eq_getElem?_getD,List.getElem?_take]
 rw[if_pos h]
theorem ZwU {α:Type} [Inhabited α] {l m:List α} {p:Nat} (h:p<l.length):ge (l++m) p=ge l p:=by
 simp only[ge,List.getD_eq_getElem?_getD]
 rw[List.getElem?_append_left h]
theorem Zrb (hi:i≤d.frames.length) (hk:k<i) (h0:∀ j,j<k→¬ (ge d.frames j).label=s) (h:(ge d.frames k).label=s):Y9 d i s=(k:Int):=by
 have:(d.frames.take i).findIdx? (fun f=>decide (f.label=s))=some k:=by
  rw[List.findIdx?_eq_some_iff_getElem]
  have hl:k< (d.frames.take i).length:=by rw[List.length_take];omega
  refine⟨hl,?_,fun j hj=>?_⟩
  · rw[←Yj hl,Zkg hk];simpa using h
  · rw[←Yj (show j< (d.frames.take i).length by omega),Zkg oz];simpa using h0 j hj
 rw[Y9,this]
theorem ZnN (h0:∀ j,j<i→¬ (ge d.frames j).label=s):Y9 d i s= -1:=by
 have:(d.frames.take i).findIdx? (fun f=>decide (f.label=s))=none:=by
  rw[List.findIdx?_eq_none_iff]
  intro x hx
  obtain⟨j,hj,hjl,rfl⟩:=mem_take_geF hx
  simpa using h0 j hj
 rw[Y9,this]
 where
  mem_take_geF {l:List Fr} {x:Fr} {m:Nat} (h:x∈l.take m):∃ i,i<m∧i<l.length∧ge l i=x:=by
   obtain⟨i,hi,rfl⟩:=List.getElem_of_mem h
   rw[List.length_take]at hi
   exact⟨i,oz,oz,by rw[Yj oz,List.getElem_take]⟩
theorem ZhB (h:¬ Y9 d i s<0):0≤Y9 d i s∧(Y9 d i s).toNat<i∧(Y9 d i s).toNat<d.frames.length:=by
 unfold Y9 at h ⊢
 split
 · rename_i k hk
   have h1:=(List.findIdx?_eq_some_iff_getElem.1 hk).1
   rw[List.length_take]at h1
   exact⟨oz,by rw[Int.toNat_natCast];omega,by rw[Int.toNat_natCast];omega⟩
 · rename_i hk
   rw[hk]at h
   exact absurd dz h
end
def tagL:List Itm→Int→List Int
 | [],_=>[]
 | x::r,b=>if x.tagged then b::tagL r (b+1)else tagL r (b+1)
def RelI (f:Fr) (M:List (BA×Int)) (tgs:List Int) (x:Itm) (r:Ri):Prop:=
 (r.unk=true∧x.kind=0)∨(r.unk=false∧r.back= -1∧¬ r.label=⟨#[63]⟩∧x.kind=(Ziu f M r.label).kind∧x.text=(Ziu f M r.label).text∧x.number=(Ziu f M r.label).number)∨
 (r.unk=false∧x.kind=4∧0≤x.number∧x.number<tgs.length∧r.back=ge tgs x.number.toNat∧0≤r.back)
section
variable {f:Fr} {M:List (BA×Int)} {labels:List BA}
end
def ZaE {α:Type} [DecidableEq α] (kids:α→List α):Nat→α→List α→List α
 | 0,_,o=>o
 | f+1,x,o=>if x∈o then o else(kids x).foldl (fun o a=>ZaE kids f a o) o++[x]
section
variable {α:Type} [DecidableEq α] (kids:α→List α)
theorem Zcd:∀(f:Nat) (x:α) (o:List α),o<+:ZaE kids f x o
 | 0,_,o=>List.prefix_refl o
 | f+1,x,o=>by
  simp only[ZaE]
  split
  · exact List.prefix_refl o
  · rename_i hx
    clear hx
    refine List.IsPrefix.trans ?_ (List.prefix_append _ _)
    generalize kids x=l
    induction l generalizing o with
    | nil=>exact List.prefix_refl o
    | cons a l ih=>
     simp only[List.foldl_cons]
     exact(Zcd f a o).trans (ih _)
theorem Ze2 (f:Nat) (l:List α) (o:List α):o<+:l.foldl (fun o a=>ZaE kids f a o) o:=by
 induction l generalizing o with
 | nil=>exact List.prefix_refl o
 | cons a l ih=>exact(Zcd kids f a o).trans (ih _)
theorem ZdL (f:Nat) (l:List α) (k:Nat) (o:List α):(l.take k).foldl (fun o a=>ZaE kids f a o) o<+:l.foldl (fun o a=>ZaE kids f a o) o:=by
 conv=>rhs;rw[←List.take_append_drop k l]
 rw[List.foldl_append]
 exact Ze2 kids f _ _
theorem Zk1 (f:Nat) (x:α) (o:List α):x∈ZaE kids (f+1) x o:=by
 simp only[ZaE]
 split
 · assumption
 · simp
variable (r:α→Nat) (hr:∀ x,∀ a∈kids x,r a<r x)
include hr
theorem Zem:∀(f:Nat) (x:α) (o:List α) (y:α),y∈ZaE kids f x o→y∈o∨r y≤r x
 | 0,_,_,_,h=>Or.inl h
 | f+1,x,o,y,h=>by
  simp only[ZaE]at h
  split at h
  · exact Or.inl h
  · have key:∀(l:List α) (o:List α),(∀ a∈l,r a<r x)→y∈l.foldl (fun o a=>ZaE kids f a o) o→y∈o∨r y≤r x:=by
     intro l
     induction l with
     | nil=>intro o _ h;exact Or.inl h
     | cons a l ih=>
      intro o hl h
      rcases ih _ (fun b hb=>hl b (List.mem_cons_of_mem _ hb)) h with h | h
      · rcases Zem f a o y h with h | h
        · exact Or.inl h
        · exact Or.inr (by have:=hl a (List.mem_cons_self ..);omega)
      · exact Or.inr h
    rcases List.mem_append.1 h with h | h
    · exact key _ _ (fun a ha=>hr x a ha) h
    · exact Or.inr (by simp at h;subst h;omega)
end
def Shut {α:Type} (kids:α→List α) (o:List α):Prop:=∀ p x,(p++[x])<+:o→x∉p∧∀ a∈kids x,a∈p
theorem Shut.snoc {α:Type} {kids:α→List α} {o:List α} {x:α} (h:Shut kids o) (hx:x∉o) (hk:∀ a∈kids x,a∈o):Shut kids (o++[x]):=by
 intro p y hp
 rcases List.prefix_concat_iff.1 hp with h1 | h1
 · obtain⟨rfl,h2⟩:=List.append_inj' h1 rfl
   simp at h2;subst h2
   exact⟨hx,hk⟩
 · exact h p y h1
section
variable {α:Type} [DecidableEq α] (kids:α→List α) (r:α→Nat) (hr:∀ x,∀ a∈kids x,r a<r x)
include hr
theorem ZhU:∀(f:Nat) (x:α) (o:List α),r x<f→Shut kids o→Shut kids (ZaE kids f x o)
 | 0,_,_,h,_=>by omega
 | f+1,x,o,hf,ho=>by
  simp only[ZaE]
  split
  · exact ho
  · rename_i hx
    have key:∀(l:List α) (o:List α),(∀ a∈l,r a<r x)→Shut kids o→x∉o→Shut kids (l.foldl (fun o a=>ZaE kids f a o) o)∧x∉l.foldl (fun o a=>ZaE kids f a o) o∧∀ a∈l,a∈l.foldl (fun o a=>ZaE kids f a o) o:=by
     intro l
     induction l with
     | nil=>intro o _ h1 h2;exact⟨h1,h2,fun a ha=>by cases ha⟩
     | cons a l ih=>
      intro o hl h1 h2
      have ha:=hl a (List.mem_cons_self ..)
      have h3:=ZhU f a o (by omega) h1
      have h4:x∉ZaE kids f a o:=fun h=>by
       rcases Zem kids r hr f a o x h with h | h
       · exact h2 h
       · omega
      obtain⟨i1,i2,i3⟩:=ih _ (fun b hb=>hl b (List.mem_cons_of_mem _ hb)) h3 h4
      refine⟨i1,i2,fun b hb=>?_⟩
      rcases List.mem_cons.1 hb with rfl | hb
      · obtain⟨f',rfl⟩:∃ f',f=f'+1:=⟨f-1,by omega⟩
        exact(Ze2 kids (f'+1) l _).subset (Zk1 kids f' b o)
      · exact i3 b hb
    obtain⟨i1,i2,i3⟩:=key (kids x) o (fun a ha=>hr x a ha) ho hx
    exact i1.snoc i2 i3
end
def Yi (ss:List Stp) (i:Nat):List Nat:=((ss[i]?.map Stp.args).getD []).map Int.toNat
theorem QA {ss:List Stp} {i:Nat} (h:i<ss.length):Yi ss i=ss[i].args.map Int.toNat:=by
 simp[Yi,List.getElem?_eq_getElem h]
def Okay (ss:List Stp):Prop:=1≤ss.length∧ss.length≤2000∧∀ i (h:i<ss.length),ss[i].args.length≤40∧∀ a∈ss[i].args,0≤a∧a<i
def post (ss:List Stp):List Nat:=ZaE (Yi ss) ss.length (ss.length-1) []
theorem ZeZ:∀(l:List Stp) (i:Nat),ZcN i l=0↔ ∀ j (h:j<l.length),l[j].args.length≤40∧∀ a∈l[j].args,0≤a∧a< ((i+j:Nat):Int)
 | [],i=>by simp[ZcN]
 | s::r,i=>by
  have ih:=ZeZ r (i+1)
  simp only[ZcN]
  constructor
  · intro h
    split at h
    · simp at h
    split at h
    · simp at h
    rename_i h1 h2
    intro j hj
    cases j with
    | zero=>
     refine⟨by simp;omega,fun a ha=>?_⟩
     have:=h2
     simp only[List.any_eq_true,not_exists,not_and,Bool.not_eq_true]at this
     have h3:=this a (by simpa using ha)
     simp[ZcZ]at h3
     simp;omega
    | succ j=>
     have h3:=ih.1 h j (by simp at hj;omega)
     refine⟨by simpa using h3.1,fun a ha=>?_⟩
     have:=h3.2 a (by simpa using ha)
     omega
  · intro h
    have h0:=h 0 (by simp)
    simp only[List.getElem_cons_zero]at h0
    rw[if_neg (by omega),if_neg,ih]
    · intro j hj
      have h1:=h (j+1) (by simp;omega)
      simp only[List.getElem_cons_succ]at h1
      refine⟨h1.1,fun a ha=>?_⟩
      have:=h1.2 a ha
      omega
    · simp only[List.any_eq_true,not_exists,not_and,Bool.not_eq_true]
      intro a ha
      have:=h0.2 a ha
      simp[ZcZ];omega
theorem Zdl (ss:List Stp):Zbl ss=0↔Okay ss:=by
 unfold Zbl Okay
 split
 · simp;omega
 · rw[ZeZ]
   simp only[Nat.zero_add]
   constructor
   · intro h;exact⟨by omega,by omega,h⟩
   · intro h;exact h.2.2
theorem ZrA {α:Type} (kids:α→List α):Shut kids []:=fun p x h=>by
 have:=h.length_le
 simp at this
theorem Okay.kid {ss:List Stp} (h:Okay ss) {i a:Nat} (ha:a∈Yi ss i):a<i:=by
 by_cases hi:i<ss.length
 · rw[QA hi]at ha
   obtain⟨b,hb,rfl⟩:=List.mem_map.1 ha
   have:=(h.2.2 i hi).2 b hb
   omega
 · simp[Yi,List.getElem?_eq_none (Nat.le_of_not_lt hi)]at ha
theorem Okay.shut {ss:List Stp} (h:Okay ss):Shut (Yi ss) (post ss):=
 ZhU (Yi ss) id (fun x a ha=>h.kid ha) _ _ _ (by have:=h.1;simp only[id];omega) (ZrA _)
theorem ZmY {α:Type} {kids:α→List α} {o:List α} (hs:Shut kids o):o.Nodup:=by
 have key:∀ k,(o.take k).Nodup:=by
  intro k
  induction k with
  | zero=>simp
  | succ k ih=>
   rcases Nat.lt_or_ge k o.length with h | h
   · rw[List.take_succ_eq_append_getElem h,List.nodup_append]
     refine⟨ih,by simp,?_⟩
     intro a ha b hb e
     simp at hb
     subst hb
     exact(hs (o.take k) o[k] (by rw[←List.take_succ_eq_append_getElem h];exact List.take_prefix _ _)).1 (e▸ha)
   · rw[List.take_of_length_le (by omega)]
     rwa [List.take_of_length_le h]at ih
 have:=key o.length
 rwa [List.take_length]at this
def Zcl (out:List Int) (acc a:Int):Int:=if acc+out.getD a.toNat 0<1000000000 then acc+out.getD a.toNat 0 else 1000000000
def Xi (ss:List Stp):Nat→List Int
 | 0=>[]
 | k+1=>Xi ss k++[((ss[k]?.map Stp.args).getD []).foldl (Zcl (Xi ss k)) 1]
def ZaJ (ss:List Stp):List Int:=Xi ss ss.length
theorem Xa (ss:List Stp):∀ k,(Xi ss k).length=k
 | 0=>rfl
 | k+1=>by simp[Xi,Xa ss k]
theorem Zdm (out:List Int) (ho:∀ x∈out,0≤x∧x≤1000000000):∀(l:List Int) (acc:Int),0≤acc∧acc≤1000000000→0≤l.foldl (Zcl out) acc∧l.foldl (Zcl out) acc≤1000000000
 | [],acc,h=>h
 | a::l,acc,h=>by
  refine Zdm out ho l _ ?_
  have h1:0≤out.getD a.toNat 0∧out.getD a.toNat 0≤1000000000:=by
   rw[List.getD_eq_getElem?_getD]
   cases hg:out[a.toNat]? with
   | none=>simp
   | some y=>exact ho y (List.mem_of_getElem? hg)
  unfold Zcl
  split<;>omega
theorem QL (ss:List Stp):∀ k,∀ x∈Xi ss k,0≤x∧x≤1000000000
 | 0,x,h=>by simp[Xi]at h
 | k+1,x,h=>by
  simp only[Xi,List.mem_append,List.mem_singleton]at h
  rcases h with h | h
  · exact QL ss k x h
  · rw[h];exact Zdm _ (QL ss k) _ _ (by omega)
inductive ZxY where
 | node (label:ByteArray) (kids:List ZxY)
mutual
def flat:ZxY→Nat→List Stp
 | .node l ks,n=>(flats ks n).1++[⟨l,(flats ks n).2⟩]
def flats:List ZxY→Nat→List Stp×List Int
 | [],_=>([],[])
 | k::ks,n=>(flat k n++(flats ks (n+(flat k n).length)).1,(((n+(flat k n).length:Nat):Int)-1)::(flats ks (n+(flat k n).length)).2)
end
mutual
def tsize:ZxY→Nat
 | .node _ ks=>tsizes ks+1
def tsizes:List ZxY→Nat
 | []=>0
 | k::ks=>tsize k+tsizes ks
end
mutual
theorem flat_length:∀(t:ZxY) (n:Nat),(flat t n).length=tsize t
 | .node l ks,n=>by simp[flat,tsize,flats_length ks n]
theorem flats_length:∀(ks:List ZxY) (n:Nat),(flats ks n).1.length=tsizes ks
 | [],n=>rfl
 | k::ks,n=>by simp[flats,tsizes,flat_length k n,flats_length ks]
end
instance instInhStp:Inhabited Stp:=⟨⟨⟨#[]⟩,[]⟩⟩
def spC (s:Stp):List CD:=[.lit (.string s.label),Z3 s.args]
def Yv (l:List Stp):CD:=.sl (l.map spC)
def pfC (l:List Stp):List CD:=[Yv l]
def fsE (ss:List Stp) (i:Nat):Int:=if 40< (ge ss i).args.length then 4 else if(ge ss i).args.any (ZcZ i)then 3 else 0
section
variable {ss:List Stp} {k:Nat}
theorem Ze0:∀ k,k≤ss.length→(∀ j,j<k→fsE ss j=0)→ZcN 0 ss=ZcN k (ss.drop k)
 | 0,_,_=>by rw[List.drop_zero]
 | k+1,hk,h=>by
  rw[Ze0 k oz fun j hj=>h j oz,List.drop_eq_getElem_cons (by omega:k<ss.length),ZcN]
  have h1:=h k oz
  unfold fsE at h1
  rw[Yj (by omega:k<ss.length)]at h1
  split at h1
  · cases h1
  · rename_i h2
    rw[if_neg h2]
    split at h1
    · cases h1
    · rename_i h3
      rw[if_neg h3]
theorem ZlZ (hn:¬ (ss.length<1∨2000<ss.length)) (hk:k<ss.length) (h:∀ j,j<k→fsE ss j=0) (he:¬ fsE ss k=0):Zbl ss=fsE ss k:=by
 rw[Zbl,if_neg hn,Ze0 k oz h,List.drop_eq_getElem_cons hk,ZcN]
 unfold fsE at he ⊢
 rw[Yj hk]at he ⊢
 split
 · rfl
 · rename_i h2
   rw[if_neg h2]at he
   split
   · rfl
   · rename_i h3
     rw[if_neg h3]at he
     exact absurd rfl he
theorem Zqc (hn:¬ (ss.length<1∨2000<ss.length)) (h:∀ j,j<ss.length→fsE ss j=0):Zbl ss=0:=by
 rw[Zbl,if_neg hn,Ze0 ss.length nlr h,List.drop_length]
 rfl
theorem Zqb (hn:ss.length<1∨2000<ss.length):Zbl ss=4:=by rw[Zbl,if_pos hn]
end
def ZfC (d:Db) (z:Int) (ss:List Stp):Int:=if Zaw d z=0 then Zbl ss else Zaw d z
def YJ (ahead:List (List BA)) (args:List Int):List (List BA):=args.map fun a=>ge ahead a.toNat
def ZaI (d:Db) (i:Nat) (s:Stp) (ahead:List (List BA)):List BA×Int:=
 if s.label=⟨#[63]⟩then([],27)
 else match ZbA (ge d.frames i) s.label with
  | some h=>if 0<s.args.length then([],23)else(h.text,0)
  | none=>if Y9 d i s.label<0 then([],22)
   else if s.args.length≠(ge d.frames (Y9 d i s.label).toNat).hyps.length then([],23)
   else Zb4 d.vars (ge d.frames i).wide (ge d.frames (Y9 d i s.label).toNat) (YJ ahead s.args)
section
variable {d:Db} {i:Nat} {s:Stp} {a:List (List BA)}
theorem sg_27 (h:s.label=⟨#[63]⟩):ZaI d i s a=([],27):=by rw[ZaI,if_pos h]
variable (h0:¬ s.label=⟨#[63]⟩)
include h0
theorem sg_h23 (h:(ZbA (ge d.frames i) s.label).isSome=true) (h2:0<s.args.length):ZaI d i s a=([],23):=by
 rw[ZaI,if_neg h0]
 cases h9:ZbA (ge d.frames i) s.label with
 | none=>rw[h9]at h;cases h
 | some y=>exact if_pos h2
theorem sg_hyp (h:(ZbA (ge d.frames i) s.label).isSome=true) (h2:¬ 0<s.args.length):ZaI d i s a=(((ZbA (ge d.frames i) s.label).getD default).text,0):=by
 rw[ZaI,if_neg h0]
 cases h9:ZbA (ge d.frames i) s.label with
 | none=>rw[h9]at h;cases h
 | some y=>exact if_neg h2
variable (h1:ZbA (ge d.frames i) s.label=none)
include h1
theorem sg_22 (h2:Y9 d i s.label<0):ZaI d i s a=([],22):=by rw[ZaI,if_neg h0,h1];exact if_pos h2
variable (h2:¬ Y9 d i s.label<0)
include h2
theorem sg_23 (h3:s.args.length≠(ge d.frames (Y9 d i s.label).toNat).hyps.length):ZaI d i s a=([],23):=by rw[ZaI,if_neg h0,h1];exact(if_neg h2).trans (if_pos h3)
theorem sg_use (h3:s.args.length=(ge d.frames (Y9 d i s.label).toNat).hyps.length):ZaI d i s a=Zb4 d.vars (ge d.frames i).wide (ge d.frames (Y9 d i s.label).toNat) (YJ a s.args):=by
 rw[ZaI,if_neg h0,h1];exact(if_neg h2).trans (if_neg fun h=>h h3)
end
def fmG (d:Db) (i:Nat) (ss:List Stp):Nat→List (List BA)
 | 0=>[]
 | k+1=>fmG d i ss k++[(ZaI d i (ge ss k) (fmG d i ss k)).1]
def erG (d:Db) (i:Nat) (ss:List Stp) (k:Nat):Int:=(ZaI d i (ge ss k) (fmG d i ss k)).2
theorem Ze3 (d:Db) (i:Nat) (ss:List Stp):∀ k,(fmG d i ss k).length=k
 | 0=>rfl
 | k+1=>by rw[fmG,List.length_append,Ze3 d i ss k];rfl
def Zx4 (d:Db) (i:Nat) (ss:List Stp):Option Nat:=(List.range ss.length).find? fun k=>decide (¬ erG d i ss k=0)
def Zoc (d:Db) (i:Nat) (ss:List Stp):List (List BA)×(Int×Int):=match Zx4 d i ss with
 | some k=>(fmG d i ss k,(erG d i ss k,(k:Int)))
 | none=>(fmG d i ss ss.length,if ge (fmG d i ss ss.length) (ss.length-1)=(ge d.frames i).text then(0,0)else(28,(ss.length:Int)))
section
variable {d:Db} {i k:Nat} {ss:List Stp}
theorem Zvy (hk:k<ss.length) (h:∀ j,j<k→erG d i ss j=0) (he:¬ erG d i ss k=0):Zoc d i ss=(fmG d i ss k,(erG d i ss k,(k:Int))):=by
 have:Zx4 d i ss=some k:=by
  rw[Zx4,List.find?_range_eq_some]
  exact⟨by simpa using he,by simpa using hk,fun j hj=>by simpa using h j hj⟩
 rw[Zoc,this]
theorem ZkX (h:∀ j,j<ss.length→erG d i ss j=0):Zoc d i ss=(fmG d i ss ss.length,if ge (fmG d i ss ss.length) (ss.length-1)=(ge d.frames i).text then(0,0)else(28,(ss.length:Int))):=by
 have:Zx4 d i ss=none:=by
  rw[Zx4,List.find?_range_eq_none]
  intro j hj
  simpa using h j hj
 rw[Zoc,this]
end
end Go.Proofs.YtdfadihhfppjaaaGreatDoor
namespace Go.Proofs.YtdfadihhfppjaaaGreatDoor
open Go.ChangeShapes Go.WideShapes Go.ChangeAt Go.RowKit Go.Deep
def spT:List TyD:=[.str,ZwL]
def pfT:List TyD:=[.sl 40 spT]
theorem Zw5 {cs:List CD} (h:FitsL pfT cs):∃ ss:List Stp,cs=pfC ss:=by
 simp only[pfT]at h
 obtain⟨c,rfl,h3⟩:=FitsL.one h
 simp only[Fits]at h3
 obtain⟨rows,rfl,_,_,h4⟩:=h3
 obtain⟨xs,rfl⟩:=Zcz (f:=spC) (rows:=rows) fun r hr=>by
  have h5:=h4 r hr
  simp only[spT,FitsL]at h5
  obtain⟨c0,_,rfl,h0,c1,_,rfl,h1,rfl⟩:=h5
  obtain⟨s,rfl⟩:=ZbR h0
  obtain⟨xs,rfl,_⟩:=Zqh h1
  exact⟨⟨s,xs⟩,rfl⟩
 exact⟨xs,rfl⟩
section
variable {H:Type} {enc:TypeId×Value→H} {W:World}
set_option maxRecDepth 100000 in
theorem Zxd:ZdE Tryz.prog 10 28=some pfT:=by kernel_rfl
set_option maxRecDepth 100000 in
theorem Zwq {r:Reach} {b0:Nat} {v:Value} {d:DataW H} {ps:List MemPlace} (hval:Value.okWide Tryz.prog W r b0 28 v) (h:DataW.Trod enc Tryz.prog W 0 (fun _=>true) true 28 v d ps) (hw:ZmF 28 d):∃ ss:List Stp,Rel All W (.agg (pfC ss)) v:=by
 simp only[Value.okWide,Tryz.underlying28]at hval
 obtain⟨cs,rfl,hsz,_⟩:=hval
 obtain⟨n,hn⟩:=h
 obtain⟨cds,h1,h2⟩:=ZbN 10 28 pfT Zxd n _ _ hn hw
 obtain⟨ss,rfl⟩:=Zw5 h1
 refine⟨ss,?_⟩
 simp only[Rel]
 exact⟨cs.toList,by simp,by simpa [Value.cells]using h2⟩
end
end Go.Proofs.YtdfadihhfppjaaaGreatDoor
