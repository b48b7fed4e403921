/-
  THE STACK MACHINE AS DATA (plain): letters, items, steps, runs.
  WHAT THE STACK MACHINE KEEPS (plain).
  WHAT IS READ CAN BE WORKED (plain).
  WHAT A RIGHT DATABASE GIVES THE STACK MACHINE (plain).
  PAIRS IN ORDER (plain): sorted rows, a search by halves, what a substitution requires.
  LETTERS, ONE BY ONE (plain): what the reference's loop knows.
  PLAIN LAW: the program's check of a database is the reference's.
  THE REFERENCE OF VERDICTS AS DATA (plain): substitution, items, steps.
  THE REFERENCE's MACHINE AND THE PROGRAM's (plain): item by item, step by step.
  THE WALK OF A GRAPH IN POSTORDER, in plain Lean.
  THE SIZES OF THE TREES OF ALL STEPS, in plain Lean.
  THE TREE OF A PROOF, in plain Lean; its flat form (each step used once), its size.
  PROOFS AS GRAPHS (plain): their form, the formulas of their steps, up to the first error.
  A PROOF AS AN ARGUMENT, in the engine's words.
-/
import Derived.Test.YtaigaoflehfdcaaGreatDoorZGN
import Derived.Lib.Join
namespace Go.Proofs.YtaigaoflehfdcaaGreatDoor
def ZcR {α:Type} (x y:α) (k:Nat):α:=if k=0 then x else y
structure Lt where
 number:Int
 tagged:Bool
instance instInhLt:Inhabited Lt:=⟨⟨0,false⟩⟩
structure Itm where
 kind:Int
 text:List BA
 number:Int
 tagged:Bool
instance instInhItm:Inhabited Itm:=⟨⟨0,[],0,false⟩⟩
def vdC (p:Int×Int):List CD:=[.lit (.int .i64 p.1),.lit (.int .i64 p.2)]
def Y7:List UInt8→Int→Bool→List Lt×Bool
 | [],_,inside=>([],inside)
 | b::r,n,inside=>
  if decide (85≤b.toNat)&&decide (b.toNat≤89)then
   if 1000000<5*n+((b.toNat:Int)-85)+1 then([],true)else Y7 r (5*n+((b.toNat:Int)-85)+1) true
  else if decide (65≤b.toNat)&&decide (b.toNat≤84)then
   if 1000000<20*n+((b.toNat:Int)-65)+1 then([],true)
   else match r with
    | []=>([⟨20*n+((b.toNat:Int)-65)+1,false⟩],false)
    | c::r'=>if c.toNat=90 then(⟨20*n+((b.toNat:Int)-65)+1,true⟩::(Y7 r' 0 false).1,(Y7 r' 0 false).2)
     else(⟨20*n+((b.toNat:Int)-65)+1,false⟩::(Y7 (c::r') 0 false).1,(Y7 (c::r') 0 false).2)
  else if decide (b.toNat=63)&& !inside then(⟨0,false⟩::(Y7 r n inside).1,(Y7 r n inside).2)
  else([],true)
 termination_by l=>l.length
def QO (s:BA):List Lt×Bool:=Y7 s.data.toList 0 false
section
variable {D:List UInt8} {p:Nat} {n:Int} {ins:Bool} (h:p<D.length)
include h
variable (h1:¬ (85≤(ge D p).toNat∧(ge D p).toNat≤89))
include h1
variable (h2:¬ (65≤(ge D p).toNat∧(ge D p).toNat≤84))
include h2
end
def namL (fs:List Fr):List (BA×Int):=fs.zipIdx.foldl (fun m p=>ZaQ m p.1.label (p.2:Int)) []
def X0 (f:Fr) (label:BA):Option Hy:=(f.hyps++f.dummies).find? fun h=>decide (h.label=label)
theorem ge_z {α:Type} [Inhabited α] (x:α) (l:List α):ge (x::l) 0=x:=rfl
theorem ge_s {α:Type} [Inhabited α] (x:α) (l:List α) (k:Nat):ge (x::l) (k+1)=ge l k:=by simp[ge]
theorem ZeB {f:Fr} {s:BA} {k j:Nat} (hk:k<2) (h1:∀ i,i<k→∀ h∈ZcR f.hyps f.dummies i,¬ h.label=s) (hj:j< (ZcR f.hyps f.dummies k).length) (h2:∀ i,i<j→¬ (ge (ZcR f.hyps f.dummies k) i).label=s) (h3:(ge (ZcR f.hyps f.dummies k) j).label=s):X0 f s=some (ge (ZcR f.hyps f.dummies k) j):=by
 have key:∀(l:List Hy) (j:Nat),j<l.length→(∀ i,i<j→¬ (ge l i).label=s)→(ge l j).label=s→l.find? (fun h=>decide (h.label=s))=some (ge l j):=by
  intro l
  induction l with
  | nil=>intro j hj;simp at hj
  | cons x r ih=>
   intro j hj h2 h3
   cases j with
   | zero=>simp only[ge_z]at h3 ⊢;simp[h3]
   | succ j=>
    have h4:=h2 0 oz
    simp only[ge_z,ge_s]at h3 h4 ⊢
    rw[List.find?_cons_of_neg (by simpa using h4)]
    exact ih j (by simpa using hj) (fun i hi=>by have:=h2 (i+1) oz;simpa only[ge_s]using this) h3
 unfold X0
 rw[List.find?_append]
 match k,hk with
 | 0,_=>simp only[ZcR,if_pos]at hj h2 h3 ⊢;rw[key _ _ hj h2 h3];rfl
 | 1,_=>
  simp only[ZcR,if_neg (show ¬ (1:Nat)=0 by omega)]at hj h2 h3 ⊢
  rw[List.find?_eq_none.2 fun x hx=>by simpa using h1 0 oz x (by simpa [ZcR]using hx),key _ _ hj h2 h3];rfl
theorem ZeC {f:Fr} {s:BA} (h1:∀ i,i<2→∀ h∈ZcR f.hyps f.dummies i,¬ h.label=s):X0 f s=none:=by
 unfold X0
 rw[List.find?_eq_none]
 intro x hx
 rcases List.mem_append.1 hx with hx | hx
 · simpa using h1 0 oz x (by simpa [ZcR]using hx)
 · simpa using h1 1 oz x (by simpa [ZcR]using hx)
theorem ZsR {f:Fr} {k:Nat} {x:Hy} (h:x∈ZcR f.hyps f.dummies k):x∈f.hyps++f.dummies:=by
 unfold ZcR at h
 split at h<;>simp[h]
def ZhG (f:Fr) (M:List (BA×Int)) (label:BA):Itm:=
 if decide (label=(⟨#[63]⟩:BA))then⟨0,[],0,false⟩
 else match X0 f label with
  | some h=>⟨1,h.text,0,false⟩
  | none=>match Z8 M label with
   | some n=>⟨2,[],n,false⟩
   | none=>⟨3,[],0,false⟩
section
variable {f:Fr} {M:List (BA×Int)} {s:BA}
end
def Zoe (l:List BA):Bool:=decide (0<l.length)&&decide (ge l 0=(⟨#[40]⟩:BA))
def isV (s x:BA):Bool:=decide (s=x)
def joinS (l:List BA) (s:BA):BA:=⟨(Lib.join (l.map (·.data.toList)) s.data.toList).toArray⟩
def ZjW (proof:List BA):Option (List BA×BA):=
 let k:=Qc (isV ⟨#[41]⟩) proof
 if k<0 then none
 else if((proof.take k.toNat).drop 1).any fun w=>!ZdF w then none
 else some ((proof.take k.toNat).drop 1,joinS (proof.drop (k.toNat+1)) ⟨#[]⟩)
def ZjA (l:List BA):Bool:=(List.range l.length).any fun j=>decide (ge l j∈l.take j)
def itemD (f:Fr) (M:List (BA×Int)) (labels:List BA) (tags:Nat) (l:Lt):Option Itm:=
 if l.number=0 then some ⟨0,[],0,l.tagged⟩
 else if l.number≤f.hyps.length then some ⟨1,(ge f.hyps (l.number-1).toNat).text,0,l.tagged⟩
 else if l.number≤((f.hyps.length+labels.length:Nat):Int)then some { ZhG f M (ge labels (l.number-1-f.hyps.length).toNat)with tagged:=l.tagged }
 else if l.number≤((f.hyps.length+labels.length+tags:Nat):Int)then some ⟨4,[],l.number-1-f.hyps.length-labels.length,l.tagged⟩
 else none
def ZnA (f:Fr) (M:List (BA×Int)) (labels:List BA):List Lt→Nat→Option (List Itm)
 | [],_=>some []
 | l::r,tags=>match itemD f M labels tags l with
  | none=>none
  | some x=>match ZnA f M labels r (if l.tagged then tags+1 else tags)with
   | none=>none
   | some xs=>some (x::xs)
def readD (f:Fr) (M:List (BA×Int)) (proof:List BA):Except Int (List Itm):=
 if !Zoe proof then if 2000<proof.length then .error 10 else .ok (proof.map (ZhG f M))
 else match ZjW proof with
  | none=>.error 20
  | some (labels,text)=>
   if ZjA labels||labels.any fun s=>f.hyps.any fun h=>decide (h.label=s)then .error 20
   else match ZnA f M labels (QO text).1 0 with
    | none=>.error 21
    | some xs=>if(QO text).2 then .error 21 else if 2000<xs.length then .error 10 else .ok xs
def ZoT (hs:List Hy) (sk:List (List BA)) (b j:Nat):Option Bd:=if(ge hs j).floating then some ⟨ge (ge hs j).text 1,(ge sk (b+j)).drop 1⟩else none
def Y4 (hs:List Hy) (sk:List (List BA)) (b k:Nat):List Bd:=(List.range k).filterMap (ZoT hs sk b)
def Zgs (hs:List Hy) (sk:List (List BA)) (b j:Nat):Bool:=!(ge hs j).floating||decide (ge (ge sk (b+j)) 0=ge (ge hs j).text 0)
def Zj6 (hs:List Hy) (sk:List (List BA)) (b:Nat) (l:List Bd) (j:Nat):Bool:=(ge hs j).floating||ZoR (ge hs j).text l (ge sk (b+j))
def ZlR (vars:List BA) (wide:List Pr) (g:Fr) (sk:List (List BA)) (b:Nat):Except Int (List BA):=
 if !(List.range g.hyps.length).all (Zgs g.hyps sk b)then .error 24
 else if !(List.range g.hyps.length).all (Zj6 g.hyps sk b (Y4 g.hyps sk b g.hyps.length))then .error 25
 else if !ZaR (ZW (Y4 g.hyps sk b g.hyps.length)) g.text 2000 then .error 15
 else if Zfr (Y4 g.hyps sk b g.hyps.length) g.apart vars wide then .error 26
 else .ok (Xm (ZW (Y4 g.hyps sk b g.hyps.length)) g.text)
def useS (vars:List BA) (wide:List Pr) (g:Fr) (sk:List (List BA)):Except Int (List (List BA)):=
 if sk.length<g.hyps.length then .error 23
 else match ZlR vars wide g sk (sk.length-g.hyps.length)with
  | .error c=>.error c
  | .ok t=>.ok (sk.take (sk.length-g.hyps.length)++[t])
theorem ZcN (hs:List Hy) (sk:List (List BA)) (b k:Nat):Y4 hs sk b (k+1)=Y4 hs sk b k++(ZoT hs sk b k).toList:=by
 unfold Y4
 rw[List.range_succ,List.filterMap_append]
 cases h:ZoT hs sk b k<;>simp[h]
theorem Zd3 (hs:List Hy) (sk:List (List BA)) (b k:Nat):(Y4 hs sk b k).length≤k:=by
 unfold Y4
 have:=List.length_filterMap_le (ZoT hs sk b) (List.range k)
 simpa using this
theorem ZcM {hs:List Hy} {sk:List (List BA)} {b k m:Nat} (hm:∀ t∈sk,t.length≤m) (hb:b+k≤sk.length):∀ x∈Y4 hs sk b k,x.text.length≤m:=by
 intro x hx
 obtain⟨j,hj,he⟩:=List.mem_filterMap.1 hx
 have hj:j<k:=by simpa using hj
 unfold ZoT at he
 split at he
 · cases he
   have:=hm _ (Zj (xs:=sk) (k:=b+j) oz)
   simp only[List.length_drop]
   omega
 · cases he
theorem QY {p:Nat→Bool} {k:Nat} (h:∀ j,j<k→p j=true):(List.range k).all p=true:=List.all_eq_true.2 fun j hj=>h j (by simpa using hj)
theorem Zdz {p:Nat→Bool} {k j:Nat} (hj:j<k) (h:p j=false):(List.range k).all p=false:=List.all_eq_false.2 ⟨j,by simpa using hj,by simp[h]⟩
section
variable {vars:List BA} {wide:List Pr} {g:Fr} {sk:List (List BA)} {j:Nat}
variable (h0:¬ sk.length<g.hyps.length) (hk:∀ j,j<g.hyps.length→Zgs g.hyps sk (sk.length-g.hyps.length) j=true) (hm:∀ j,j<g.hyps.length→Zj6 g.hyps sk (sk.length-g.hyps.length) (Y4 g.hyps sk (sk.length-g.hyps.length) g.hyps.length) j=true)
include h0 hk hm
end
def kindD (fs:List Fr) (vars:List BA) (f:Fr) (sk tg:List (List BA)) (x:Itm):Except Int (List (List BA)):=
 if x.kind=1 then .ok (sk++[x.text])
 else if x.kind=2 then useS vars f.wide (ge fs x.number.toNat) sk
 else if x.kind=4 then .ok (sk++[ge tg x.number.toNat])
 else if x.kind=0 then .error 27 else .error 22
def endD (f:Fr) (sk:List (List BA)) (k:Nat):Int×Int:=
 if sk.length≠1 then(23,(k:Int))else if !decide (ge sk 0=f.text)then(28,(k:Int))else(0,0)
structure Ms where
 sk:List (List BA)
 tg:List (List BA)
 n:Nat
 kn:Bool
 v:Int×Int
 did:Bool
def endM (f:Fr) (len:Nat) (m:Ms):Ms:=if m.n<len then m else { m with kn:=true,v:=endD f m.sk m.n }
def stepM (fs:List Fr) (vars:List BA) (f:Fr) (xs:List Itm) (m:Ms):Ms:=
 if m.kn then { m with did:=false }
 else match kindD fs vars f m.sk m.tg (ge xs m.n)with
  | .error c=> { m with kn:=true,v:=(c,(m.n:Int)),did:=false }
  | .ok s=>endM f xs.length ⟨s,if(ge xs m.n).tagged=true then m.tg++[ge s ((s.length:Int)-1).toNat]else m.tg,m.n+1,m.kn,m.v,true⟩
section
variable {fs:List Fr} {vars:List BA} {f:Fr} {xs:List Itm} {sk tg s:List (List BA)} {n:Nat} {kn:Bool} {v:Int×Int} {b:Bool} {c:Int}
end
def okF (g:Fr):Prop:=g.hyps.length≤2000∧∀ h∈g.hyps,h.floating=true→h.text.length=2
def runM (fs:List Fr) (vars:List BA) (f:Fr) (xs:List Itm):Nat→Ms→Ms
 | 0,m=>m
 | k+1,m=>runM fs vars f xs k (stepM fs vars f xs m)
def Zse (f:Fr) (r:Except Int (List Itm)):List Itm×Ms:=
 match r with
 | .error c=>([],⟨[],[],0,true,(c,0),true⟩)
 | .ok xs=>(xs,endM f xs.length ⟨[],[],0,false,(0,0),true⟩)
def XY (d:Db) (z:Int):Int:=if ¬ ZbN d=0 then ZbN d else if z<0∨(d.frames.length:Int)≤z then 5 else 0
def okT (g:Fr):Prop:=0<g.text.length∧∀ h∈g.hyps,h.floating=true→¬ ge h.text 1=ge g.text 0
theorem ZuQ {g:Fr} (hg:okT g) (sk:List (List BA)) (b:Nat):1≤(Xm (ZW (Y4 g.hyps sk b g.hyps.length)) g.text).length:=by
 obtain⟨h0,h1⟩:=hg
 have h2:Z8 (ZW (Y4 g.hyps sk b g.hyps.length)) (ge g.text 0)=none:=by
  rw[Zcs,List.find?_eq_none.2,Option.map_none]
  intro x hx
  obtain⟨j,hj,he⟩:=List.mem_filterMap.1 hx
  have hj:j<g.hyps.length:=by simpa using hj
  unfold ZoT at he
  split at he
  · rename_i hf
    cases he
    simpa using h1 _ (Zj hj) hf
  · cases he
 have h3:=YX (M:=ZW (Y4 g.hyps sk b g.hyps.length)) h0
 have h4:=Xu (ZW (Y4 g.hyps sk b g.hyps.length)) g.text 1
 rw[h3,List.length_append]at h4
 simp only[Yt,h2,List.length_singleton]at h4
 omega
def tagsN (xs:List Itm) (k:Nat):Nat:=((xs.take k).filter (·.tagged)).length
structure InvM (xs:List Itm) (m:Ms):Prop where
 sk:∀ t∈m.sk,1≤t.length∧t.length≤2000
 tg:∀ t∈m.tg,1≤t.length∧t.length≤2000
 skn:m.sk.length≤m.n
 tgn:m.tg.length=tagsN xs m.n
 n:m.n≤xs.length
 kn:m.kn=false→m.n<xs.length
theorem ZsN {vars:List BA} {wide:List Pr} {g:Fr} {sk:List (List BA)} {b:Nat} {t:List BA} (hg:okT g) (h:ZlR vars wide g sk b= .ok t):1≤t.length∧t.length≤2000:=by
 unfold ZlR at h
 split at h
 · cases h
 split at h
 · cases h
 split at h
 · cases h
 split at h
 · cases h
 · rename_i h3 _
   injection h with h
   subst h
   simp only[ZaR,Bool.not_eq_true',decide_eq_false_iff_not,Nat.not_le,Nat.not_lt]at h3
   exact⟨ZuQ hg sk b,h3⟩
def ZtJ (f:Fr):Prop:=∀ h∈f.hyps++f.dummies,1≤h.text.length∧h.text.length≤2000
section
variable {fs:List Fr} {vars:List BA} {f:Fr} {xs:List Itm} {m:Ms}
end
def Znz (d:Db) (n:Nat) (t:List BA):List Itm:=(Zse (ge d.frames n) (readD (ge d.frames n) (namL (d.frames.take n)) t)).1
def mchV (d:Db) (n:Nat) (t:List BA):Ms:=(Zse (ge d.frames n) (readD (ge d.frames n) (namL (d.frames.take n)) t)).2
section
variable {fs:List Fr} {vars:List BA} {f:Fr} {xs:List Itm} {m:Ms}
end
section
variable {d:Db}
theorem chk_fr (h:ZbN d=0):∀ k,k<d.frames.length→frE d k=0:=by
 unfold ZbN at h
 split at h
 · cases h
 split at h
 · rename_i h2
   rw[h]at h2
   simp at h2
 · exact QH h
theorem Zt3 (h:ZbN d=0):ZaM d=0:=by
 unfold ZbN at h
 split at h
 · cases h
 split at h
 · rename_i h2
   rw[h]at h2
   simp at h2
 · rename_i h2
   simpa using h2
theorem Zmj (h:ZaM d=0):∀ v∈d.vars,¬ v∈d.consts:=by
 unfold ZaM at h
 split at h
 · rename_i h2
   rw[h]at h2
   simp at h2
 · intro v hv hc
   obtain⟨j,hj,rfl⟩:=Y5 hv
   have:=QH h j hj
   unfold Zf8 at this
   split at this
   · cases this
   split at this
   · cases this
   · rename_i h3
     simp[hc]at h3
theorem Zqk {k:Nat} {y:Hy} {bs:List Hy} {dm:Bool} (h:ZcO d k y bs dm=0):(1≤y.text.length∧y.text.length≤200)∧(y.floating=true→y.text.length=2∧ge y.text 1∈d.vars):=by
 have h1:=Zbb h
 unfold ZcO at h
 split at h
 · cases h
 split at h
 · cases h
 split at h
 · cases h
 split at h
 · cases h
 rename_i h4
 have h5:y.floating=true→y.text.length=2∧ge y.text 1∈d.vars:=fun hf=>⟨Yu h1 hf,by simp[ZeD,hf]at h4;exact h4.2⟩
 refine⟨?_,h5⟩
 cases hf:y.floating with
 | true=>have:=(h5 hf).1;omega
 | false=>simp[Q1,hf]at h1;have:=List.length_pos_iff.2 h1.2.1;omega
theorem ZtM (hs:ZaM d=0) {k:Nat} (h:frE d k=0):okF (ge d.frames k)∧okT (ge d.frames k)∧ZtJ (ge d.frames k):=by
 have hz:=Zgw h
 unfold frE Zc4 at h
 split at h
 · cases h
 split at h
 · cases h
 split at h
 · cases h
 split at h
 · rename_i h2
   rw[h]at h2
   simp at h2
 rename_i h3
 have h3:ZoQ d k=0:=by simpa using h3
 have hy:∀ y∈(ge d.frames k).hyps++(ge d.frames k).dummies,(1≤y.text.length∧y.text.length≤200)∧(y.floating=true→y.text.length=2∧ge y.text 1∈d.vars):=fun y hy=>by
  obtain⟨j,hj,rfl⟩:=Y5 hy
  exact Zqk (QH h3 j hj)
 split at h
 · cases h
 rename_i h4
 split at h
 · rename_i h2
   rw[h]at h2
   simp at h2
 rename_i h5
 have hc:ge (ge d.frames k).text 0∈d.consts:=by
  have h6:ZaS d (ge d.frames k).text=0:=by simpa using h5
  unfold ZaS ZnR at h6
  split at h6
  · rename_i h7
    simp only[Bool.and_eq_true,decide_eq_true_eq]at h7
    exact h7.1
  · cases h6
 have hp:0< (ge d.frames k).text.length:=by
  simp only[Bool.or_eq_true,decide_eq_true_eq,not_or]at h4
  omega
 refine⟨⟨oz,fun y hy' hf=>((hy y (List.mem_append_left _ hy')).2 hf).1⟩,⟨hp,fun y hy' hf e=>?_⟩,fun y hy'=>⟨(hy y hy').1.1,Nat.le_trans (hy y hy').1.2 oz⟩⟩
 have:=((hy y (List.mem_append_left _ hy')).2 hf).2
 rw[e]at this
 exact Zmj hs _ this hc
theorem ZcC (h:ZbN d=0):∀ g∈d.frames,okF g∧okT g∧ZtJ g:=fun g hg=>by
 obtain⟨k,hk,rfl⟩:=Y5 hg
 exact ZtM (Zt3 h) (chk_fr h k hk)
theorem ZkM {z:Int} (h:XY d z=0):ZbN d=0∧0≤z∧z< (d.frames.length:Int):=by
 unfold XY at h
 split at h
 · rename_i h2;exact absurd h h2
 split at h
 · cases h
 · rename_i h1 h2
   exact⟨by simpa using h1,oz,oz⟩
end
theorem Zof {x y:BA}:ZaV x y<0↔Op.bytesLess x.toList y.toList=true:=by
 unfold ZaV
 split
 · rename_i h;simp[h]
 · rename_i h
   split<;>simp[h]
theorem cmpX_eq {x y:BA}:ZaV x y=0↔x=y:=by
 unfold ZaV
 split
 · rename_i h
   constructor
   · intro e;omega
   · rintro rfl;rw[ZcL]at h;cases h
 · split
   · rename_i h;simp[h]
   · rename_i h;simp[h]
theorem cmpT_lt {p q:Pr}:ZfZ p q<0↔ltP p q=true:=by
 unfold ZfZ ltP
 split
 · rename_i h
   rw[cmpX_eq]at h
   rw[Zof,h,ZcL]
   simp
 · rename_i h
   rw[cmpX_eq]at h
   rw[Zof]
   simp[h]
theorem ZqG {p q:Pr}:ZfZ p q=0↔p=q:=by
 unfold ZfZ
 split
 · rename_i h
   rw[cmpX_eq]at h ⊢
   constructor
   · intro h2;cases p;cases q;simp_all
   · rintro rfl;rfl
 · rename_i h
   constructor
   · intro e;exact absurd e h
   · rintro rfl;exact absurd (cmpX_eq.2 rfl) h
theorem ZiJ (x:Pr):ltP x x=false:=by simp[ltP,ZcL]
theorem ZiI {x y:Pr} (h1:ltP x y=false) (h2:ltP y x=false):x=y:=by
 cases h3:Zfe x y with
 | true=>simp only[Zfe,Bool.and_eq_true,decide_eq_true_eq]at h3;cases x;cases y;simp_all
 | false=>have:=ZhI h1 h3;rw[h2]at this;cases this
def ZcP (ps:List Pr):Nat→List Pr
 | 0=>[]
 | m+1=>if m=0∨ ¬ ge ps m=ge ps (m-1)then ZcP ps m++[ge ps m]else ZcP ps m
theorem ZgB {ps:List Pr} {m:Nat} (h:m=0∨ ¬ ge ps m=ge ps (m-1)):ZcP ps (m+1)=ZcP ps m++[ge ps m]:=by rw[ZcP,if_pos h]
theorem ZeW {ps:List Pr} {m:Nat} (h0:0<m) (h:ge ps m=ge ps (m-1)):ZcP ps (m+1)=ZcP ps m:=by rw[ZcP,if_neg (by rintro(e | e);omega;exact e h)]
theorem Zkr (ps:List Pr):∀ m,(ZcP ps m).length≤m
 | 0=>by simp[ZcP]
 | m+1=>by
  have:=Zkr ps m
  rw[ZcP]
  split
  · simp only[List.length_append,List.length_singleton];omega
  · omega
def WkP (l:List Pr):Prop:=l.Pairwise fun x y=>ltP y x=false
theorem WkP.at {l:List Pr} (h:WkP l) {i j:Nat} (hij:i<j) (hj:j<l.length):ltP (ge l j) (ge l i)=false:=by
 rw[YS hj,YS (show i<l.length by omega)]
 exact List.pairwise_iff_getElem.1 h i j oz hj hij
theorem Zex {α:Type} [Inhabited α] {l:List α} {x:α} {m:Nat} (h:x∈l.take m):∃ i,i<m∧i<l.length∧x=ge l i:=by
 obtain⟨i,hi,rfl⟩:=List.getElem_of_mem h
 rw[List.length_take]at hi
 exact⟨i,oz,oz,by rw[YS oz,List.getElem_take]⟩
theorem Zkq {ps:List Pr} (h:WkP ps):∀ m,m≤ps.length→SrtP (ZcP ps m)∧∀ x,x∈ZcP ps m↔x∈ps.take m
 | 0,_=>⟨List.Pairwise.nil,fun x=>by simp[ZcP]⟩
 | m+1,hm=>by
  obtain⟨h1,h2⟩:=Zkq h m oz
  by_cases hc:m=0∨ ¬ ge ps m=ge ps (m-1)
  · rw[ZgB hc,Z1 oz]
    refine⟨List.pairwise_append.2 ⟨h1,List.pairwise_singleton _ _,fun x hx y hy=>?_⟩,fun x=>by simp only[List.mem_append,h2]⟩
    rw[List.mem_singleton.1 hy]
    obtain⟨i,hi,hil,rfl⟩:=Zex ((h2 x).1 hx)
    have h3:=h.at hi oz
    cases h4:ltP (ge ps i) (ge ps m)with
    | true=>rfl
    | false=>
     have he:=ZiI h4 h3
     rcases hc with rfl | hc
     · omega
     · have h5:=h.at (show m-1<m by omega) oz
       have h6:ltP (ge ps (m-1)) (ge ps m)=false:=by
        rcases Nat.lt_or_ge i (m-1)with h7 | h7
        · rw[←he];exact h.at h7 oz
        · rw[show m-1=i by omega,he];exact ZiJ _
       exact absurd (ZiI h5 h6) hc
  · have hm0:0<m:=by omega
    have he:ge ps m=ge ps (m-1):=by simpa [show ¬ m=0 by omega]using hc
    rw[ZeW hm0 he]
    refine⟨h1,fun x=>?_⟩
    rw[h2,Z1 oz,List.mem_append]
    constructor
    · exact .inl
    · rintro(h3 | h3)
      · exact h3
      · rw[List.mem_singleton.1 h3,he]
        refine List.mem_of_getElem? (i:=m-1) ?_
        rw[List.getElem?_take,if_pos oz,List.getElem?_eq_getElem oz,YS oz]
def ZuW (l qs:List Pr):Prop:=SrtP qs∧(∀ p,p∈qs↔p∈l.map Qk)∧qs.length≤l.length
theorem srt_of {l ps:List Pr} (hp:ps.Perm (l.map Qk)) (hw:WkP ps):ZuW l (ZcP ps ps.length):=by
 obtain⟨h1,h2⟩:=Zkq hw ps.length nlr
 refine⟨h1,fun p=>?_,?_⟩
 · rw[h2,List.take_length]
   exact hp.mem_iff
 · have h3:=Zkr ps ps.length
   have h4:=hp.length_eq
   rw[List.length_map]at h4
   omega
theorem SrtP.at {l:List Pr} (h:SrtP l) {i j:Nat} (hij:i<j) (hj:j<l.length):ltP (ge l i) (ge l j)=true:=by
 rw[YS hj,YS (show i<l.length by omega)]
 exact List.pairwise_iff_getElem.1 h i j oz hj hij
theorem ZrW {qs:List Pr} {p:Pr} {i j:Nat} (hs:SrtP qs) (hij:j≤i) (h1:∀ k,k<i→ltP (ge qs k) p=true) (h2:∀ k,j≤k→k<qs.length→ltP (ge qs k) p=false):p∈qs↔i<qs.length∧ge qs i=p:=by
 constructor
 · intro hp
   obtain⟨k,hk,rfl⟩:=Y5 hp
   have h3:i≤k:=Nat.le_of_not_lt fun h=>by have:=h1 k h;rw[ZiJ]at this;cases this
   rcases Nat.lt_or_ge i k with h4 | h4
   · have:=hs.at h4 hk
     rw[h2 i hij oz]at this
     cases this
   · have:i=k:=by omega
     subst this
     exact⟨hk,rfl⟩
 · rintro⟨h3,rfl⟩
   exact Zj h3
theorem Zsn {x y:Pr} (h1:x.a=y.a) (h2:x.b=y.b):x=y:=by cases x;cases y;simp_all
section
variable {ps rs:List Pr} {i j k m:Nat} {x:Pr}
theorem ZtZ (h:1≤ps.length):ZcP ps 1=ps.take 1:=by
 cases ps with
 | nil=>simp at h
 | cons y r=>rfl
theorem ZeV (h:ps.length<2):ps=ZcP ps ps.length:=by
 match ps,h with
 | [],_=>rfl
 | [y],_=>rfl
theorem Zi2 (h:¬ k<ps.length) (hk:k≤ps.length) (h2:ZcP ps k=ps.take k):ps=ZcP ps ps.length:=by
 have:k=ps.length:=by omega
 subst this
 rw[h2,List.take_length]
theorem ZqC (hk:k<ps.length) (h2:ZcP ps k=ps.take k) (h3:¬ ge ps k=ge ps (k-1)):ZcP ps (k+1)=ps.take (k+1):=by
 rw[ZgB (.inr h3),h2,Z1 hk]
theorem ZnK (h:¬ i=j):ge (rs.set j x) i=ge rs i:=by
 simp only[ge,List.getD_eq_getElem?_getD]
 rw[List.getElem?_set_ne (fun e=>h e.symm)]
theorem take_set (hj:j<rs.length):(rs.set j x).take (j+1)=rs.take j++[x]:=by
 have h1:j< (rs.set j x).length:=by rw[List.length_set];exact hj
 rw[Z1 h1,List.take_set_of_le nlr]
 congr 2
 rw[YS h1,List.getElem_set_self]
end
def bsN (qs:List Pr) (p:Pr):Nat:=(qs.filter fun q=>ltP q p).length
section
variable {qs:List Pr} {p:Pr} {i j h:Nat}
theorem bs_pos (hij:j≤i) (hi:i≤qs.length) (h1:∀ k,k<i→ltP (ge qs k) p=true) (h2:∀ k,j≤k→k<qs.length→ltP (ge qs k) p=false):i=bsN qs p:=by
 have e1:(qs.take i).filter (fun q=>ltP q p)=qs.take i:=List.filter_eq_self.2 fun x hx=>by
  obtain⟨k,hk,_,rfl⟩:=Zex hx
  exact h1 k hk
 have e2:(qs.drop i).filter (fun q=>ltP q p)=[]:=List.filter_eq_nil_iff.2 fun x hx=>by
  obtain⟨k,hk,rfl⟩:=List.mem_drop_iff_getElem.1 hx
  have:=h2 (i+k) oz oz
  rw[YS oz]at this
  simpa [Nat.add_comm]using this
 unfold bsN
 have e3:qs.filter (fun q=>ltP q p)=(qs.take i).filter (fun q=>ltP q p)++(qs.drop i).filter (fun q=>ltP q p):=by rw[←List.filter_append,List.take_append_drop]
 rw[e3,e1,e2,List.append_nil,List.length_take]
 omega
theorem bs_dec (hs:SrtP qs) (hij:j≤i) (h1:∀ k,k<i→ltP (ge qs k) p=true) (h2:∀ k,j≤k→k<qs.length→ltP (ge qs k) p=false):(decide ((i:Int)< (qs.length:Int))&&decide (ZfZ (ge qs i) p=0))=decide (p∈qs):=by
 rw[←Bool.decide_and]
 congr 1
 rw[ZqG]
 exact propext ((ZrW hs hij h1 h2).trans ⟨fun⟨a,b⟩=>⟨oz,b⟩,fun⟨a,b⟩=>⟨oz,b⟩⟩).symm
theorem bs_up (hs:SrtP qs) (hh:h<qs.length) (hc:ZfZ (ge qs h) p<0):∀ k,k<h+1→ltP (ge qs k) p=true:=fun k hk=>by
 rw[cmpT_lt]at hc
 rcases Nat.lt_or_ge k h with h3 | h3
 · exact Zan (hs.at h3 hh) hc
 · rw[show k=h by omega];exact hc
theorem ZuJ (hs:SrtP qs) (hc:¬ ZfZ (ge qs h) p<0):∀ k,h≤k→k<qs.length→ltP (ge qs k) p=false:=fun k hk hkl=>by
 rw[cmpT_lt]at hc
 have hc:ltP (ge qs h) p=false:=by simpa using hc
 rcases Nat.lt_or_ge h k with h3 | h3
 · cases h4:ltP (ge qs k) p with
   | false=>rfl
   | true=>have:=Zan (hs.at h3 hkl) h4;rw[hc]at this;cases this
 · rw[show k=h by omega];exact hc
end

section
variable {α β:Type} [Inhabited α] {f:α→List β} {g:α→β} {xs:List α} {k:Nat} {q:List β}
theorem ZeJ (hk:k<xs.length):(xs.take (k+1)).flatMap f=(xs.take k).flatMap f++f (ge xs k):=by
 rw[Z1 hk,List.flatMap_append]
 simp
theorem Zsy (hk:k<xs.length) (h:q<+:f (ge xs k)):(xs.take k).flatMap f++q<+:xs.flatMap f:=by
 obtain⟨r,hr⟩:=h
 refine⟨r++(xs.drop (k+1)).flatMap f,?_⟩
 have e:xs.flatMap f=((xs.take (k+1))++xs.drop (k+1)).flatMap f:=by rw[List.take_append_drop]
 rw[e,List.flatMap_append,ZeJ hk,←hr]
 simp
theorem Ztw (hk:k<xs.length):(xs.take k).map g++[g (ge xs k)]<+:xs.map g:=by
 refine⟨(xs.drop (k+1)).map g,?_⟩
 have e:xs.map g=((xs.take (k+1))++xs.drop (k+1)).map g:=by rw[List.take_append_drop]
 rw[e,List.map_append,ZaE hk]
end
def QC (l:List Bd) (us:List BA) (s:BA):List BA:=Qb (Yt (ZW l) s) (Qe us)
def rqB (l:List Bd) (us:List BA) (p:Pr) (x:BA):List Pr:=(QC l us p.b).map fun y=>Qk ⟨x,y⟩
def rqA (l:List Bd) (us:List BA) (p:Pr):List Pr:=(QC l us p.a).flatMap (rqB l us p)
theorem ZmD (l:List Bd) (ap:List Pr) (us:List BA):ZbD l ap us=ap.flatMap (rqA l us):=rfl
theorem rq_pre {l:List Bd} {us:List BA} {ap:List Pr} {k j i:Nat} (hk:k<ap.length) (hj:j< (QC l us (ge ap k).a).length) (hi:i< (QC l us (ge ap k).b).length):
 (ap.take k).flatMap (rqA l us)++((QC l us (ge ap k).a).take j).flatMap (rqB l us (ge ap k))++((QC l us (ge ap k).b).take i).map (fun y=>Qk ⟨ge (QC l us (ge ap k).a) j,y⟩)++[Qk ⟨ge (QC l us (ge ap k).a) j,ge (QC l us (ge ap k).b) i⟩]<+:ZbD l ap us:=by
 rw[ZmD,List.append_assoc,List.append_assoc]
 refine Zsy hk (Zsy hj ?_)
 exact Ztw (g:=fun y=>Qk ⟨ge (QC l us (ge ap k).a) j,y⟩) hi
theorem map_of {l rs:List Pr} (h1:rs.length=l.length) (h2:∀ i,i<l.length→ge rs i=Qk (ge l i)):rs=l.map Qk:=by
 apply List.ext_getElem (by simpa using h1)
 intro i hi hi2
 have h3:i<l.length:=by omega
 have:=h2 i h3
 rw[YS hi,YS h3]at this
 simpa using this
section
variable {l:List Bd} {ap wd qs pre:List Pr} {us:List BA} {p:Pr}
theorem ZsH (h:ZuW wd qs):(!decide (p∈qs)||decide (p.a=p.b))=Ze6 wd p:=by
 unfold Ze6
 rw[show decide (p∈qs)=decide (p∈wd.map Qk)from decide_eq_decide.2 (h.2.1 p)]
theorem ZuL (hp:(pre++[p])<+:ZbD l ap us) (h1:∀ x∈pre,Ze6 wd x=false) (h2:Ze6 wd p=true):Zjk l ap us wd=some p:=by
 obtain⟨r,hr⟩:=hp
 unfold Zjk
 rw[←hr,List.append_assoc,List.find?_append,List.find?_eq_none.2 (fun x hx=>by simp[h1 x hx])]
 simp[h2]
theorem ZrX (h1:∀ x∈ZbD l ap us,Ze6 wd x=false):Zjk l ap us wd=none:=List.find?_eq_none.2 fun x hx=>by simp[h1 x hx]
theorem ZpF (h1:∀ x∈pre,Ze6 wd x=false) (h2:Ze6 wd p=false):∀ x∈pre++[p],Ze6 wd x=false:=fun x hx=>by
 rcases List.mem_append.1 hx with hx | hx
 · exact h1 x hx
 · rw[List.mem_singleton.1 hx];exact h2
theorem Zsk {m:Nat} (hu:∀ s∈us,s.size≤m) (h:p∈ZbD l ap us):p.a.size≤m∧p.b.size≤m:=by
 have hocc:∀ t x,x∈Qb t (Qe us)→x∈us:=fun t x hx=>mem_lstL.1 (mem_occL.1 hx).2
 unfold ZbD at h
 obtain⟨q,_,h⟩:=List.mem_flatMap.1 h
 obtain⟨x,hx,h⟩:=List.mem_flatMap.1 h
 obtain⟨y,hy,rfl⟩:=List.mem_map.1 h
 have h1:=hu x (hocc _ x hx)
 have h2:=hu y (hocc _ y hy)
 unfold Qk
 split
 · exact⟨h2,h1⟩
 · exact⟨h1,h2⟩
end
def InvR (D:List UInt8) (i:Nat) (out:List Lt) (n:Int) (ins fresh:Bool):Prop:=
 (fresh=true→ins=false∧n=0∧∃ pre x,out=pre++[⟨x,false⟩]∧Y7 D 0 false=if i<D.length∧(ge D i).toNat=90 then(pre++⟨x,true⟩::(Y7 (D.drop (i+1)) 0 false).1,(Y7 (D.drop (i+1)) 0 false).2)else(out++(Y7 (D.drop i) 0 false).1,(Y7 (D.drop i) 0 false).2))∧
 (fresh=false→Y7 D 0 false=(out++(Y7 (D.drop i) n ins).1,(Y7 (D.drop i) n ins).2))
section
variable {D:List UInt8} {i:Nat} {out:List Lt} {n:Int} {ins fresh:Bool}
variable (h:InvR D i out n ins fresh) (hi:i<D.length)
include h hi
end
abbrev endL (t:List BA):Nat:=(Qc (isV ⟨#[41]⟩) t).toNat
abbrev cutL (t:List BA):List BA:=(t.take (endL t)).drop 1
def letE (t:List BA):List BA×List Lt×Int:=
 if Zoe t=true then
  match ZjW t with
  | none=>([],[],20)
  | some z=>if ZjA z.1=true then([],[],20)else if(QO z.2).2=true then([],[],21)else if 2000< (QO z.2).1.length then([],[],10)else(z.1,(QO z.2).1,0)
 else([],[],2)
section
variable {t:List BA} (h0:Zoe t=true)
include h0
variable {z:List BA×BA} (hz:ZjW t=some z)
include hz
variable (h1:ZjA z.1=false)
include h1
variable (h2:(QO z.2).2=false)
include h2
end
section
variable {d:Db} {k:Nat} {fs:List BA} {hm:List (BA×Hy)} {tm:List (BA×BA)} {bf:List Hy}
theorem KInv.fr' (h:KInv d k fs hm tm bf) (hk:k<d.frames.length) (s:BA):s∈Qr fs (ge d.frames k).label↔frL d (k+1) s=true:=by
 rw[Zgp,frL,X9 hk,Bool.or_eq_true,h.fr s,frL,decide_eq_true_eq]
 exact or_congr Iff.rfl eq_comm
theorem Zkb (h:KInv d k fs hm tm bf) (hk:k<d.frames.length) {y:Hy} {bs:List Hy} {ts:List (BA×BA)} {dm:Bool} (ht:TyI bs ts):
 Zgu d.consts d.vars (Qr fs (ge d.frames k).label) hm tm (lsK bs) ts y dm=ZcO d k y bs dm:=by
 unfold Zgu ZcO
 by_cases h1:Q1 y dm=true
 · rw[if_pos h1,if_pos h1]
 rw[if_neg h1,if_neg h1]
 have h1':Q1 y dm=false:=by simpa using h1
 have q1:(((decide (y.label∈d.consts)||decide (y.label∈d.vars))||decide (y.label∈Qr fs (ge d.frames k).label))||decide (y.label∈lsK bs))=((frL d (k+1) y.label||ZcS d y.label)||bs.any (Zlw y)):=by
  rw[show decide (y.label∈Qr fs (ge d.frames k).label)=frL d (k+1) y.label by rw[Bool.eq_iff_iff,decide_eq_true_eq];exact h.fr' hk _,
   show decide (y.label∈lsK bs)=bs.any (Zlw y) by rw[Bool.eq_iff_iff,decide_eq_true_eq,Zty,List.any_eq_true];simp[Zlw],←ZcS,Bool.or_comm (ZcS d y.label)]
 rw[q1]
 by_cases h2:(frL d (k+1) y.label||ZcS d y.label)=true
 · rw[if_pos (by rw[h2];rfl),if_pos h2]
 rw[if_neg h2,show(frL d (k+1) y.label||ZcS d y.label)=false by simpa using h2,Bool.false_or]
 by_cases h3:bs.any (Zlw y)=true
 · rw[if_pos h3,if_pos h3]
 rw[if_neg h3,if_neg h3]
 change (if ZeD d y then 12 else _)=_
 by_cases h4:ZeD d y=true
 · rw[if_pos h4,if_pos h4]
 rw[if_neg h4,if_neg h4,h.hy.bad]
 cases hf:y.floating with
 | true=>
  have hl:=Yu h1' hf
  simp only[Bool.not_true,Bool.false_and,Bool.false_eq_true,if_false,Bool.true_and]
  rw[h.ty.bad y hl,ht.bad y hl,ht.have y hl,List.any_append]
 | false=>
  simp only[Bool.not_false,Bool.false_and,Bool.false_eq_true,if_false,Bool.true_and]
  have hl:(decide (((y.text.length:Nat):Int)=0)||decide (200< ((y.text.length:Nat):Int)))=false:=by
   have:=h1'
   simp only[Q1,hf,Bool.not_false,Bool.true_and,Bool.or_eq_false_iff]at this
   simpa using this.2
  rw[Zg7,hl]
  simp
theorem ZeA {d:Db} {k:Nat} {y:Hy} {bs:List Hy} {dm:Bool} (h:ZcO d k y bs dm=0):
 bs.any (Zlw y)=false∧(y.floating=true→(oth d k++bs).any (ZhS y)=false∧bs.any (hOf y)=false)∧(oth d k).any (Zc3 y)=false:=by
 unfold ZcO at h
 by_cases h1:Q1 y dm=true
 · rw[if_pos h1]at h;exact absurd h dz
 rw[if_neg h1]at h
 by_cases h2:(frL d (k+1) y.label||ZcS d y.label)=true
 · rw[if_pos h2]at h;exact absurd h dz
 rw[if_neg h2]at h
 by_cases h3:bs.any (Zlw y)=true
 · rw[if_pos h3]at h;exact absurd h dz
 rw[if_neg h3]at h
 by_cases h4:ZeD d y=true
 · rw[if_pos h4]at h;exact absurd h dz
 rw[if_neg h4]at h
 by_cases h5:(!y.floating&& !decide (ZaS d y.text=0))=true
 · rw[if_pos h5]at h;simp[h]at h5
 rw[if_neg h5]at h
 by_cases h6:(y.floating&& (oth d k++bs).any (ZhS y))=true
 · rw[if_pos h6]at h;exact absurd h dz
 rw[if_neg h6]at h
 by_cases h7:(y.floating&&bs.any (hOf y))=true
 · rw[if_pos h7]at h;exact absurd h dz
 rw[if_neg h7]at h
 by_cases h8:(oth d k).any (Zc3 y)=true
 · rw[if_pos h8]at h;exact absurd h dz
 exact⟨(Bool.not_eq_true _).mp h3,fun hf=>⟨by rw[hf,Bool.true_and]at h6;exact(Bool.not_eq_true _).mp h6,by rw[hf,Bool.true_and]at h7;exact(Bool.not_eq_true _).mp h7⟩,(Bool.not_eq_true _).mp h8⟩
theorem Znj (h:∀ j,j< (alH (ge d.frames k)).length→ZbK d k j=0):∀ i,i≤(alH (ge d.frames k)).length→TyI ((alH (ge d.frames k)).take i) (tsK ((alH (ge d.frames k)).take i)):=by
 intro i
 induction i with
 | zero=>intro _;exact⟨fun x hx=>by simp at hx,fun v t ht=>by simp[tsK,Q6]at ht⟩
 | succ i ih=>
  intro hi
  have h0:=h i oz
  rw[Z1 oz,Zcd]
  exact Zjy (ih oz) (fun hf=>Yu (Zbb h0) hf) fun hf=>((ZeA h0).2.1 hf).2
theorem Zp7 (h:KInv d k fs hm tm bf) (hk:k<d.frames.length):Xf (alH (ge d.frames k)).length (hyK d.consts d.vars fs hm tm (ge d.frames k))=ZoQ d k:=by
 have key:∀ i,i< (alH (ge d.frames k)).length→(∀ j,j<i→ZbK d k j=0)→hyK d.consts d.vars fs hm tm (ge d.frames k) i=ZbK d k i∧TyI ((alH (ge d.frames k)).take i) (tsK ((alH (ge d.frames k)).take i)):=by
  intro i
  induction i with
  | zero=>
   intro _ _
   have ht:TyI ((alH (ge d.frames k)).take 0) (tsK ((alH (ge d.frames k)).take 0)):=⟨fun x hx=>by simp at hx,fun v t ht=>by simp[tsK,Q6]at ht⟩
   exact⟨Zkb h hk ht,ht⟩
  | succ i ih=>
   intro hi hj
   have h0:=hj i oz
   have ht:TyI ((alH (ge d.frames k)).take (i+1)) (tsK ((alH (ge d.frames k)).take (i+1))):=by
    rw[Z1 oz,Zcd]
    exact Zjy (ih oz fun j hj'=>hj j oz).2 (fun hf=>Yu (Zbb h0) hf) fun hf=>((ZeA h0).2.1 hf).2
   exact⟨Zkb h hk ht,ht⟩
 exact(ZhY fun i hi hj=>(key i hi hj).1.symm).symm
theorem ZkY:∀ {l:List Hy},(∀ i,i<l.length→(ge l i).floating=true→(ge l i).text.length=2∧(l.take i).any (hOf (ge l i))=false)→(Zdh l).Nodup:=by
 intro l h
 have key:∀ i,i≤l.length→(Zdh (l.take i)).Nodup:=by
  intro i
  induction i with
  | zero=>intro _;simp[Zdh]
  | succ i ih=>
   intro hi
   rw[Zdh,Z3 oz,List.map_append]
   by_cases hf:(ge l i).floating=true
   · simp only[hf,if_true,List.map_cons,List.map_nil]
     rw[List.nodup_append]
     refine⟨ih oz,by simp,fun x hx z hz e=>?_⟩
     rw[List.mem_singleton.1 hz]at e
     obtain⟨w,hw,rfl⟩:=List.mem_map.1 hx
     rw[List.mem_filter]at hw
     have h1:=h i oz hf
     have h2:=List.any_eq_false.1 h1.2 w hw.1
     refine h2 ?_
     rw[hOf,Zbg h1.1]
     obtain⟨q,hq,rfl⟩:=Y5 hw.1
     have hq':q<i:=by simp at hq;omega
     have e2:ge (l.take i) q=ge l q:=by simp[ge,List.getD_eq_getElem?_getD,hq']
     rw[e2]at hw e ⊢
     exact ofB_one.2 ⟨by simpa using hw.2,(h q oz (by simpa using hw.2)).1,e⟩
   · simp only[hf,Bool.false_eq_true,if_false,List.map_nil,List.append_nil]
     exact ih oz
 have:=key l.length nlr
 rwa [Zz nlr]at this
theorem ZtL {α:Type} [Inhabited α] {xs ys:List α} {i:Nat} (h:i<xs.length):ge (xs++ys) i=ge xs i:=by
 simp[ge,List.getD_eq_getElem?_getD,List.getElem?_append_left h]
theorem Zs4 (h:∀ j,j< (alH (ge d.frames k)).length→ZbK d k j=0):Zsj d.vars (ge d.frames k)=ZdM d (ge d.frames k):=by
 have hf0:∀ i,i< (ge d.frames k).hyps.length→(ge (ge d.frames k).hyps i).floating=true→(ge (ge d.frames k).hyps i).text.length=2∧((ge d.frames k).hyps.take i).any (hOf (ge (ge d.frames k).hyps i))=false:=fun i hi hf=>by
  have h0:=h i (by simp[alH];omega)
  rw[ZbK]at h0
  rw[ZtL hi]at h0
  rw[List.take_append_of_le_length oz]at h0
  exact⟨Yu (Zbb h0) hf,((ZeA h0).2.1 hf).2⟩
 have hnd:=ZkY hf0
 have hm0:Zj7 d.vars (ge d.frames k)=Qp d (ge d.frames k):=rfl
 have hmn:(Qp d (ge d.frames k)).Nodup:=(Zev _ _).1
 unfold Zsj ZdM
 rw[ZoG rfl,hm0]
 have e1:(ge d.frames k).hyps.all (Zlx (Qp d (ge d.frames k)))=(ge d.frames k).hyps.all (hIn (Qp d (ge d.frames k))):=by
  rw[Bool.eq_iff_iff,List.all_eq_true,List.all_eq_true]
  refine forall_congr' fun x=>⟨fun hx hm=>?_,fun hx hm=>?_⟩<;>have:=hx hm
  · obtain⟨i,hi,rfl⟩:=Y5 hm
    cases hf:(ge (ge d.frames k).hyps i).floating with
    | false=>simp[hIn,hf]
    | true=>
     simp only[Zlx,hf,Bool.not_true,Bool.false_or,decide_eq_true_eq]at this
     simp[hIn,ofB,hf,(hf0 i hi hf).1,this]
  · obtain⟨i,hi,rfl⟩:=Y5 hm
    cases hf:(ge (ge d.frames k).hyps i).floating with
    | false=>simp[Zlx,hf]
    | true=>
     simp only[hIn,ofB,hf,Bool.not_true,Bool.false_or,Bool.true_and,Bool.and_eq_true,decide_eq_true_eq]at this
     simp[Zlx,hf,this.2]
 rw[e1]
 by_cases ha:(ge d.frames k).hyps.all (hIn (Qp d (ge d.frames k)))=true
 · have hsub:∀ s∈Zdh (ge d.frames k).hyps,s∈Qp d (ge d.frames k):=fun s hs=>by
    obtain⟨x,hx,rfl⟩:=List.mem_map.1 hs
    rw[List.mem_filter]at hx
    have:=List.all_eq_true.1 (e1.trans ha) x hx.1
    simpa [Zlx,hx.2]using this
   have e2:decide ((Zdh (ge d.frames k).hyps).length=(Qp d (ge d.frames k)).length)=(Qp d (ge d.frames k)).all fun s=>decide (s∈Zdh (ge d.frames k).hyps):=by
    rw[Bool.eq_iff_iff,decide_eq_true_eq,List.all_eq_true]
    constructor
    · intro e s hs
      rw[decide_eq_true_eq]
      refine Classical.byContradiction fun hn=>?_
      have:=Zbt (ys:=(Qp d (ge d.frames k)).erase s) hnd fun z hz=>(List.mem_erase_of_ne (fun e':z=s=>hn (by rw[←e'];exact hz))).2 (hsub z hz)
      rw[List.length_erase_of_mem hs]at this
      have:=List.length_pos_of_mem hs
      omega
    · intro e
      have h1:=Zbt hnd hsub
      have h2:=Zbt hmn fun s hs=>by simpa using e s hs
      omega
   rw[e2,ha]
   simp only[Bool.true_and,Bool.and_assoc]
 · rw[show(ge d.frames k).hyps.all (hIn (Qp d (ge d.frames k)))=false by simpa using ha]
   rfl
theorem Zc5 (h:KInv d k fs hm tm bf) (hk:k<d.frames.length):ZeE d.consts d.vars fs hm tm (ge d.frames k) bf=frE d k:=by
 unfold ZeE frE Zc4
 by_cases h1:(!ZdF (ge d.frames k).label)=true
 · rw[if_pos h1,if_pos h1]
 rw[if_neg h1,if_neg h1,h.hy.some,←ZnG]
 have q:((hyL d k (ge d.frames k).label|| (decide ((ge d.frames k).label∈d.consts)||decide ((ge d.frames k).label∈d.vars)))||decide ((ge d.frames k).label∈fs))=((frL d k (ge d.frames k).label||hyL d k (ge d.frames k).label)||ZcS d (ge d.frames k).label):=by
  rw[show decide ((ge d.frames k).label∈fs)=frL d k (ge d.frames k).label by rw[Bool.eq_iff_iff,decide_eq_true_eq];exact h.fr _,←ZcS]
  cases hyL d k (ge d.frames k).label<;>cases frL d k (ge d.frames k).label<;>cases ZcS d (ge d.frames k).label<;>rfl
 rw[q]
 by_cases h2:((frL d k (ge d.frames k).label||hyL d k (ge d.frames k).label)||ZcS d (ge d.frames k).label)=true
 · rw[if_pos h2,if_pos h2]
 rw[if_neg h2,if_neg h2]
 by_cases h3:(decide ((40:Int)< (((ge d.frames k).hyps.length:Nat):Int))||decide ((40:Int)< (((ge d.frames k).dummies.length:Nat):Int)))=true
 · rw[if_pos h3,if_pos h3]
 rw[if_neg h3,if_neg h3,Zp7 h hk]
 by_cases h4:(!decide (ZoQ d k=0))=true
 · rw[if_pos h4,if_pos h4]
 rw[if_neg h4,if_neg h4,Zg7]
 have h4':∀ j,j< (alH (ge d.frames k)).length→ZbK d k j=0:=QH (n:=(alH (ge d.frames k)).length) (show ZoQ d k=0 by simpa using h4)
 by_cases h5:(decide ((((ge d.frames k).text.length:Nat):Int)=0)||decide (200< (((ge d.frames k).text.length:Nat):Int)))=true
 · rw[if_pos h5,if_pos h5,if_pos dz]
 rw[if_neg h5,if_neg h5]
 by_cases h6:(!decide (ZaS d (ge d.frames k).text=0))=true
 · rw[if_pos h6,if_pos h6]
 rw[if_neg h6,if_neg h6,Zfj,Zs4 h4']
 by_cases h7:ZdM d (ge d.frames k)=true
 · rw[if_pos h7,if_neg (show ¬ (!decide ((0:Int)=0))=true by decide),if_neg (show ¬ (!ZdM d (ge d.frames k))=true by simp[h7])]
   have e8:ZuX (ge d.frames k)=(((decide (0< (((ge d.frames k).proof.length:Nat):Int))&& !(ge d.frames k).thm)||decide (8000< (((ge d.frames k).proof.length:Nat):Int)))|| !(ge d.frames k).proof.all YY):=by
    rw[show(!(ge d.frames k).proof.all YY)=(ge d.frames k).proof.any fun s=>!YY s from List.not_all_eq_any_not ..]
    unfold ZuX
    by_cases h0:(ge d.frames k).proof=[]
    · simp[h0]
    · have:0< (ge d.frames k).proof.length:=List.length_pos_iff.2 h0
      simp[this]
   have e9:(((YU (ge d.frames k).hyps).drop (ZdW (bf.map Hy.label) ((YU (ge d.frames k).hyps).map Hy.label))).any fun y=>(Z8 hm y.label).isSome)=ordB d k (ge d.frames k):=by
    rw[ordB,h.bf,←List.map_drop,List.any_map]
    congr 1
    funext y
    rw[h.hy.some,←ZnG];rfl
   rw[e8,e9]
   by_cases h8:((decide (0< (((ge d.frames k).proof.length:Nat):Int))&& !(ge d.frames k).thm)||decide (8000< (((ge d.frames k).proof.length:Nat):Int)))=true
   · rw[if_pos (by rw[h8];rfl),if_pos h8]
   · rw[if_neg h8,show((decide (0< (((ge d.frames k).proof.length:Nat):Int))&& !(ge d.frames k).thm)||decide (8000< (((ge d.frames k).proof.length:Nat):Int)))=false by simpa using h8,Bool.false_or]
 · rw[if_neg h7,if_pos (show(!decide ((70:Int)=0))=true by decide),if_pos (show(!ZdM d (ge d.frames k))=true by simpa using h7)]
theorem Zqo (h:frE d k=0):∀ j,j< (alH (ge d.frames k)).length→ZbK d k j=0:=by
 refine QH (n:=(alH (ge d.frames k)).length) ?_
 change ZoQ d k=0
 unfold frE Zc4 at h
 refine Classical.byContradiction fun hn=>?_
 by_cases h1:(!ZdF (ge d.frames k).label)=true
 · rw[if_pos h1]at h;exact absurd h dz
 rw[if_neg h1]at h
 by_cases h2:((frL d k (ge d.frames k).label||hyL d k (ge d.frames k).label)||ZcS d (ge d.frames k).label)=true
 · rw[if_pos h2]at h;exact absurd h dz
 rw[if_neg h2]at h
 by_cases h3:(decide ((40:Int)< (((ge d.frames k).hyps.length:Nat):Int))||decide ((40:Int)< (((ge d.frames k).dummies.length:Nat):Int)))=true
 · rw[if_pos h3]at h;exact absurd h dz
 rw[if_neg h3,if_pos (by simpa using hn)]at h
 exact hn h
theorem Znv (h:KInv d k fs hm tm bf) (hk:k<d.frames.length) (h0:frE d k=0) {tn:List (BA×BA)}
 (ht:∀ v,Z8 tn v=if(Z8 (tsK (alH (ge d.frames k))) v).isSome then Z8 (tsK (alH (ge d.frames k))) v else Z8 tm v):
 KInv d (k+1) (Qr fs (ge d.frames k).label) (hmK hm (alH (ge d.frames k))) tn (YU (ge d.frames k).hyps):=by
 have hl:=Zqo h0
 have hT:=Znj hl (alH (ge d.frames k)).length nlr
 rw[Zz nlr]at hT
 have hat:∀ y∈alH (ge d.frames k),(y.floating=true→(oth d k).any (ZhS y)=false)∧(oth d k).any (Zc3 y)=false:=fun y hy=>by
  obtain⟨j,hj,rfl⟩:=Y5 hy
  have:=ZeA (hl j hj)
  refine⟨fun hf=>?_,this.2.2⟩
  have:=(this.2.1 hf).1
  rw[List.any_append,Bool.or_eq_false_iff]at this
  exact this.1
 have hdist:∀ x∈alH (ge d.frames k),∀ y∈alH (ge d.frames k),y.label=x.label→y=x:=fun x hx y hy e=>by
  obtain⟨i,hi,rfl⟩:=Y5 hx
  obtain⟨j,hj,rfl⟩:=Y5 hy
  have key:∀ p q,p<q→q< (alH (ge d.frames k)).length→(ge (alH (ge d.frames k)) p).label≠(ge (alH (ge d.frames k)) q).label:=fun p q hpq hq e=>by
   have:=(ZeA (hl q hq)).1
   rw[List.any_eq_false]at this
   refine this (ge (alH (ge d.frames k)) p) ?_ (by simpa [Zlw]using e)
   have e2:ge ((alH (ge d.frames k)).take q) p=ge (alH (ge d.frames k)) p:=by simp[ge,List.getD_eq_getElem?_getD,hpq]
   rw[←e2]
   exact Zj (show p< ((alH (ge d.frames k)).take q).length by rw[List.length_take];omega)
  rcases Nat.lt_trichotomy i j with h1 | h1 | h1
  · exact absurd e.symm (key i j h1 hj)
  · rw[h1]
  · exact absurd e (key j i h1 hi)
 have hsam:∀ x∈oth d k,∀ y∈alH (ge d.frames k),y.label=x.label→y=x:=fun x hx y hy e=>by
  have:=List.any_eq_false.1 (hat y hy).2 x hx
  simp only[Zc3,Bool.and_eq_true,Bool.not_eq_true',decide_eq_true_eq,not_and,Bool.not_eq_false]at this
  exact(hyEq_iff.1 (this e.symm)).symm
 refine⟨h.fr' hk,⟨fun x hx=>?_,fun s x hx=>?_⟩,⟨fun x hx v hv=>?_,fun v t hv=>?_⟩,?_⟩
 · rw[Zbs hk]at hx
   rcases List.mem_append.1 hx with hx | hx
   · exact ZiO _ _ _ (hsam x hx) (.inr (h.hy.hit x hx))
   · exact ZiO _ _ _ (hdist x hx) (.inl hx)
 · rw[Zbs hk]
   rcases ZnH _ _ _ _ hx with⟨h1,h2⟩ | h1
   · exact⟨List.mem_append_right _ h1,h2⟩
   · have:=h.hy.got _ _ h1
     exact⟨List.mem_append_left _ this.1,this.2⟩
 · rw[Zbs hk]at hx
   rw[ht]
   rcases List.mem_append.1 hx with hx | hx
   · cases hs:Z8 (tsK (alH (ge d.frames k))) v with
     | none=>simpa using h.ty.hit x hx v hv
     | some t=>
      obtain⟨y,hy,h1,h2⟩:=hT.got v t hs
      have hy1:=ofB_one.1 h1
      have:=List.any_eq_false.1 ((hat y hy).1 hy1.1) x hx
      simp only[ZhS,Zbg hy1.2.1,hy1.2.2,hv,Bool.true_and,Bool.not_eq_true',decide_eq_false_iff_not,Classical.not_not]at this
      simp[this,h2]
   · rw[hT.hit x hx v hv];rfl
 · rw[Zbs hk]
   rw[ht]at hv
   split at hv
   · obtain⟨y,hy,h1⟩:=hT.got v t hv
     exact⟨y,List.mem_append_right _ hy,h1⟩
   · obtain⟨y,hy,h1⟩:=h.ty.got v t hv
     exact⟨y,List.mem_append_left _ hy,h1⟩
 · rw[Zjl,if_neg oz,Nat.add_sub_cancel]
end
theorem ZiY {α:Type} [Inhabited α] {p:α→Bool}:∀ {l:List α} {k:Nat},k<l.length→(∀ j,j<k→p (ge l j)=false)→p (ge l k)=true→l.find? p=some (ge l k)
 | [],k,h,_,_=>by simp at h
 | x::r,0,_,_,h3=>by
  simp only[ge_z]at h3 ⊢
  simp[h3]
 | x::r,k+1,h1,h2,h3=>by
  have h4:=h2 0 oz
  simp only[ge_z,ge_s]at h3 h4 ⊢
  rw[List.find?_cons_of_neg (by simp[h4])]
  exact ZiY (by simpa using h1) (fun j hj=>by have:=h2 (j+1) oz;simpa only[ge_s]using this) h3
theorem Zn0 {α:Type} [Inhabited α] {p:α→Bool} {l:List α} (h:∀ j,j<l.length→p (ge l j)=false):l.find? p=none:=List.find?_eq_none.2 fun x hx=>by
 obtain⟨j,hj,rfl⟩:=Y5 hx
 simp[h j hj]
section
variable {l:List Bd} {s:BA} {k:Nat} {t vs:List BA}
theorem ZnE (hk:k<l.length) (h:∀ j,j<k→¬ (ge l j).var=s) (he:(ge l k).var=s):Yt (ZW l) s=(ge l k).text:=by
 unfold Yt
 rw[Zcs,ZiY hk (fun j hj=>by simpa using h j hj) (by simpa using he)]
 rfl
theorem Zka (h:∀ j,j<l.length→¬ (ge l j).var=s):Yt (ZW l) s=[s]:=by
 unfold Yt
 rw[Zcs,Zn0 (fun j hj=>by simpa using h j hj)]
 rfl
theorem Ztu (t vs:List BA):Qb t (Qe vs)=Qb t vs:=by
 have e:ZhF (Qe vs)=ZhF vs:=by
  funext out s
  unfold ZhF
  simp only[mem_lstL]
 unfold Qb
 rw[e]
theorem Ztv {t vs:List BA}:(Qb t vs).length≤t.length:=by
 have key:∀(t out:List BA),(t.foldl (ZhF vs) out).length≤out.length+t.length:=by
  intro t
  induction t with
  | nil=>intro out;simp
  | cons s r ih=>
   intro out
   have h1:=ih (ZhF vs out s)
   have h2:(ZhF vs out s).length≤out.length+1:=by unfold ZhF;split<;>simp
   simp only[List.foldl_cons,List.length_cons]
   omega
 simpa [Qb]using key t []
end
section
variable {M:BM} {pattern text:List BA} {k p:Nat}
theorem Zta (hk:k<pattern.length) (h:text.take p=Xm M (pattern.take k)) (hp:p≤text.length) (hb:¬ ((Yt M (ge pattern k)).length≤text.length-p∧(text.take (p+(Yt M (ge pattern k)).length)).drop p=Yt M (ge pattern k))):¬ Xm M pattern=text:=by
 intro e
 apply hb
 have e1:Xm M pattern=Xm M (pattern.take k)++(Yt M (ge pattern k)++Xm M (pattern.drop (k+1))):=by
  rw[←List.append_assoc,←YX hk,←Zd4,List.take_append_drop]
 have hl:(Xm M (pattern.take k)).length=p:=by rw[←h,List.length_take];omega
 have e2:text.drop p=Yt M (ge pattern k)++Xm M (pattern.drop (k+1)):=by
  rw[←e,e1,List.drop_append_of_le_length oz,List.drop_of_length_le oz,List.nil_append]
 constructor
 · have:=congrArg List.length e2
   rw[List.length_drop,List.length_append]at this
   omega
 · rw[List.drop_take,Nat.add_sub_cancel_left,e2,List.take_left]
theorem ZmC (hk:k<pattern.length) (h:text.take p=Xm M (pattern.take k)) (hb:(text.take (p+(Yt M (ge pattern k)).length)).drop p=Yt M (ge pattern k)):text.take (p+(Yt M (ge pattern k)).length)=Xm M (pattern.take (k+1)):=by
 have e:=List.take_append_drop p (text.take (p+(Yt M (ge pattern k)).length))
 rw[List.take_take,Nat.min_eq_left (Nat.le_add_right _ _),hb,h]at e
 rw[YX hk]
 exact e.symm
theorem Zpo (h:text.take p=Xm M pattern) (hp:p≤text.length):decide (((p:Nat):Int)=((text.length:Nat):Int))=decide (Xm M pattern=text):=ZnZ h hp
end
section
variable {l:List Bd} {ap wd:List Pr} {us:List BA} {k:Nat} {x:Pr}
theorem brk_at (hk:k< (ZbD l ap us).length) (h:∀ j,j<k→Ze6 wd (ge (ZbD l ap us) j)=false) (hh:Ze6 wd (ge (ZbD l ap us) k)=true):Zjk l ap us wd=some (ge (ZbD l ap us) k):=ZiY hk h hh
theorem ZuK (h:∀ j,j< (ZbD l ap us).length→Ze6 wd (ge (ZbD l ap us) j)=false):Zjk l ap us wd=none:=Zn0 h
theorem Ztg (hk:k<wd.length) (h:Qk (ge wd k)=x):x∈wd.map Qk:=h▸List.mem_map_of_mem (Zj hk)
theorem ZpG (h:∀ j,j<wd.length→¬ Qk (ge wd j)=x):¬ x∈wd.map Qk:=fun hx=>by
 obtain⟨y,hy,rfl⟩:=List.mem_map.1 hx
 obtain⟨j,hj,rfl⟩:=Y5 hy
 exact h j hj rfl
theorem Znb (l:List Bd) (us:List BA) (s:BA):Qb (Yt (ZW l) s) us=QC l us s:=(Ztu _ _).symm
theorem Zj3 {s:BA} (hl:∀ b∈l,b.text.length≤2000):(QC l us s).length≤2000:=Nat.le_trans Ztv (Zb1 dz hl s)
end
def QZ (vars:List BA) (wide:List Pr) (g:Fr) (es:List (List BA)):List BA×Int:=match ZlR vars wide g es 0 with
 | .ok t=>(t,0)
 | .error c=>([],c)
section
variable {vars:List BA} {wide:List Pr} {g:Fr} {es sk:List (List BA)} {j b:Nat}
theorem ux_24 (hj:j<g.hyps.length) (h:Zgs g.hyps es 0 j=false):QZ vars wide g es=([],24):=by
 rw[QZ,ZlR,Zdz hj h];rfl
theorem ux_25 (hk:∀ j,j<g.hyps.length→Zgs g.hyps es 0 j=true) (hj:j<g.hyps.length) (h:Zj6 g.hyps es 0 (Y4 g.hyps es 0 g.hyps.length) j=false):QZ vars wide g es=([],25):=by
 rw[QZ,ZlR,QY hk,Zdz hj h];rfl
variable (hk:∀ j,j<g.hyps.length→Zgs g.hyps es 0 j=true) (hm:∀ j,j<g.hyps.length→Zj6 g.hyps es 0 (Y4 g.hyps es 0 g.hyps.length) j=true)
include hk hm
theorem ux_15 (h:ZaR (ZW (Y4 g.hyps es 0 g.hyps.length)) g.text 2000=false):QZ vars wide g es=([],15):=by
 rw[QZ,ZlR,QY hk,QY hm,h];rfl
theorem ux_26 (h:ZaR (ZW (Y4 g.hyps es 0 g.hyps.length)) g.text 2000=true) (h2:Zfr (Y4 g.hyps es 0 g.hyps.length) g.apart vars wide=true):QZ vars wide g es=([],26):=by
 rw[QZ,ZlR,QY hk,QY hm,h,h2];rfl
theorem ux_ok (h:ZaR (ZW (Y4 g.hyps es 0 g.hyps.length)) g.text 2000=true) (h2:Zfr (Y4 g.hyps es 0 g.hyps.length) g.apart vars wide=false):QZ vars wide g es=(Xm (ZW (Y4 g.hyps es 0 g.hyps.length)) g.text,0):=by
 rw[QZ,ZlR,QY hk,QY hm,h,h2];rfl
end
structure Ri where
 label:BA
 back:Int
 unk:Bool
instance instInhRi:Inhabited Ri:=⟨⟨⟨#[]⟩,0,false⟩⟩
section
variable {f:Fr} {labels:List BA} {ls:List Lt} {k:Nat} {q r:List Ri×List Int} {x:Ri}
end
def Yq (d:Db) (i:Nat) (s:BA):Int:=match(d.frames.take i).findIdx? (fun f=>decide (f.label=s))with
 | some k=>(k:Int)
 | none=> -1
section
variable {d:Db} {i k j:Nat} {s:BA} {z:Int}
theorem ZnJ {α:Type} [Inhabited α] {l:List α} (h:j<i):ge (l.take i) j=ge l j:=by
 simp only[ge,List.getD_eq_getElem?_getD,List.getElem?_take]
 rw[if_pos h]
theorem ZtK {α:Type} [Inhabited α] {l m:List α} {p:Nat} (h:p<l.length):ge (l++m) p=ge l p:=by
 simp only[ge,List.getD_eq_getElem?_getD]
 rw[List.getElem?_append_left h]
theorem Ze8 (hi:i≤d.frames.length) (hk:k<i) (h0:∀ j,j<k→¬ (ge d.frames j).label=s) (h:(ge d.frames k).label=s):Yq d i s=(k:Int):=by
 have:(d.frames.take i).findIdx? (fun f=>decide (f.label=s))=some k:=by
  rw[List.findIdx?_eq_some_iff_getElem]
  have hl:k< (d.frames.take i).length:=by rw[List.length_take];omega
  refine⟨hl,?_,fun j hj=>?_⟩
  · rw[←YS hl,ZnJ hk];simpa using h
  · rw[←YS (show j< (d.frames.take i).length by omega),ZnJ oz];simpa using h0 j hj
 rw[Yq,this]
theorem Zdd (h0:∀ j,j<i→¬ (ge d.frames j).label=s):Yq d i s= -1:=by
 have:(d.frames.take i).findIdx? (fun f=>decide (f.label=s))=none:=by
  rw[List.findIdx?_eq_none_iff]
  intro x hx
  obtain⟨j,hj,hjl,rfl⟩:=mem_take_geF hx
  simpa using h0 j hj
 rw[Yq,this]
 where
 mem_take_geF {l:List Fr} {x:Fr} {m:Nat} (h:x∈l.take m):∃ i,i<m∧i<l.length∧ge l i=x:=by
  obtain⟨i,hi,rfl⟩:=List.getElem_of_mem h
  rw[List.length_take]at hi
  exact⟨i,oz,oz,by rw[YS oz,List.getElem_take]⟩
theorem ZgU (h:¬ Yq d i s<0):0≤Yq d i s∧(Yq d i s).toNat<i∧(Yq d i s).toNat<d.frames.length:=by
 unfold Yq at h ⊢
 split
 · rename_i k hk
   have h1:=(List.findIdx?_eq_some_iff_getElem.1 hk).1
   rw[List.length_take]at h1
   exact⟨oz,by rw[Int.toNat_natCast];omega,by rw[Int.toNat_natCast];omega⟩
 · rename_i hk
   rw[hk]at h
   exact absurd dz h
end
def tagL:List Itm→Int→List Int
 | [],_=>[]
 | x::r,b=>if x.tagged then b::tagL r (b+1)else tagL r (b+1)
def RelI (f:Fr) (M:List (BA×Int)) (tgs:List Int) (x:Itm) (r:Ri):Prop:=
 (r.unk=true∧x.kind=0)∨(r.unk=false∧r.back= -1∧¬ r.label=⟨#[63]⟩∧x.kind=(ZhG f M r.label).kind∧x.text=(ZhG f M r.label).text∧x.number=(ZhG f M r.label).number)∨
 (r.unk=false∧x.kind=4∧0≤x.number∧x.number<tgs.length∧r.back=ge tgs x.number.toNat∧0≤r.back)
section
variable {f:Fr} {M:List (BA×Int)} {labels:List BA}
end
def Qs {α:Type} [DecidableEq α] (kids:α→List α):Nat→α→List α→List α
 | 0,_,o=>o
 | f+1,x,o=>if x∈o then o else(kids x).foldl (fun o a=>Qs kids f a o) o++[x]
section
variable {α:Type} [DecidableEq α] (kids:α→List α)
theorem ZbQ:∀(f:Nat) (x:α) (o:List α),o<+:Qs kids f x o
 | 0,_,o=>List.prefix_refl o
 | f+1,x,o=>by
  simp only[Qs]
  split
  · exact List.prefix_refl o
  · rename_i hx
    clear hx
    refine List.IsPrefix.trans ?_ (List.prefix_append _ _)
    generalize kids x=l
    induction l generalizing o with
    | nil=>exact List.prefix_refl o
    | cons a l ih=>
     simp only[List.foldl_cons]
     exact(ZbQ f a o).trans (ih _)
theorem ZeI (f:Nat) (l:List α) (o:List α):o<+:l.foldl (fun o a=>Qs kids f a o) o:=by
 induction l generalizing o with
 | nil=>exact List.prefix_refl o
 | cons a l ih=>exact(ZbQ kids f a o).trans (ih _)
theorem ZdG (f:Nat) (l:List α) (k:Nat) (o:List α):(l.take k).foldl (fun o a=>Qs kids f a o) o<+:l.foldl (fun o a=>Qs kids f a o) o:=by
 conv=>rhs;rw[←List.take_append_drop k l]
 rw[List.foldl_append]
 exact ZeI kids f _ _
theorem ZbL (f:Nat) (l:List α) (k:Nat) (h:k<l.length) (o:List α):
 (l.take (k+1)).foldl (fun o a=>Qs kids f a o) o=Qs kids f l[k] ((l.take k).foldl (fun o a=>Qs kids f a o) o):=by
 rw[List.take_succ_eq_append_getElem h,List.foldl_append]
 rfl
theorem Zo7 (f:Nat) (x:α) (o:List α):x∈Qs kids (f+1) x o:=by
 simp only[Qs]
 split
 · assumption
 · simp
variable (r:α→Nat) (hr:∀ x,∀ a∈kids x,r a<r x)
include hr
theorem Zcg:∀(f:Nat) (x:α) (o:List α) (y:α),y∈Qs kids f x o→y∈o∨r y≤r x
 | 0,_,_,_,h=>Or.inl h
 | f+1,x,o,y,h=>by
  simp only[Qs]at h
  split at h
  · exact Or.inl h
  · have key:∀(l:List α) (o:List α),(∀ a∈l,r a<r x)→y∈l.foldl (fun o a=>Qs kids f a o) o→y∈o∨r y≤r x:=by
     intro l
     induction l with
     | nil=>intro o _ h;exact Or.inl h
     | cons a l ih=>
      intro o hl h
      rcases ih _ (fun b hb=>hl b (List.mem_cons_of_mem _ hb)) h with h | h
      · rcases Zcg f a o y h with h | h
        · exact Or.inl h
        · exact Or.inr (by have:=hl a (List.mem_cons_self ..);omega)
      · exact Or.inr h
    rcases List.mem_append.1 h with h | h
    · exact key _ _ (fun a ha=>hr x a ha) h
    · exact Or.inr (by simp at h;subst h;omega)
end
def Shut {α:Type} (kids:α→List α) (o:List α):Prop:=∀ p x,(p++[x])<+:o→x∉p∧∀ a∈kids x,a∈p
theorem Shut.snoc {α:Type} {kids:α→List α} {o:List α} {x:α} (h:Shut kids o) (hx:x∉o) (hk:∀ a∈kids x,a∈o):Shut kids (o++[x]):=by
 intro p y hp
 rcases List.prefix_concat_iff.1 hp with h1 | h1
 · obtain⟨rfl,h2⟩:=List.append_inj' h1 rfl
   simp at h2;subst h2
   exact⟨hx,hk⟩
 · exact h p y h1
section
variable {α:Type} [DecidableEq α] (kids:α→List α) (r:α→Nat) (hr:∀ x,∀ a∈kids x,r a<r x)
include hr
theorem Zcf:∀(f:Nat) (x:α) (o:List α),r x<f→Shut kids o→Shut kids (Qs kids f x o)
 | 0,_,_,h,_=>by omega
 | f+1,x,o,hf,ho=>by
  simp only[Qs]
  split
  · exact ho
  · rename_i hx
    have key:∀(l:List α) (o:List α),(∀ a∈l,r a<r x)→Shut kids o→x∉o→Shut kids (l.foldl (fun o a=>Qs kids f a o) o)∧x∉l.foldl (fun o a=>Qs kids f a o) o∧∀ a∈l,a∈l.foldl (fun o a=>Qs kids f a o) o:=by
     intro l
     induction l with
     | nil=>intro o _ h1 h2;exact⟨h1,h2,fun a ha=>by cases ha⟩
     | cons a l ih=>
      intro o hl h1 h2
      have ha:=hl a (List.mem_cons_self ..)
      have h3:=Zcf f a o (by omega) h1
      have h4:x∉Qs kids f a o:=fun h=>by
       rcases Zcg kids r hr f a o x h with h | h
       · exact h2 h
       · omega
      obtain⟨i1,i2,i3⟩:=ih _ (fun b hb=>hl b (List.mem_cons_of_mem _ hb)) h3 h4
      refine⟨i1,i2,fun b hb=>?_⟩
      rcases List.mem_cons.1 hb with rfl | hb
      · obtain⟨f',rfl⟩:∃ f',f=f'+1:=⟨f-1,by omega⟩
        exact(ZeI kids (f'+1) l _).subset (Zo7 kids f' b o)
      · exact i3 b hb
    obtain⟨i1,i2,i3⟩:=key (kids x) o (fun a ha=>hr x a ha) ho hx
    exact i1.snoc i2 i3
end
def ZQ (ss:List Stp) (i:Nat):List Nat:=((ss[i]?.map Stp.args).getD []).map Int.toNat
theorem X5 {ss:List Stp} {i:Nat} (h:i<ss.length):ZQ ss i=ss[i].args.map Int.toNat:=by
 simp[ZQ,List.getElem?_eq_getElem h]
def Okay (ss:List Stp):Prop:=1≤ss.length∧ss.length≤2000∧∀ i (h:i<ss.length),ss[i].args.length≤40∧∀ a∈ss[i].args,0≤a∧a<i
def post (ss:List Stp):List Nat:=Qs (ZQ ss) ss.length (ss.length-1) []
theorem ZeF:∀(l:List Stp) (i:Nat),Zaa i l=0↔ ∀ j (h:j<l.length),l[j].args.length≤40∧∀ a∈l[j].args,0≤a∧a< ((i+j:Nat):Int)
 | [],i=>by simp[Zaa]
 | s::r,i=>by
  have ih:=ZeF r (i+1)
  simp only[Zaa]
  constructor
  · intro h
    split at h
    · simp at h
    split at h
    · simp at h
    rename_i h1 h2
    intro j hj
    cases j with
    | zero=>
     refine⟨by simp;omega,fun a ha=>?_⟩
     have:=h2
     simp only[List.any_eq_true,not_exists,not_and,Bool.not_eq_true]at this
     have h3:=this a (by simpa using ha)
     simp[XX]at h3
     simp;omega
    | succ j=>
     have h3:=ih.1 h j (by simp at hj;omega)
     refine⟨by simpa using h3.1,fun a ha=>?_⟩
     have:=h3.2 a (by simpa using ha)
     omega
  · intro h
    have h0:=h 0 (by simp)
    simp only[List.getElem_cons_zero]at h0
    rw[if_neg (by omega),if_neg,ih]
    · intro j hj
      have h1:=h (j+1) (by simp;omega)
      simp only[List.getElem_cons_succ]at h1
      refine⟨h1.1,fun a ha=>?_⟩
      have:=h1.2 a ha
      omega
    · simp only[List.any_eq_true,not_exists,not_and,Bool.not_eq_true]
      intro a ha
      have:=h0.2 a ha
      simp[XX];omega
theorem Xy (ss:List Stp):X1 ss=0↔Okay ss:=by
 unfold X1 Okay
 split
 · simp;omega
 · rw[ZeF]
   simp only[Nat.zero_add]
   constructor
   · intro h;exact⟨by omega,by omega,h⟩
   · intro h;exact h.2.2
theorem ZjH {α:Type} (kids:α→List α):Shut kids []:=fun p x h=>by
 have:=h.length_le
 simp at this
theorem Okay.kid {ss:List Stp} (h:Okay ss) {i a:Nat} (ha:a∈ZQ ss i):a<i:=by
 by_cases hi:i<ss.length
 · rw[X5 hi]at ha
   obtain⟨b,hb,rfl⟩:=List.mem_map.1 ha
   have:=(h.2.2 i hi).2 b hb
   omega
 · simp[ZQ,List.getElem?_eq_none (Nat.le_of_not_lt hi)]at ha
theorem Okay.shut {ss:List Stp} (h:Okay ss):Shut (ZQ ss) (post ss):=
 Zcf (ZQ ss) id (fun x a ha=>h.kid ha) _ _ _ (by have:=h.1;simp only[id];omega) (ZjH _)
theorem Okay.post_lt {ss:List Stp} (h:Okay ss) {x:Nat} (hx:x∈post ss):x<ss.length:=by
 rcases Zcg (ZQ ss) id (fun x a ha=>h.kid ha) _ _ _ x hx with h1 | h1
 · simp at h1
 · have:=h.1;simp only[id]at h1;omega
theorem Okay.round {ss:List Stp} (h:Okay ss) {pre:List Nat} {x:Nat} (hp:(pre++[x])<+:post ss):
 x<ss.length∧x∉pre∧∀ a∈ZQ ss x,a∈pre:=
 ⟨h.post_lt (hp.subset (by simp)),h.shut pre x hp⟩
theorem ZbY:∀(n:Nat) (l:List Nat),l.Nodup→(∀ x∈l,x<n)→l.length≤n
 | 0,l,_,h=>by
  cases l with
  | nil=>simp
  | cons a l=>have:=h a (by simp);omega
 | n+1,l,hn,h=>by
  by_cases hm:n∈l
  · have ih:=ZbY n (l.erase n) (hn.erase n) (fun x hx=>by
     have h1:=(List.Nodup.mem_erase_iff hn).1 hx
     have h2:=h x h1.2
     omega)
    rw[List.length_erase_of_mem hm]at ih
    omega
  · have:=ZbY n l hn (fun x hx=>by
     have h2:=h x hx
     have h3:x≠n:=fun e=>hm (e▸hx)
     omega)
    omega
theorem Zk5 {α:Type} {kids:α→List α} {o:List α} (hs:Shut kids o):o.Nodup:=by
 have key:∀ k,(o.take k).Nodup:=by
  intro k
  induction k with
  | zero=>simp
  | succ k ih=>
   rcases Nat.lt_or_ge k o.length with h | h
   · rw[List.take_succ_eq_append_getElem h,List.nodup_append]
     refine⟨ih,by simp,?_⟩
     intro a ha b hb e
     simp at hb
     subst hb
     exact(hs (o.take k) o[k] (by rw[←List.take_succ_eq_append_getElem h];exact List.take_prefix _ _)).1 (e▸ha)
   · rw[List.take_of_length_le (by omega)]
     rwa [List.take_of_length_le h]at ih
 have:=key o.length
 rwa [List.take_length]at this
theorem Zaf {ss:List Stp} (h:Okay ss):(post ss).length≤ss.length:=
 ZbY _ _ (Zk5 h.shut) fun _ hx=>h.post_lt hx
def XD (out:List Int) (acc a:Int):Int:=if acc+out.getD a.toNat 0<1000000000 then acc+out.getD a.toNat 0 else 1000000000
def Yc (ss:List Stp):Nat→List Int
 | 0=>[]
 | k+1=>Yc ss k++[((ss[k]?.map Stp.args).getD []).foldl (XD (Yc ss k)) 1]
def Xb (ss:List Stp):List Int:=Yc ss ss.length
theorem Z0 (ss:List Stp):∀ k,(Yc ss k).length=k
 | 0=>rfl
 | k+1=>by simp[Yc,Z0 ss k]
theorem Zbv (out:List Int) (ho:∀ x∈out,0≤x∧x≤1000000000):∀(l:List Int) (acc:Int),0≤acc∧acc≤1000000000→0≤l.foldl (XD out) acc∧l.foldl (XD out) acc≤1000000000
 | [],acc,h=>h
 | a::l,acc,h=>by
  refine Zbv out ho l _ ?_
  have h1:0≤out.getD a.toNat 0∧out.getD a.toNat 0≤1000000000:=by
   rw[List.getD_eq_getElem?_getD]
   cases hg:out[a.toNat]? with
   | none=>simp
   | some y=>exact ho y (List.mem_of_getElem? hg)
  unfold XD
  split<;>omega
theorem Xv (ss:List Stp):∀ k,∀ x∈Yc ss k,0≤x∧x≤1000000000
 | 0,x,h=>by simp[Yc]at h
 | k+1,x,h=>by
  simp only[Yc,List.mem_append,List.mem_singleton]at h
  rcases h with h | h
  · exact Xv ss k x h
  · rw[h];exact Zbv _ (Xv ss k) _ _ (by omega)
inductive Tree where
 | node (label:ByteArray) (kids:List Tree)
mutual
def flat:Tree→Nat→List Stp
 | .node l ks,n=>(flats ks n).1++[⟨l,(flats ks n).2⟩]
def flats:List Tree→Nat→List Stp×List Int
 | [],_=>([],[])
 | k::ks,n=>(flat k n++(flats ks (n+(flat k n).length)).1,(((n+(flat k n).length:Nat):Int)-1)::(flats ks (n+(flat k n).length)).2)
end
mutual
def tsize:Tree→Nat
 | .node _ ks=>tsizes ks+1
def tsizes:List Tree→Nat
 | []=>0
 | k::ks=>tsize k+tsizes ks
end
mutual
theorem flat_length:∀(t:Tree) (n:Nat),(flat t n).length=tsize t
 | .node l ks,n=>by simp[flat,tsize,flats_length ks n]
theorem flats_length:∀(ks:List Tree) (n:Nat),(flats ks n).1.length=tsizes ks
 | [],n=>rfl
 | k::ks,n=>by simp[flats,tsizes,flat_length k n,flats_length ks]
end
theorem QV:∀(ks:List Tree) (n:Nat),(flats ks n).2.length=ks.length
 | [],n=>by simp[flats]
 | k::ks,n=>by simp[flats,QV ks]
theorem Zc9 (k:Tree):∀(ks:List Tree) (n:Nat),flats (ks++[k]) n=
 ((flats ks n).1++flat k (n+(flats ks n).1.length),(flats ks n).2++[((n+(flats ks n).1.length+tsize k:Nat):Int)-1])
 | [],n=>by simp[flats,flat_length]
 | x::ks,n=>by
  simp only[List.cons_append,flats,Zc9 k ks,List.length_append,List.append_assoc,flat_length,flats_length,Nat.add_assoc]
theorem X3:∀(a b:List Tree),tsizes (a++b)=tsizes a+tsizes b
 | [],b=>by simp[tsizes]
 | x::a,b=>by simp[tsizes,X3 a b,Nat.add_assoc]
theorem Zb2:∀(ks:List Tree) (n:Nat),∀ x∈(flats ks n).2,0≤x∧x< ((n+tsizes ks:Nat):Int)
 | [],n,x,h=>by simp[flats]at h
 | .node l kk::ks,n,x,h=>by
  simp only[flats,List.mem_cons,flat_length]at h
  rcases h with h | h
  · simp only[tsize,tsizes]at h ⊢;omega
  · have:=Zb2 ks _ x h
    simp only[tsize,tsizes]at this ⊢;omega
def Zin (ss:List Stp):Nat→Nat→Tree
 | 0,_=>.node ByteArray.empty []
 | f+1,i=>.node ((ss[i]?.map Stp.label).getD ByteArray.empty) ((ZQ ss i).map (Zin ss f))
def treeAt (ss:List Stp) (i:Nat):Tree:=Zin ss (i+1) i
theorem Zg9 {ss:List Stp} (h:∀ i,∀ a∈ZQ ss i,a<i):∀(f g i:Nat),i<f→i<g→Zin ss f i=Zin ss g i
 | 0,_,_,h,_=>by omega
 | _,0,_,_,h=>by omega
 | f+1,g+1,i,hf,hg=>by
  simp only[Zin,Tree.node.injEq,true_and]
  refine List.map_congr_left fun a ha=>?_
  have:=h i a ha
  exact Zg9 h f g a (by omega) (by omega)
theorem Zeb {ss:List Stp} (h:∀ i,∀ a∈ZQ ss i,a<i) (i:Nat):treeAt ss i= .node ((ss[i]?.map Stp.label).getD ByteArray.empty) ((ZQ ss i).map (treeAt ss)):=by
 show Zin ss (i+1) i=_
 simp only[Zin,Tree.node.injEq,true_and]
 refine List.map_congr_left fun a ha=>?_
 have:=h i a ha
 exact Zg9 h _ _ a (by omega) (by omega)
theorem Okay.kids {ss:List Stp} (h:Okay ss):∀ i,∀ a∈ZQ ss i,a<i:=fun _ _ ha=>h.kid ha
theorem Okay.treeAt {ss:List Stp} (hok:Okay ss) {i:Nat} (h:i<ss.length):treeAt ss i= .node ss[i].label (ss[i].args.map fun a=>Go.Proofs.YtaigaoflehfdcaaGreatDoor.treeAt ss a.toNat):=by
 rw[Zeb hok.kids,X5 h,List.map_map]
 simp[h]
def Zav (ss:List Stp):Tree:=treeAt ss (ss.length-1)
def ZL (ss:List Stp):List Stp:=flat (Zav ss) 0
theorem Zg8:∀ t:Tree,0<tsize t
 | .node _ _=>by simp[tsize]
theorem Zfz {ss:List Stp} (hok:Okay ss):∀ k,k≤ss.length→∀ i,i<k→(Yc ss k)[i]?=some (((min (tsize (treeAt ss i)) 1000000000:Nat):Int))
 | 0,_,i,h=>by omega
 | k+1,hk,i,h=>by
  have ih:=Zfz hok k (by omega)
  simp only[Yc]
  by_cases hi:i<k
  · rw[List.getElem?_append_left (by rw[Z0];exact hi)]
    exact ih i hi
  · obtain rfl:i=k:=by omega
    rw[List.getElem?_append_right (by rw[Z0];omega),Z0,Nat.sub_self]
    simp only[List.getElem?_cons_zero,Option.some.injEq]
    rw[hok.treeAt (by omega)]
    simp only[show i<ss.length by omega,List.getElem?_eq_getElem,Option.map_some,Option.getD_some,tsize]
    have hargs:=(hok.2.2 i (by omega)).2
    generalize ss[i].args=l at hargs
    have key:∀(l:List Int),(∀ a∈l,0≤a∧a<i)→∀ m:Nat,l.foldl (XD (Yc ss i)) ((min m 1000000000:Nat):Int)=((min (m+tsizes (l.map fun a=>Go.Proofs.YtaigaoflehfdcaaGreatDoor.treeAt ss a.toNat)) 1000000000:Nat):Int):=by
     intro l
     induction l with
     | nil=>intro _ m;simp[tsizes]
     | cons a l ihl=>
      intro hl m
      have ha:=hl a (by simp)
      have hg:=ih a.toNat (by omega)
      simp only[List.foldl_cons,List.map_cons,tsizes]
      have hstep:XD (Yc ss i) ((min m 1000000000:Nat):Int) a=((min (m+tsize (Go.Proofs.YtaigaoflehfdcaaGreatDoor.treeAt ss a.toNat)) 1000000000:Nat):Int):=by
       unfold XD
       rw[List.getD_eq_getElem?_getD,hg]
       simp only[Option.getD_some]
       split<;>omega
      rw[hstep,ihl (fun x hx=>hl x (by simp[hx])),Nat.add_assoc]
    have h1:=key l hargs 1
    rw[show((min 1 1000000000:Nat):Int)=1 by rfl]at h1
    rw[h1,Nat.add_comm]
theorem ZbS {ss:List Stp} (hok:Okay ss):(Xb ss).getD (ss.length-1) 0=((min (tsize (Zav ss)) 1000000000:Nat):Int):=by
 have h0:1≤ss.length:=hok.1
 have:=Zfz hok ss.length (Nat.le_refl _) (ss.length-1) (by omega)
 rw[List.getD_eq_getElem?_getD,show Xb ss=Yc ss ss.length from rfl,this]
 rfl
instance instInhStp:Inhabited Stp:=⟨⟨⟨#[]⟩,[]⟩⟩
def spC (s:Stp):List CD:=[.lit (.string s.label),Qx s.args]
def Zak (l:List Stp):CD:=.sl (l.map spC)
def pfC (l:List Stp):List CD:=[Zak l]
def fsE (ss:List Stp) (i:Nat):Int:=if 40< (ge ss i).args.length then 4 else if(ge ss i).args.any (XX i)then 3 else 0
section
variable {ss:List Stp} {k:Nat}
theorem ZeG:∀ k,k≤ss.length→(∀ j,j<k→fsE ss j=0)→Zaa 0 ss=Zaa k (ss.drop k)
 | 0,_,_=>by rw[List.drop_zero]
 | k+1,hk,h=>by
  rw[ZeG k oz fun j hj=>h j oz,List.drop_eq_getElem_cons (by omega:k<ss.length),Zaa]
  have h1:=h k oz
  unfold fsE at h1
  rw[YS (by omega:k<ss.length)]at h1
  split at h1
  · cases h1
  · rename_i h2
    rw[if_neg h2]
    split at h1
    · cases h1
    · rename_i h3
      rw[if_neg h3]
theorem ZdU (hn:¬ (ss.length<1∨2000<ss.length)) (hk:k<ss.length) (h:∀ j,j<k→fsE ss j=0) (he:¬ fsE ss k=0):X1 ss=fsE ss k:=by
 rw[X1,if_neg hn,ZeG k oz h,List.drop_eq_getElem_cons hk,Zaa]
 unfold fsE at he ⊢
 rw[YS hk]at he ⊢
 split
 · rfl
 · rename_i h2
   rw[if_neg h2]at he
   split
   · rfl
   · rename_i h3
     rw[if_neg h3]at he
     exact absurd rfl he
theorem ZhW (hn:¬ (ss.length<1∨2000<ss.length)) (h:∀ j,j<ss.length→fsE ss j=0):X1 ss=0:=by
 rw[X1,if_neg hn,ZeG ss.length nlr h,List.drop_length]
 rfl
theorem ZhV (hn:ss.length<1∨2000<ss.length):X1 ss=4:=by rw[X1,if_pos hn]
end
def Zaq (d:Db) (z:Int) (ss:List Stp):Int:=if XY d z=0 then X1 ss else XY d z
def Xg (ahead:List (List BA)) (args:List Int):List (List BA):=args.map fun a=>ge ahead a.toNat
def Qa (d:Db) (i:Nat) (s:Stp) (ahead:List (List BA)):List BA×Int:=
 if s.label=⟨#[63]⟩then([],27)
 else match X0 (ge d.frames i) s.label with
  | some h=>if 0<s.args.length then([],23)else(h.text,0)
  | none=>if Yq d i s.label<0 then([],22)
   else if s.args.length≠(ge d.frames (Yq d i s.label).toNat).hyps.length then([],23)
   else QZ d.vars (ge d.frames i).wide (ge d.frames (Yq d i s.label).toNat) (Xg ahead s.args)
section
variable {d:Db} {i:Nat} {s:Stp} {a:List (List BA)}
theorem sg_27 (h:s.label=⟨#[63]⟩):Qa d i s a=([],27):=by rw[Qa,if_pos h]
variable (h0:¬ s.label=⟨#[63]⟩)
include h0
theorem Zsi (h:(X0 (ge d.frames i) s.label).isSome=true) (h2:0<s.args.length):Qa d i s a=([],23):=by
 rw[Qa,if_neg h0]
 cases h9:X0 (ge d.frames i) s.label with
 | none=>rw[h9]at h;cases h
 | some y=>exact if_pos h2
theorem Zsh (h:(X0 (ge d.frames i) s.label).isSome=true) (h2:¬ 0<s.args.length):Qa d i s a=(((X0 (ge d.frames i) s.label).getD default).text,0):=by
 rw[Qa,if_neg h0]
 cases h9:X0 (ge d.frames i) s.label with
 | none=>rw[h9]at h;cases h
 | some y=>exact if_neg h2
variable (h1:X0 (ge d.frames i) s.label=none)
include h1
theorem sg_22 (h2:Yq d i s.label<0):Qa d i s a=([],22):=by rw[Qa,if_neg h0,h1];exact if_pos h2
variable (h2:¬ Yq d i s.label<0)
include h2
theorem sg_23 (h3:s.args.length≠(ge d.frames (Yq d i s.label).toNat).hyps.length):Qa d i s a=([],23):=by rw[Qa,if_neg h0,h1];exact(if_neg h2).trans (if_pos h3)
theorem Zsg (h3:s.args.length=(ge d.frames (Yq d i s.label).toNat).hyps.length):Qa d i s a=QZ d.vars (ge d.frames i).wide (ge d.frames (Yq d i s.label).toNat) (Xg a s.args):=by
 rw[Qa,if_neg h0,h1];exact(if_neg h2).trans (if_neg fun h=>h h3)
end
def fmG (d:Db) (i:Nat) (ss:List Stp):Nat→List (List BA)
 | 0=>[]
 | k+1=>fmG d i ss k++[(Qa d i (ge ss k) (fmG d i ss k)).1]
def erG (d:Db) (i:Nat) (ss:List Stp) (k:Nat):Int:=(Qa d i (ge ss k) (fmG d i ss k)).2
theorem ZeK (d:Db) (i:Nat) (ss:List Stp):∀ k,(fmG d i ss k).length=k
 | 0=>rfl
 | k+1=>by rw[fmG,List.length_append,ZeK d i ss k];rfl
def badG (d:Db) (i:Nat) (ss:List Stp):Option Nat:=(List.range ss.length).find? fun k=>decide (¬ erG d i ss k=0)
def txtG (d:Db) (i:Nat) (ss:List Stp):List (List BA)×(Int×Int):=match badG d i ss with
 | some k=>(fmG d i ss k,(erG d i ss k,(k:Int)))
 | none=>(fmG d i ss ss.length,if ge (fmG d i ss ss.length) (ss.length-1)=(ge d.frames i).text then(0,0)else(28,(ss.length:Int)))
section
variable {d:Db} {i k:Nat} {ss:List Stp}
theorem Zme (hk:k<ss.length) (h:∀ j,j<k→erG d i ss j=0) (he:¬ erG d i ss k=0):txtG d i ss=(fmG d i ss k,(erG d i ss k,(k:Int))):=by
 have:badG d i ss=some k:=by
  rw[badG,List.find?_range_eq_some]
  exact⟨by simpa using he,by simpa using hk,fun j hj=>by simpa using h j hj⟩
 rw[txtG,this]
theorem Zjz (h:∀ j,j<ss.length→erG d i ss j=0):txtG d i ss=(fmG d i ss ss.length,if ge (fmG d i ss ss.length) (ss.length-1)=(ge d.frames i).text then(0,0)else(28,(ss.length:Int))):=by
 have:badG d i ss=none:=by
  rw[badG,List.find?_range_eq_none]
  intro j hj
  simpa using h j hj
 rw[txtG,this]
end
end Go.Proofs.YtaigaoflehfdcaaGreatDoor
namespace Go.Proofs.YtaigaoflehfdcaaGreatDoor
open Go.ChangeShapes Go.WideShapes Go.ChangeAt Go.RowKit Go.Deep
def spT:List TyD:=[.str,ZtF]
def pfT:List TyD:=[.sl 40 spT]
theorem ZtP {cs:List CD} (h:FitsL pfT cs):∃ ss:List Stp,cs=pfC ss:=by
 simp only[pfT]at h
 obtain⟨c,rfl,h3⟩:=FitsL.one h
 simp only[Fits]at h3
 obtain⟨rows,rfl,_,_,h4⟩:=h3
 obtain⟨xs,rfl⟩:=Zck (f:=spC) (rows:=rows) fun r hr=>by
  have h5:=h4 r hr
  simp only[spT,FitsL]at h5
  obtain⟨c0,_,rfl,h0,c1,_,rfl,h1,rfl⟩:=h5
  obtain⟨s,rfl⟩:=Zbx h0
  obtain⟨xs,rfl,_⟩:=ZnY h1
  exact⟨⟨s,xs⟩,rfl⟩
 exact⟨xs,rfl⟩
section
variable {H:Type} {enc:TypeId×Value→H} {W:World}
set_option maxRecDepth 100000 in
theorem ZtV:Zdx Tryz.prog 10 28=some pfT:=by kernel_rfl
set_option maxRecDepth 100000 in
theorem Zts {r:Reach} {b0:Nat} {v:Value} {d:DataW H} {ps:List MemPlace} (hval:Value.okWide Tryz.prog W r b0 28 v) (h:DataW.Trod enc Tryz.prog W 0 (fun _=>true) true 28 v d ps) (hw:ZkP 28 d):∃ ss:List Stp,Rel All W (.agg (pfC ss)) v:=by
 simp only[Value.okWide,Tryz.underlying28]at hval
 obtain⟨cs,rfl,hsz,_⟩:=hval
 obtain⟨n,hn⟩:=h
 obtain⟨cds,h1,h2⟩:=Zbp 10 28 pfT ZtV n _ _ hn hw
 obtain⟨ss,rfl⟩:=ZtP h1
 refine⟨ss,?_⟩
 simp only[Rel]
 exact⟨cs.toList,by simp,by simpa [Value.cells]using h2⟩
end
end Go.Proofs.YtaigaoflehfdcaaGreatDoor
