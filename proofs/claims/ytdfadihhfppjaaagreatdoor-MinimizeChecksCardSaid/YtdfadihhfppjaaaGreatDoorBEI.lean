/-
  Part of the proof that MinimizeChecks returns true. Conditions: none.
-/
import Derived.ProofKit
import Derived.OpenShut
import Derived.Deep.Slices
import Derived.Test.YtdfadihhfppjaaaGreatDoorBEH
namespace Go.Proofs.YtdfadihhfppjaaaGreatDoor
open List (mem_append mem_map)
section
open Go.ChangeShapes Go.WideShapes Go.ChangeAt Go.RowKit Go.Deep
inductive gL where
 | bool
 | int (k:IntKind)
 | str
 | sl (bytes:Nat) (row:List gL)
def fieldsOf (P:Program) (g:TypeId->Option (List gL)):Nat->List Field->Option (List gL×Nat)
 | off,[]=>some ([],off)
 | off,f::fs=>
  if f.offset=off then
   match g f.type with
   | some d=>if d.length=P.cellsOf f.type then(fieldsOf P g (off+d.length) fs).map λx=>(d++x.1,x.2)else none
   | none=>none
  else none
def nL (P:Program):Nat->TypeId->Option (List gL)
 | 0,_=>none
 | n+1,t=>
  match P.underlying t with
  | some .bool=>some [.bool]
  | some (.int k)=>some [.int k]
  | some .string=>some [.str]
  | some (.slice e)=>
   match nL P n e with
   | some r=>if r.length=P.cellsOf e/\0<r.length/\0<P.bytesOf e then some [.sl (P.bytesOf e) r]else none
   | none=>none
  | some (.struct fs)=>
   match fieldsOf P (nL P n) 0 fs.toList with
   | some x=>if x.2=P.cellsOf t then some x.1 else none
   | none=>none
  | _=>none
mutual
def Fits:gL->CD->Prop
 | .bool,c=>∃ b,c= .lit (.bool b)
 | .int k,c=>∃ n,c= .lit (.int k n)/\k.min<=n/\n<=k.max
 | .str,c=>∃ s,c= .lit (.string s)/\s.size<=maxLen
 | .sl bytes row,c=>∃ rows:List (List CD),c= .sl rows/\rows.length*bytes<=140737488351232/\rows.length<=140737488351232/\∀ r∈rows,dQ row r
def dQ:List gL->List CD->Prop
 | [],cs=>cs=[]
 | t::ts,cs=>∃ c cs',cs=c::cs'/\Fits t c/\dQ ts cs'
end
theorem dQ.append:∀ {ts us:List gL} {cs ds:List CD},dQ ts cs->dQ us ds->dQ (ts++us) (cs++ds)
 | [],_,cs,ds,h,k=>by simp only[dQ]at h;subst h;exact k
 | t::ts,us,cs,ds,h,k=>by
  simp only[dQ]at h
  obtain⟨c,cs',rfl,h1,h2⟩:=h
  simp only[List.cons_append,dQ]
  exact⟨c,_,rfl,h1,h2.append k⟩
theorem dQ.length:∀ {ts:List gL} {cs:List CD},dQ ts cs->cs.length=ts.length
 | [],cs,h=>by simp only[dQ]at h;subst h;rfl
 | t::ts,cs,h=>by
  simp only[dQ]at h
  obtain⟨c,cs',rfl,_,h2⟩:=h
  simp[h2.length]
theorem dQ.one {t:gL} {cs:List CD} (h:dQ [t] cs):∃ c,cs=[c]/\Fits t c:=by
 simp only[dQ]at h
 obtain⟨c,cs',rfl,h1,rfl⟩:=h
 exact⟨c,rfl,h1⟩
theorem Gx {H:Type} {P:Program} {e:TypeId} {d:DataW H} {x:Nat} (Z:x∈d.weights P e):∀ {l:List (DataW H)},d∈l->x∈DataW.weightsAll P e l
 | c::l,h=>by
  simp only[DataW.weightsAll,mem_append]
  rcases List.mem_cons.1 h with rfl | h
  ·exact Or.inl Z
  ·exact Or.inr (Gx Z h)
section
variable {H:Type} {enc:TypeId×Value->H} {W:World} {P:Program}
theorem P7 {k:IntKind} {n:Int} (h:(Lit.int k n).wf=true):k.min<=n/\n<=k.max:=by
 simpa [Lit.wf]using h
theorem Ig {n:Nat} {g:TypeId->Option (List gL)}
 (ih:∀ t ds,g t=some ds->∀(fuel:Nat) (cs:List Value) (x:DataW H×List MemPlace),DataW.trod enc P W 0 (λ_=>true) true fuel t cs=some x->(∀ y∈x.1.weights P t,y<=reachBytes)->∃ ki,dQ ds ki/\bE All W ki cs)
 (cs:List Value):∀(fs:List Field) (xs:List (DataW H×List MemPlace)) (off:Nat) (r:List gL×Nat),fieldsOf P g off fs=some r->r.2=cs.length->xs.length=fs.length->
  (∀(i:Nat) (f:Field),fs[i]?=some f->DataW.trod enc P W 0 (λ_=>true) true n f.type ((cs.drop f.offset).take (P.cellsOf f.type))=xs[i]?)->
  (∀ y∈DataW.weightsEach P (fs.map (·.type)) (xs.map (·.1)),y<=reachBytes)->∃ ki,dQ r.1 ki/\bE All W ki (cs.drop off)
 | [],xs,off,r,h,hr,_,_,_=>by
  simp only[fieldsOf,Option.some.injEq]at h
  subst h
  simp only at hr
  exact⟨[],by simp[dQ],by rw[List.drop_of_length_le oz];trivial⟩
 | f::fs,xs,off,r,h,hr,hl,Z,hw=>by
  simp only[fieldsOf]at h
  split at h
  ·rename_i Pv
   split at h
   ·rename_i d hd
    split at h
    ·rename_i OX
     cases hrest:fieldsOf P g (off+d.length) fs with
     | none=>rw[hrest]at h;cases h
     | some r'=>
      rw[hrest]at h
      simp only[Option.map_some,Option.some.injEq]at h
      subst h
      match xs,hl with
      | x::xs,hl=>
       have h0:=Z 0 f rfl
       simp only[List.getElem?_cons_zero,Pv]at h0
       have PK:∀ y∈x.1.weights P f.type,y<=reachBytes:=λy hy=>hw y (by simp only[List.map_cons,DataW.weightsEach,mem_append];exact Or.inl hy)
       obtain⟨c1,hc1,Aw⟩:=ih f.type d hd n _ x h0 PK
       obtain⟨c2,OS,ff⟩:=Ig ih cs fs xs (off+d.length) r' hrest hr (by simpa using hl) (λi f hf=>by simpa using Z (i+1) f (by simpa using hf))
        (λy hy=>hw y (by simp only[List.map_cons,DataW.weightsEach,mem_append];exact Or.inr hy))
       refine⟨c1++c2,hc1.append OS,?_⟩
       have hsplit:cs.drop off=(cs.drop off).take (P.cellsOf f.type)++cs.drop (off+d.length):=by
        rw[OX,<-List.drop_drop,List.take_append_drop]
       rw[hsplit]
       exact Aw.append ff
    ·cases h
   ·cases h
  ·cases h
theorem uF:∀(n:Nat) (t:TypeId) (ds:List gL),nL P n t=some ds->∀(fuel:Nat) (cs:List Value) (x:DataW H×List MemPlace),DataW.trod enc P W 0 (λ_=>true) true fuel t cs=some x->
 (∀ y∈x.1.weights P t,y<=reachBytes)->∃ ki,dQ ds ki/\bE All W ki cs
 | 0,_,_,hd,_,_,_,_,_=>by simp[nL]at hd
 | n+1,t,ds,hd,fuel,cs,x,h,hw=>by
  simp only[nL]at hd
  split at hd
  ·rename_i ht
   cases hd
   obtain⟨b,rfl,_⟩:=DataW.trod_bool ht h
   exact⟨[.lit (.bool b)],by simp[dQ,Fits],⟨.lit _ trivial,trivial⟩⟩
  ·rename_i k ht
   cases hd
   obtain⟨b,rfl,_,wR⟩:=DataW.trod_int ht h
   exact⟨[.lit (.int k b)],by simp only[dQ,Fits];exact⟨_,_,rfl,⟨b,rfl,P7 wR⟩,rfl⟩,⟨.lit _ trivial,trivial⟩⟩
  ·rename_i ht
   cases hd
   obtain⟨b,rfl,_,wR⟩:=DataW.trod_string ht h
   exact⟨[.lit (.string b)],by simp only[dQ,Fits];exact⟨_,_,rfl,⟨b,rfl,wR⟩,rfl⟩,⟨.lit _ wR,trivial⟩⟩
  ·rename_i e ht
   split at hd
   ·rename_i row hrow
    split at hd
    ·rename_i hcond
     obtain⟨ql,m8,Ac⟩:=hcond
     cases hd
     rcases open_slice ht h with⟨rfl,rfl⟩ | ⟨a,len,cap,m,n',D,Pl,rfl,hb,l7,dg,hm,rfl,Z⟩
     ·exact⟨[.sl []],by simp only[dQ,Fits];exact⟨_,_,rfl,⟨[],rfl,by simp,by simp,by simp⟩,rfl⟩,⟨.nil none 0 aI,trivial⟩⟩
     ·simp only[if_true]at hm
      have tY:=hw ((((List.range len).map D).length+((List.range (m-len)).map λj=>D (len+j)).length)*P.bytesOf e) (by simp only[DataW.weights,ht];exact List.mem_cons_self ..)
      simp only[List.length_map,List.length_range,reachBytes]at tY
      have each:∀ i,i<len->∃ q:List CD×List Value,dQ row q.1/\bE All W q.1 q.2/\q.2.length=P.cellsOf e/\∀ j,j<P.cellsOf e->W.cell? (a.add (i*P.cellsOf e+j))=q.2[j]?:=by
       intro i hi
       obtain⟨cs',h1,h2⟩:=Z i oz
       obtain⟨_,hl',aF⟩:=World.cells?_some h1
       have PN:∀ y∈(D i).weights P e,y<=reachBytes:=λy hy=>hw y (by
        simp only[DataW.weights,ht]
        exact List.mem_cons_of_mem _ (List.mem_append_left _ (Gx hy (mem_map.2 ⟨i,by simpa using hi,rfl⟩))))
       obtain⟨ki,hf,hr⟩:=uF n e row hrow n' cs' (D i,Pl i) h2 PN
       exact⟨(ki,cs'),hf,hr,hl',λj hj=>by rw[<-add_add];exact aF j hj⟩
      obtain⟨q,hq⟩:=choose_lt each
      have hlen:((List.range len).map λi=>(q i).1).length=len:=by simp
      have hbytes:len*P.bytesOf e<=140737488351232:=Nat.le_trans (Nat.mul_le_mul_right _ oz) tY
      have hle:len<=140737488351232:=Nat.le_trans (Nat.le_mul_of_pos_right _ Ac) hbytes
      refine⟨[.sl ((List.range len).map λi=>(q i).1)],?_,?_,trivial⟩
      ·simp only[dQ,Fits]
       refine⟨_,_,rfl,⟨_,rfl,by rw[hlen];exact hbytes,by rw[hlen];exact hle,λr hr=>?_⟩,rfl⟩
       obtain⟨i,hi,rfl⟩:=mem_map.1 hr
       exact(hq i (by simpa using hi)).1
      ·by_cases h0:len=0
       ·subst h0
        exact .nil _ _ dg
       ·have h00:=(hq 0 oz).2.2.2 0 oz
        obtain⟨u0,PG⟩:∃ u0,((q 0).2)[0]?=some u0:=⟨_,List.getElem?_eq_getElem (by rw[(hq 0 oz).2.2.1];omega)⟩
        rw[PG]at h00
        obtain⟨b,off,spot⟩:=a
        have hspot:spot=none:=by simpa [Addr.add]using World.cell?_spot h00
        subst hspot
        have rK:b<W.heap.size:=by
         rw[Nat.zero_mul,Go.WideShapes.add_plain]at h00
         unfold World.cell? at h00
         cases hg:W.heap[b]? with
         | none=>simp[hg]at h00
         | some o=>exact(Array.getElem?_eq_some_iff.1 hg).1
        have hsl:=Rd.sl (S:=All) (w:=W) b off cap (P.cellsOf e) ((List.range len).map λi=>(q i).1) (λi j=>(((q i).2)[j]?).getD default) (by rw[hlen];exact l7) dg rK trivial
         (λr hr=>by
          obtain⟨i,hi,rfl⟩:=mem_map.1 hr
          rw[(hq i (by simpa using hi)).1.length,ql])
         (λi j hi hj=>by
          rw[hlen]at hi
          have h1:=(hq i hi).2.2.2 j hj
          rw[Go.WideShapes.add_plain]at h1
          rw[show off+i*P.cellsOf e+j=off+(i*P.cellsOf e+j) by omega,h1]
          rw[List.getElem?_eq_getElem (by rw[(hq i hi).2.2.1];exact hj)]
          rfl)
         (λi j r c h1 h2=>by
          have hi:i<len:=by
           rcases Nat.lt_or_ge i len with h | h
           ·exact h
           ·rw[List.getElem?_eq_none (by simpa using h)]at h1;cases h1
          have hr:r=(q i).1:=by simpa [hi]using h1.symm
          subst hr
          have hj:j< ((q i).2).length:=by
           rw[(hq i hi).2.1.length]
           rcases Nat.lt_or_ge j ((q i).1).length with h | h
           ·exact h
           ·rw[List.getElem?_eq_none h]at h2;cases h2
          rw[List.getElem?_eq_getElem hj]
          exact(hq i hi).2.1.get h2 (List.getElem?_eq_getElem hj))
        rw[hlen]at hsl
        exact hsl
    ·cases hd
   ·cases hd
  ·rename_i fs ht
   split at hd
   ·rename_i r hr
    split at hd
    ·rename_i hc
     cases hd
     obtain⟨xs,n',_,rfl,dl,n9,hf⟩:=DataW.trod_struct ht h
     have hw':∀ y∈DataW.weightsEach P (fs.toList.map (·.type)) (xs.map (·.1)),y<=reachBytes:=λy hy=>hw y (by simp only[DataW.weights,ht];exact hy)
     obtain⟨ki,h1,h2⟩:=Ig (n:=n') (g:=nL P n) (λt ds h fuel cs x=>uF n t ds h fuel cs x) cs fs.toList xs 0 r hr oz (by simpa using n9) (λi f h=>hf i f (by simpa using h)) hw'
     exact⟨ki,h1,by simpa using h2⟩
    ·cases hd
   ·cases hd
  ·cases hd
theorem uJ {α:Type} {f:α->List CD}:∀ {rows:List (List CD)},(∀ r∈rows,∃ x:α,r=f x)->∃ xs:List α,rows=xs.map f
 | [],_=>⟨[],rfl⟩
 | r::rows,h=>by
  obtain⟨x,rfl⟩:=h r yz
  obtain⟨xs,rfl⟩:=uJ (rows:=rows) λr hr=>h r (List.mem_cons_of_mem _ hr)
  exact⟨x::xs,rfl⟩
end
end
section
open Go.ChangeShapes Go.WideShapes Go.ChangeAt Go.RowKit Go.Deep
structure Hy where
 ae:BA
 bn:Bool
 ac:List BA
structure Pr where
 a:BA
 b:BA
structure Fr where
 ae:BA
 thm:Bool
 aa:List Hy
 apart:List Pr
 ac:List BA
 bB:List Hy
 wide:List Pr
 proof:List BA
structure Db where
 bL:List BA
 vars:List BA
 ab:List Fr
instance instInhHy:Inhabited Hy:=⟨⟨ByteArray.empty,false,[]⟩⟩
instance instInhPr:Inhabited Pr:=⟨⟨ByteArray.empty,ByteArray.empty⟩⟩
instance instInhFr:Inhabited Fr:=⟨⟨ByteArray.empty,false,[],[],[],[],[],[]⟩⟩
def iq (x y:Pr):Bool:=decide (x.a=y.a)&&decide (x.b=y.b)
theorem sr {x y:Pr}:iq x y=true↔x=y:=by
 cases x;cases y;simp[iq]
instance instDecPr:DecidableEq Pr:=λ_ _=>decidable_of_iff _ sr
def k7 (x y:Hy):Bool:=decide (x.ae=y.ae)&& (x.bn==y.bn)&&decide (x.ac=y.ac)
theorem FK {x y:Hy}:k7 x y=true↔x=y:=by
 cases x;cases y;simp[k7,and_assoc]
instance instDecHy:DecidableEq Hy:=λ_ _=>decidable_of_iff _ FK
def dO (s:BA):List CD:=[.lit (.string s)]
def ai (xs:List BA):CD:=.sl (xs.map dO)
def kN (xs:List BA):List CD:=[ai xs]
def cu (l:List (List BA)):CD:=.sl (l.map kN)
def bT (x:Int):List CD:=[.lit (.int .i64 x)]
def bQ (xs:List Int):CD:=.sl (xs.map bT)
def aP (h:Hy):List CD:=[.lit (.string h.ae),.lit (.bool h.bn),ai h.ac]
def bX (hs:List Hy):CD:=.sl (hs.map aP)
def aS (p:Pr):List CD:=[.lit (.string p.a),.lit (.string p.b)]
def bM (ps:List Pr):CD:=.sl (ps.map aS)
def a8 (f:Fr):List CD:=[.lit (.string f.ae),.lit (.bool f.thm),bX f.aa,bM f.apart,ai f.ac,bX f.bB,bM f.wide,ai f.proof]
def dX (fs:List Fr):CD:=.sl (fs.map a8)
def bV (d:Db):List CD:=[ai d.bL,ai d.vars,dX d.ab]
def qW:gL:=.sl 16 [.str]
def wU:gL:=.sl 8 [.int .i64]
def t1:List gL:=[.str,.bool,qW]
def uA:List gL:=[.str,.str]
def zS:List gL:=[.str,.bool,.sl 48 t1,.sl 32 uA,qW,.sl 48 t1,.sl 32 uA,qW]
def vV:List gL:=[qW,qW,.sl 168 zS]
def j9 (n bytes:Nat):Prop:=n*bytes<=140737488351232/\n<=140737488351232
structure Hy.Ok (h:Hy):Prop where
 ac:j9 h.ac.length 16
structure Fr.Ok (f:Fr):Prop where
 aa:j9 f.aa.length 48
 hyp:∀ h∈f.aa,h.Ok
 apart:j9 f.apart.length 32
 ac:j9 f.ac.length 16
 bB:j9 f.bB.length 48
 dummy:∀ h∈f.bB,h.Ok
 wide:j9 f.wide.length 32
 proof:j9 f.proof.length 16
structure Db.Ok (d:Db):Prop where
 bL:j9 d.bL.length 16
 vars:j9 d.vars.length 16
 ab:j9 d.ab.length 168
 frame:∀ f∈d.ab,f.Ok
theorem p9 {c:CD} (h:Fits .str c):∃ s,c= .lit (.string s):=by
 simp only[Fits]at h
 obtain⟨s,h,_⟩:=h
 exact⟨s,h⟩
theorem Eo {c:CD} (h:Fits .bool c):∃ s,c= .lit (.bool s):=by
 simpa only[Fits]using h
theorem tt {c:CD} (h:Fits (.int .i64) c):∃ n,c= .lit (.int .i64 n)/\ -9223372036854775808<=n/\n<=9223372036854775807:=by
 simp only[Fits]at h
 obtain⟨n,h1,h2,h3⟩:=h
 refine⟨n,h1,?_,?_⟩
 ·have:IntKind.i64.min= -9223372036854775808:=by decide
  omega
 ·have:IntKind.i64.max=9223372036854775807:=by decide
  omega
theorem tu {c:CD} (h:Fits qW c):∃ xs,c=ai xs/\j9 xs.length 16:=by
 simp only[qW,Fits]at h
 obtain⟨rows,rfl,h1,h2,h3⟩:=h
 obtain⟨xs,rfl⟩:=uJ (f:=dO) (rows:=rows) λr hr=>by
  have:=h3 r hr
  obtain⟨c,rfl,h4⟩:=dQ.one this
  obtain⟨s,rfl⟩:=p9 h4
  exact⟨s,rfl⟩
 exact⟨xs,rfl,by simpa using h1,by simpa using h2⟩
theorem Er {c:CD} (h:Fits wU c):∃ xs:List Int,c=bQ xs/\j9 xs.length 8/\∀ x∈xs, -9223372036854775808<=x/\x<=9223372036854775807:=by
 simp only[wU,Fits]at h
 obtain⟨rows,rfl,h1,h2,h3⟩:=h
 have hrow:∀ r∈rows,∃ x: { n:Int // -9223372036854775808<=n/\n<=9223372036854775807 },r=bT x.1:=λr hr=>by
  have:=h3 r hr
  obtain⟨c,rfl,h4⟩:=dQ.one this
  obtain⟨n,rfl,h5⟩:=tt h4
  exact⟨⟨n,h5⟩,rfl⟩
 obtain⟨xs,rfl⟩:=uJ (f:=λx: { n:Int // -9223372036854775808<=n/\n<=9223372036854775807 }=>bT x.1) (rows:=rows) hrow
 refine⟨xs.map (·.1),by simp[bQ],⟨by simpa using h1,by simpa using h2⟩,λx Z=>?_⟩
 obtain⟨y,_,rfl⟩:=mem_map.1 Z
 exact y.2
theorem Ny {cs:List CD} (h:dQ t1 cs):∃ x: { h:Hy // h.Ok },cs=aP x.1:=by
 simp only[t1,dQ]at h
 obtain⟨c0,_,rfl,h0,c1,_,rfl,h1,c2,_,rfl,h2,rfl⟩:=h
 obtain⟨s,rfl⟩:=p9 h0
 obtain⟨b,rfl⟩:=Eo h1
 obtain⟨xs,rfl,hs⟩:=tu h2
 exact⟨⟨⟨s,b,xs⟩,⟨hs⟩⟩,rfl⟩
theorem NA {cs:List CD} (h:dQ uA cs):∃ x:Pr,cs=aS x:=by
 simp only[uA,dQ]at h
 obtain⟨c0,_,rfl,h0,c1,_,rfl,h1,rfl⟩:=h
 obtain⟨s,rfl⟩:=p9 h0
 obtain⟨t,rfl⟩:=p9 h1
 exact⟨⟨s,t⟩,rfl⟩
theorem wi {α:Type} {p:α->Prop} {f:α->List CD} {row:List gL} {n:Nat} {c:CD} (hrow:∀ r,dQ row r->∃ x: { a:α // p a },r=f x.1) (h:Fits (.sl n row) c):
 ∃ xs:List α,c= .sl (xs.map f)/\j9 xs.length n/\∀ x∈xs,p x:=by
 simp only[Fits]at h
 obtain⟨rows,rfl,h1,h2,h3⟩:=h
 obtain⟨xs,rfl⟩:=uJ (f:=λx: { a:α // p a }=>f x.1) (rows:=rows) λr hr=>hrow r (h3 r hr)
 refine⟨xs.map (·.1),by simp,⟨by simpa using h1,by simpa using h2⟩,λx Z=>?_⟩
 obtain⟨y,_,rfl⟩:=mem_map.1 Z
 exact y.2
theorem Ep {c:CD} (h:Fits (.sl 48 t1) c):∃ hs,c=bX hs/\j9 hs.length 48/\∀ x∈hs,x.Ok:=wi (λ_ h=>Ny h) h
theorem Es {c:CD} (h:Fits (.sl 32 uA) c):∃ ps,c=bM ps/\j9 ps.length 32:=by
 obtain⟨xs,h1,h2,_⟩:=wi (p:=λ_:Pr=>True) (f:=aS) (λ_ h=>by obtain⟨x,Z⟩:=NA h;exact⟨⟨x,trivial⟩,Z⟩) h
 exact⟨xs,h1,h2⟩
theorem Nx {cs:List CD} (h:dQ zS cs):∃ x: { f:Fr // f.Ok },cs=a8 x.1:=by
 simp only[zS,dQ]at h
 obtain⟨c0,_,rfl,h0,c1,_,rfl,h1,c2,_,rfl,h2,c3,_,rfl,h3,c4,_,rfl,h4,c5,_,rfl,h5,c6,_,rfl,h6,c7,_,rfl,h7,rfl⟩:=h
 obtain⟨s,rfl⟩:=p9 h0
 obtain⟨b,rfl⟩:=Eo h1
 obtain⟨x2,rfl,a2,b2⟩:=Ep h2
 obtain⟨x3,rfl,a3⟩:=Es h3
 obtain⟨x4,rfl,a4⟩:=tu h4
 obtain⟨x5,rfl,a5,b5⟩:=Ep h5
 obtain⟨x6,rfl,a6⟩:=Es h6
 obtain⟨x7,rfl,a7⟩:=tu h7
 exact⟨⟨⟨s,b,x2,x3,x4,x5,x6,x7⟩,⟨a2,b2,a3,a4,a5,b5,a6,a7⟩⟩,rfl⟩
theorem Nw {cs:List CD} (h:dQ vV cs):∃ d:Db,cs=bV d/\d.Ok:=by
 simp only[vV,dQ]at h
 obtain⟨c0,_,rfl,h0,c1,_,rfl,h1,c2,_,rfl,h2,rfl⟩:=h
 obtain⟨x0,rfl,a0⟩:=tu h0
 obtain⟨x1,rfl,a1⟩:=tu h1
 obtain⟨x2,rfl,a2,b2⟩:=wi (f:=a8) (λ_ h=>Nx h) h2
 exact⟨⟨x0,x1,x2⟩,rfl,a0,a1,a2,b2⟩
end
section
open Go.RowKit
def gi (c:UInt8):CD:=.lit (.int .u8 (c.toNat:Int))
def WA (c:UInt8):List CD:=[gi c]
def PZ (xs:List Hy):List CD:=[bX xs]
def AG (l:List (List Hy)):CD:=.sl (l.map PZ)
structure Sm where
 kind:Int
 ae:BA
 ac:List BA
 proof:List BA
instance instInhSm:Inhabited Sm:=⟨⟨0,ByteArray.empty,[],[]⟩⟩
def kL (s:Sm):List CD:=[.lit (.int .i64 s.kind),.lit (.string s.ae),ai s.ac,ai s.proof]
def yc (xs:List Sm):CD:=.sl (xs.map kL)
def uU (xs:List UInt8):CD:=.sl (xs.map WA)
def Cv (P:Program) (t e:TypeId) (n:Nat):Prop:=P.underlying t=some (.array n e)/\(∀ w,(sizeOf e).run P w= .ok 1 w)/\1<n
section
variable {n:Rn} {N:Nat} {P:Program} {J X:WP} {S S' gK:Nat->Prop} {O:List OB} {w0:World} {env:List (Nat×AV)} {Q:Exit->Act->WP}
variable {o:Oper} {a:Act} {w:World} {x y:Operand} {t e:TypeId} {b:Nat} {cs:List CD}
theorem uD {len:Nat} {k:IntKind} {i:Nat} (h1:Cv P t e len) (hop:o.op= .indexAddr t x y) (h:Rel S' w (.at b 0) (a.eval x)) (hy:Rel gK w (.lit (.int k (i:Int))) (a.eval y)) (hi:i<len) (Z:X w):Does n P o a w (bG S X (.at b i) w):=by
 obtain⟨h1,h2,h3⟩:=h1
 refine cN (v:=.pointer (some ⟨b,i,none⟩)) ?_ (Rel.aH _) Z
 simp[execOp,hop,h.lit,hy.lit,Instr.indexAt,Instr.sureAddr,asIntOf,Sem.run_bind,run_underlying h1,h2 w,hi,pH]
theorem Ic {c:CD} {v:Value} {S:Nat->Prop} {w:World} (h:Rd S w c v):∀ k,bE S w (List.replicate k c) (List.replicate k v)
 | 0=>trivial
 | k+1=>⟨h,Ic h k⟩
theorem W0 {len:Nat} (z:Value) (hz:∀ w,(zeroValue t).run P w= .ok z w) (he:z.cells.toList=List.replicate len (.int .u8 0)):gm P t ((List.replicate len (0:UInt8)).map gi):=by
 refine⟨z,hz,λS w=>?_⟩
 rw[he,List.map_replicate]
 exact Ic (show Rd S w (gi 0) (.int .u8 0)from .lit (.int .u8 0) True.intro) len
theorem vm {xs:List UInt8} {i:Nat} {c:UInt8} (hi:i<xs.length):(xs.map gi).take i++[gi c]++(xs.map gi).drop (i+1)=(xs.set i c).map gi:=by
 rw[List.set_eq_take_append_cons_drop,if_pos hi]
 simp
theorem J6 {xs:List UInt8} {i:Nat} (hi:i<xs.length):(xs.map gi)[i]?=some (gi (G xs i)):=by rw[List.getElem?_map,mU hi];rfl
theorem CU {ds:List CD} {xs:List UInt8} (h:xs.length=ds.length):ds.take 0++xs.map gi++ds.drop (0+(xs.map gi).length)=xs.map gi:=by
 simp[h]
theorem T6 {s d:TypeId} {k:Nat} (hs:P.underlying s=some (.int .i64)) (hd:P.underlying d=some (.int .u8)) (hop:o.op= .convert s d x) (h:Rel S' w (.int (k:Int)) (a.eval x)) (hk:k<256) (Z:X w):Does n P o a w (bG S X (.lit (.int .u8 ((UInt8.ofNat k).toNat:Int))) w):=by
 have hu:(UInt8.ofNat k).toNat=k:=by rw[UInt8.toNat_ofNat'];exact Nat.mod_eq_of_lt hk
 refine cN (v:=.int .u8 ((UInt8.ofNat k).toNat:Int)) ?_ (Rel.aH _) Z
 rw[hu]
 have XH:(k:Int)%256=k:=by omega
 have hw:IntKind.u8.wrap (k:Int)=k:=by simp[IntKind.wrap,IntKind.bits,IntKind.signed];omega
 simp[execOp,hop,h.lit,convert,Conv.intToInt,Sem.run_bind,run_underlying hs,run_underlying hd,hw]
theorem qF {k:Nat} {parts:Array (Nat×Operand)} {us:List Value} (ht:dA P t e 1) (hz:mA P e 1) (hop:o.op= .buildSlice t k parts) (hp:(parts.map λ(i,x)=>(i,a.eval x)).toList=us.zipIdx.map λp=>(p.2,p.1)) (h:bE S w cs us) (hk:us.length=k) (hk0:0<k) (hk1:k<=1000) (hS:S w.heap.size) (Z:∀ w',Keeps All w w'->X w'):
 Does n P o a w (bG S X (.rd (.sl (cs.map λc=>[c]))) w):=by
 obtain⟨z,hz,lD,_⟩:=hz
 have hk':Keeps All w (w.alloc (.cells us.toArray e)):=(Keeps.refl _ _).alloc _
 have hf:=wc (k:=k) (place:=λi=>some (i*1,1)) (λj _=>by simp) us 0 ((Array.range (k*1)).map (z.cells[· %z.cells.size]!)) yz oz h.one
 refine en (v:=.slice (some ⟨w.heap.size,0,none⟩) k k) (w':=w.alloc (.cells us.toArray e)) ?_ ⟨?_,hk',Z _ hk'⟩
 ·have qk:(parts.map λ(i,x)=>(i,a.eval x)).toList=us.zipIdx.map λp=>(p.2,p.1):=hp
  have hd:((Array.range (k*1)).map (z.cells[· %z.cells.size]!)).toList.drop (0+us.length)=[]:=by
   apply List.drop_of_length_le;simp;omega
  rw[hd]at hf
  simp only[List.take_zero,List.nil_append,List.append_nil]at hf
  rw[execOp,hop]
  have hn:¬ (k*1>2^24):=by omega
  have Ao:¬ (k*1=0):=by omega
  simp only[Sem.run_bind,Instr.buildSlice,run_underlying ht.1,Result.andThen_ok,ht.2 w,if_neg hn,if_neg Ao,hz w,qk]
  simp only[Nat.mul_one]at hf ⊢
  simp[newRow,newObj,Sem.run,hf]
 ·simp only[Rel]
  have hlen:(cs.map λc=>[c]).length=k:=by rw[List.length_map,<-hk,h.length]
  rw[<-hlen]
  refine Rd.of_cells (n:=1) (us:=us) aV (by rw[hlen];simp only[maxLen];omega) yz hS (λr hr=>by obtain⟨c,_,rfl⟩:=mem_map.1 hr;rfl) ?_ λj u hj=>nJ j u hj
  have:(cs.map λc=>[c]).flatten=cs:=by
   clear hlen hf h hp
   induction cs with
   | nil=>rfl
   | cons c cs ih=>simp only[List.map_cons,List.flatten_cons,ih];rfl
  rw[this]
  exact h.keep hk' λ_ _ _=>trivial
theorem jw {v:Value} (h:Rel S w (.agg cs) v):∃ us:List Value,v= .agg us.toArray/\bE S w cs us:=by simpa only[Rel]using h
theorem Ir (f:FuncId):Rel S w (.lit (.func (.func f) #[] #[])) (a.eval (.func f)):=Rel.aH _
theorem N4 {f:FuncId} {v:Value} (h:Rel S' w (.lit (.func (.func f) #[] #[])) v):Rel S w (.fn f []) v:=by
 rw[h.lit];simp only[Rel,bi];exact⟨[],rfl,rfl⟩
end
section
variable {n:Rn} {N:Nat} {P:Program} {J X:WP} {S S' gK:Nat->Prop} {O:List OB} {w0:World} {env:List (Nat×AV)} {Q:Exit->Act->WP}
variable {o:Oper} {a:Act} {w:World} {x y:Operand} {t e u:TypeId}
theorem HR (h1:P.underlying t=some (.slice e)) (hop:o.op= .call { callee:=.builtin .cap,args:= #[x],argTypes:= #[t] }) (h:Rel S' w (.lit (.slice none 0 0)) (a.eval x)) (Z:X w):Does n P o a w (bG S X (.int ((0:Nat):Int)) w):=by
 refine cN (v:=.int .i64 0) ?_ (Rel.aH _) Z
 simp[execOp,hop,h.lit,resolve,invoke,builtin,Builtin.cap_,Sem.run_bind,run_underlying h1,goInt]
theorem H1 (h1:P.underlying t=some (.slice e)) (hop:o.op= .call { callee:=.builtin .len,args:= #[x],argTypes:= #[t] }) (h:Rel S' w (.lit (.slice none 0 0)) (a.eval x)) (Z:X w):Does n P o a w (bG S X (.int ((0:Nat):Int)) w):=by
 refine cN (v:=.int .i64 0) ?_ (Rel.aH _) Z
 simp[execOp,hop,h.lit,resolve,invoke,builtin,Builtin.len_,Sem.run_bind,run_underlying h1,goInt]
theorem T7 {k:Nat} {v2:Operand} (h1:dA P t e k) (hop:o.op= .slice t x none (some v2) none) (h:Rel S' w (.lit (.slice none 0 0)) (a.eval x)) (hy:Rel gK w (.int ((0:Nat):Int)) (a.eval v2)) (Z:X w):Does n P o a w (bG S X (.lit (.slice none 0 0)) w):=by
 refine cN (v:=.slice none 0 0) ?_ (Rel.aH _) Z
 simp[execOp,hop,h.lit,hy.lit,Instr.sliceAt,Instr.slice,Instr.sliceBounds,Instr.sliceBound,asIntOf,Sem.run_bind,run_underlying h1.1,h1.2 w]
theorem VH {ops:Array Oper} {rest:List Oper} {d:Nat} {size bytes m:Nat} (ht:jA P t e size bytes) (hu:P.underlying u=some (.int .i64)) (V:aR J) (hg:o.guard=none) (hop:o.op= .call { callee:=.builtin .append,args:= #[x,y],argTypes:= #[t,u] }) (hd:o.dst=some d) (hN:d<N)
 (hm:0<m) (hb:m*bytes<=140737488355328) (h63:m<=9223372036854775807) (h1:∀ a w,So J S w0 N O env a w->Rel (SO S O) w (.lit (.slice none 0 0)) (a.eval x)/\Rel (SO S O) w (.int (m:Int)) (a.eval y))
 (next:∀ v a w,So J S w0 N (OB.row (dB v 0) e size []::O) ((d,.lit v)::dP d env) a w->wpListIn n.F n.d P ops Q rest a w):
 ∀ a w,So J S w0 N O env a w->wpListIn n.F n.d P ops Q (o::rest) a w:=by
 refine kK (O2:=λv=>OB.row (dB v 0) e size []::O) (av:=λv=>.lit v) hg hd hN (λa w h=>?_) next
 obtain⟨ht,⟨i,z,hi,hz,Aj,Ai,lD⟩,hsz,hs⟩:=ht
 obtain⟨g1,g2⟩:=h1 a w h
 subst Aj
 subst Ai
 have hn:m≠0:=by omega
 have PL:IntKind.i64.wrap (m:Int)=m:=by
  have:=IntWalk.i64_in (m:Int) ⟨oz,oz⟩
  simp[IntKind.wrap,IntKind.bits,IntKind.signed];omega
 have PE:¬ m*i.size=0:=λe=>by rcases Nat.mul_eq_zero.1 e with h | h<;>omega
 have hb':¬ (281474976710656< (m:Int)*(i.bytes:Int)):=by
  have:((m*i.bytes:Nat):Int)<=140737488355328:=by omega
  rw[Int.natCast_mul]at this;omega
 have h48':¬ (281474976710656<Builtin.nextslicecap m 0*i.bytes):=by rw[nextslicecap_zero hm];omega
 have hrun:(Builtin.append_ #[t,u] o.type #[.slice none 0 0,.int .i64 m]).run P w= .ok (.slice (some ⟨w.heap.size,0,none⟩) m (grownCap w m 0 e)) (w.drew.alloc (.cells (Builtin.zeroCells z.cells m++Builtin.zeroCells z.cells (grownCap w m 0 e-m)) e)):=by
  simp[Builtin.append_,run_underlying ht,run_underlying hu,sizeOf,typeInfo,zeroValue,hi,hz,hn,PE,PL,asInt,asIntOf,h48',hb',Question.forced,newRow,grownCap,run_firstCells_none,show ¬ (9223372036854775807< (m:Int)) by omega]
  intro h9;omega
 have hge:=grownCap_ge w m 0 e
 have dg:grownCap w m 0 e<=maxLen:=grownCap_le_maxLen w m 0 e (by simp only[maxLen];omega)
 have hk:Keeps All w (w.drew.alloc (.cells (Builtin.zeroCells z.cells m++Builtin.zeroCells z.cells (grownCap w m 0 e-m)) e)):=((Keeps.refl _ _).drew).alloc _
 refine en (v:=.slice (some ⟨w.heap.size,0,none⟩) m (grownCap w m 0 e)) (w':=_) ?_ ⟨.slice (some ⟨w.heap.size,0,none⟩) m (grownCap w m 0 e),lh V h.keep h.x hk (λb hb=>?_) ⟨[],⟨by simp,.inr ⟨w.heap.size,grownCap w m 0 e,_,rfl,h.keep.size,heap_alloc_new w.drew _,aI,dg,?_,by simp⟩⟩,trivial,λr hr=>by cases hr⟩,Rel.aH _⟩
 ·simp[execOp,hop,resolve,invoke,builtin,g1.lit,g2.lit,hrun,Result.andThen]
 ·simp[OB.row,dB,Value.ownBlock]at hb;omega
 ·simp only[Array.size_append,size_zeroCells,lD,<-Nat.add_mul]
  congr 1
  omega
end
end
end Go.Proofs.YtdfadihhfppjaaaGreatDoor
