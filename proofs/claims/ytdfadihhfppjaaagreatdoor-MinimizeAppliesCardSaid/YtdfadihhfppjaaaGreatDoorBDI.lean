/-
  Part of the proof that MinimizeApplies returns true. Conditions: none.
-/
import Derived.ProofKit
import Derived.OpenShut
import Derived.Deep.Slices
import Derived.Test.YtdfadihhfppjaaaGreatDoorBDH
namespace Go.Proofs.YtdfadihhfppjaaaGreatDoor
open List (mem_append mem_map)
section
open Go.ChangeShapes Go.WideShapes Go.ChangeAt Go.RowKit Go.Deep
inductive gS where
 | bool
 | int (k:IntKind)
 | str
 | sl (bytes:Nat) (row:List gS)
def fieldsOf (P:Program) (g:TypeId->Option (List gS)):Nat->List Field->Option (List gS×Nat)
 | off,[]=>some ([],off)
 | off,f::fs=>
  if f.offset=off then
   match g f.type with
   | some d=>if d.length=P.cellsOf f.type then(fieldsOf P g (off+d.length) fs).map λx=>(d++x.1,x.2)else none
   | none=>none
  else none
def nw (P:Program):Nat->TypeId->Option (List gS)
 | 0,_=>none
 | n+1,t=>
  match P.underlying t with
  | some .bool=>some [.bool]
  | some (.int k)=>some [.int k]
  | some .string=>some [.str]
  | some (.slice e)=>
   match nw P n e with
   | some r=>if r.length=P.cellsOf e/\0<r.length/\0<P.bytesOf e then some [.sl (P.bytesOf e) r]else none
   | none=>none
  | some (.struct fs)=>
   match fieldsOf P (nw P n) 0 fs.toList with
   | some x=>if x.2=P.cellsOf t then some x.1 else none
   | none=>none
  | _=>none
mutual
def Fits:gS->CD->Prop
 | .bool,c=>∃ b,c= .lit (.bool b)
 | .int k,c=>∃ n,c= .lit (.int k n)/\k.min<=n/\n<=k.max
 | .str,c=>∃ s,c= .lit (.string s)/\s.size<=maxLen
 | .sl bytes row,c=>∃ rows:List (List CD),c= .sl rows/\rows.length*bytes<=140737488351232/\rows.length<=140737488351232/\∀ r∈rows,dR row r
def dR:List gS->List CD->Prop
 | [],cs=>cs=[]
 | t::ts,cs=>∃ c cs',cs=c::cs'/\Fits t c/\dR ts cs'
end
theorem dR.append:∀ {ts us:List gS} {cs ds:List CD},dR ts cs->dR us ds->dR (ts++us) (cs++ds)
 | [],_,cs,ds,h,k=>by simp only[dR]at h;subst h;exact k
 | t::ts,us,cs,ds,h,k=>by
  simp only[dR]at h
  obtain⟨c,cs',rfl,h1,h2⟩:=h
  simp only[List.cons_append,dR]
  exact⟨c,_,rfl,h1,h2.append k⟩
theorem dR.length:∀ {ts:List gS} {cs:List CD},dR ts cs->cs.length=ts.length
 | [],cs,h=>by simp only[dR]at h;subst h;rfl
 | t::ts,cs,h=>by
  simp only[dR]at h
  obtain⟨c,cs',rfl,_,h2⟩:=h
  simp[h2.length]
theorem dR.one {t:gS} {cs:List CD} (h:dR [t] cs):∃ c,cs=[c]/\Fits t c:=by
 simp only[dR]at h
 obtain⟨c,cs',rfl,h1,rfl⟩:=h
 exact⟨c,rfl,h1⟩
theorem F9 {H:Type} {P:Program} {e:TypeId} {d:DataW H} {x:Nat} (Z:x∈d.weights P e):∀ {l:List (DataW H)},d∈l->x∈DataW.weightsAll P e l
 | c::l,h=>by
  simp only[DataW.weightsAll,mem_append]
  rcases List.mem_cons.1 h with rfl | h
  · exact Or.inl Z
  · exact Or.inr (F9 Z h)
section
variable {H:Type} {enc:TypeId×Value->H} {W:World} {P:Program}
theorem PC {k:IntKind} {n:Int} (h:(Lit.int k n).wf=true):k.min<=n/\n<=k.max:=by
 simpa [Lit.wf]using h
theorem HP {n:Nat} {g:TypeId->Option (List gS)}
 (ih:∀ t ds,g t=some ds->∀(fuel:Nat) (cs:List Value) (x:DataW H×List MemPlace),DataW.trod enc P W 0 (λ_=>true) true fuel t cs=some x->(∀ y∈x.1.weights P t,y<=reachBytes)->∃ ka,dR ds ka/\bD All W ka cs)
 (cs:List Value):∀(fs:List Field) (xs:List (DataW H×List MemPlace)) (off:Nat) (r:List gS×Nat),fieldsOf P g off fs=some r->r.2=cs.length->xs.length=fs.length->
  (∀(i:Nat) (f:Field),fs[i]?=some f->DataW.trod enc P W 0 (λ_=>true) true n f.type ((cs.drop f.offset).take (P.cellsOf f.type))=xs[i]?)->
  (∀ y∈DataW.weightsEach P (fs.map (·.type)) (xs.map (·.1)),y<=reachBytes)->∃ ka,dR r.1 ka/\bD All W ka (cs.drop off)
 | [],xs,off,r,h,hr,_,_,_=>by
  simp only[fieldsOf,Option.some.injEq]at h
  subst h
  simp only at hr
  exact⟨[],by simp[dR],by rw[List.drop_of_length_le oz];trivial⟩
 | f::fs,xs,off,r,h,hr,hl,Z,hw=>by
  simp only[fieldsOf]at h
  split at h
  · rename_i OR
    split at h
    · rename_i d hd
      split at h
      · rename_i Oo
        cases hrest:fieldsOf P g (off+d.length) fs with
        | none=>rw[hrest]at h;cases h
        | some r'=>
         rw[hrest]at h
         simp only[Option.map_some,Option.some.injEq]at h
         subst h
         match xs,hl with
         | x::xs,hl=>
          have h0:=Z 0 f rfl
          simp only[List.getElem?_cons_zero,OR]at h0
          have Pa:∀ y∈x.1.weights P f.type,y<=reachBytes:=λy hy=>hw y (by simp only[List.map_cons,DataW.weightsEach,mem_append];exact Or.inl hy)
          obtain⟨c1,hc1,Ah⟩:=ih f.type d hd n _ x h0 Pa
          obtain⟨c2,Oi,fb⟩:=HP ih cs fs xs (off+d.length) r' hrest hr (by simpa using hl) (λi f hf=>by simpa using Z (i+1) f (by simpa using hf))
           (λy hy=>hw y (by simp only[List.map_cons,DataW.weightsEach,mem_append];exact Or.inr hy))
          refine⟨c1++c2,hc1.append Oi,?_⟩
          have hsplit:cs.drop off=(cs.drop off).take (P.cellsOf f.type)++cs.drop (off+d.length):=by
           rw[Oo,<-List.drop_drop,List.take_append_drop]
          rw[hsplit]
          exact Ah.append fb
      · cases h
    · cases h
  · cases h
theorem ut:∀(n:Nat) (t:TypeId) (ds:List gS),nw P n t=some ds->∀(fuel:Nat) (cs:List Value) (x:DataW H×List MemPlace),DataW.trod enc P W 0 (λ_=>true) true fuel t cs=some x->
 (∀ y∈x.1.weights P t,y<=reachBytes)->∃ ka,dR ds ka/\bD All W ka cs
 | 0,_,_,hd,_,_,_,_,_=>by simp[nw]at hd
 | n+1,t,ds,hd,fuel,cs,x,h,hw=>by
  simp only[nw]at hd
  split at hd
  · rename_i ht
    cases hd
    obtain⟨b,rfl,_⟩:=DataW.trod_bool ht h
    exact⟨[.lit (.bool b)],by simp[dR,Fits],⟨.lit _ trivial,trivial⟩⟩
  · rename_i k ht
    cases hd
    obtain⟨b,rfl,_,wB⟩:=DataW.trod_int ht h
    exact⟨[.lit (.int k b)],by simp only[dR,Fits];exact⟨_,_,rfl,⟨b,rfl,PC wB⟩,rfl⟩,⟨.lit _ trivial,trivial⟩⟩
  · rename_i ht
    cases hd
    obtain⟨b,rfl,_,wB⟩:=DataW.trod_string ht h
    exact⟨[.lit (.string b)],by simp only[dR,Fits];exact⟨_,_,rfl,⟨b,rfl,wB⟩,rfl⟩,⟨.lit _ wB,trivial⟩⟩
  · rename_i e ht
    split at hd
    · rename_i row hrow
      split at hd
      · rename_i hcond
        obtain⟨p6,mO,zN⟩:=hcond
        cases hd
        rcases open_slice ht h with⟨rfl,rfl⟩ | ⟨a,len,cap,m,n',D,Pl,rfl,hb,lY,df,hm,rfl,Z⟩
        · exact⟨[.sl []],by simp only[dR,Fits];exact⟨_,_,rfl,⟨[],rfl,by simp,by simp,by simp⟩,rfl⟩,⟨.nil none 0 aI,trivial⟩⟩
        · simp only[if_true]at hm
          have tM:=hw ((((List.range len).map D).length+((List.range (m-len)).map λj=>D (len+j)).length)*P.bytesOf e) (by simp only[DataW.weights,ht];exact List.mem_cons_self ..)
          simp only[List.length_map,List.length_range,reachBytes]at tM
          have each:∀ i,i<len->∃ q:List CD×List Value,dR row q.1/\bD All W q.1 q.2/\q.2.length=P.cellsOf e/\∀ j,j<P.cellsOf e->W.cell? (a.add (i*P.cellsOf e+j))=q.2[j]?:=by
           intro i hi
           obtain⟨cs',h1,h2⟩:=Z i oz
           obtain⟨_,hl',aF⟩:=World.cells?_some h1
           have Pf:∀ y∈(D i).weights P e,y<=reachBytes:=λy hy=>hw y (by
            simp only[DataW.weights,ht]
            exact List.mem_cons_of_mem _ (List.mem_append_left _ (F9 hy (mem_map.2 ⟨i,by simpa using hi,rfl⟩))))
           obtain⟨ka,hf,hr⟩:=ut n e row hrow n' cs' (D i,Pl i) h2 Pf
           exact⟨(ka,cs'),hf,hr,hl',λj hj=>by rw[<-add_add];exact aF j hj⟩
          obtain⟨q,hq⟩:=choose_lt each
          have hlen:((List.range len).map λi=>(q i).1).length=len:=by simp
          have hbytes:len*P.bytesOf e<=140737488351232:=Nat.le_trans (Nat.mul_le_mul_right _ oz) tM
          have hle:len<=140737488351232:=Nat.le_trans (Nat.le_mul_of_pos_right _ zN) hbytes
          refine⟨[.sl ((List.range len).map λi=>(q i).1)],?_,?_,trivial⟩
          · simp only[dR,Fits]
            refine⟨_,_,rfl,⟨_,rfl,by rw[hlen];exact hbytes,by rw[hlen];exact hle,λr hr=>?_⟩,rfl⟩
            obtain⟨i,hi,rfl⟩:=mem_map.1 hr
            exact(hq i (by simpa using hi)).1
          · by_cases h0:len=0
            · subst h0
              exact .nil _ _ df
            · have h00:=(hq 0 oz).2.2.2 0 oz
              obtain⟨u0,O6⟩:∃ u0,((q 0).2)[0]?=some u0:=⟨_,List.getElem?_eq_getElem (by rw[(hq 0 oz).2.2.1];omega)⟩
              rw[O6]at h00
              obtain⟨b,off,spot⟩:=a
              have hspot:spot=none:=by simpa [Addr.add]using World.cell?_spot h00
              subst hspot
              have rz:b<W.heap.size:=by
               rw[Nat.zero_mul,Go.WideShapes.add_plain]at h00
               unfold World.cell? at h00
               cases hg:W.heap[b]? with
               | none=>simp[hg]at h00
               | some o=>exact(Array.getElem?_eq_some_iff.1 hg).1
              have hsl:=Rd.sl (S:=All) (w:=W) b off cap (P.cellsOf e) ((List.range len).map λi=>(q i).1) (λi j=>(((q i).2)[j]?).getD default) (by rw[hlen];exact lY) df rz trivial
               (λr hr=>by
                obtain⟨i,hi,rfl⟩:=mem_map.1 hr
                rw[(hq i (by simpa using hi)).1.length,p6])
               (λi j hi hj=>by
                rw[hlen]at hi
                have h1:=(hq i hi).2.2.2 j hj
                rw[Go.WideShapes.add_plain]at h1
                rw[show off+i*P.cellsOf e+j=off+(i*P.cellsOf e+j) by omega,h1]
                rw[List.getElem?_eq_getElem (by rw[(hq i hi).2.2.1];exact hj)]
                rfl)
               (λi j r c h1 h2=>by
                have hi:i<len:=by
                 rcases Nat.lt_or_ge i len with h | h
                 · exact h
                 · rw[List.getElem?_eq_none (by simpa using h)]at h1;cases h1
                have hr:r=(q i).1:=by simpa [hi]using h1.symm
                subst hr
                have hj:j< ((q i).2).length:=by
                 rw[(hq i hi).2.1.length]
                 rcases Nat.lt_or_ge j ((q i).1).length with h | h
                 · exact h
                 · rw[List.getElem?_eq_none h]at h2;cases h2
                rw[List.getElem?_eq_getElem hj]
                exact(hq i hi).2.1.get h2 (List.getElem?_eq_getElem hj))
              rw[hlen]at hsl
              exact hsl
      · cases hd
    · cases hd
  · rename_i fs ht
    split at hd
    · rename_i r hr
      split at hd
      · rename_i hc
        cases hd
        obtain⟨xs,n',_,rfl,cY,nS,hf⟩:=DataW.trod_struct ht h
        have hw':∀ y∈DataW.weightsEach P (fs.toList.map (·.type)) (xs.map (·.1)),y<=reachBytes:=λy hy=>hw y (by simp only[DataW.weights,ht];exact hy)
        obtain⟨ka,h1,h2⟩:=HP (n:=n') (g:=nw P n) (λt ds h fuel cs x=>ut n t ds h fuel cs x) cs fs.toList xs 0 r hr oz (by simpa using nS) (λi f h=>hf i f (by simpa using h)) hw'
        exact⟨ka,h1,by simpa using h2⟩
      · cases hd
    · cases hd
  · cases hd
theorem ux {α:Type} {f:α->List CD}:∀ {rows:List (List CD)},(∀ r∈rows,∃ x:α,r=f x)->∃ xs:List α,rows=xs.map f
 | [],_=>⟨[],rfl⟩
 | r::rows,h=>by
  obtain⟨x,rfl⟩:=h r yz
  obtain⟨xs,rfl⟩:=ux (rows:=rows) λr hr=>h r (List.mem_cons_of_mem _ hr)
  exact⟨x::xs,rfl⟩
end
end
section
open Go.ChangeShapes Go.WideShapes Go.ChangeAt Go.RowKit Go.Deep
structure Hy where
 ae:BA
 be:Bool
 ac:List BA
structure Pr where
 a:BA
 b:BA
structure Fr where
 ae:BA
 thm:Bool
 aa:List Hy
 apart:List Pr
 ac:List BA
 bA:List Hy
 wide:List Pr
 proof:List BA
structure Db where
 bH:List BA
 vars:List BA
 ab:List Fr
instance instInhHy:Inhabited Hy:=⟨⟨ByteArray.empty,false,[]⟩⟩
instance instInhPr:Inhabited Pr:=⟨⟨ByteArray.empty,ByteArray.empty⟩⟩
instance instInhFr:Inhabited Fr:=⟨⟨ByteArray.empty,false,[],[],[],[],[],[]⟩⟩
def ib (x y:Pr):Bool:=decide (x.a=y.a)&&decide (x.b=y.b)
theorem sb {x y:Pr}:ib x y=true↔x=y:=by
 cases x;cases y;simp[ib]
instance instDecPr:DecidableEq Pr:=λ_ _=>decidable_of_iff _ sb
def kX (x y:Hy):Bool:=decide (x.ae=y.ae)&& (x.be==y.be)&&decide (x.ac=y.ac)
theorem Fo {x y:Hy}:kX x y=true↔x=y:=by
 cases x;cases y;simp[kX,and_assoc]
instance instDecHy:DecidableEq Hy:=λ_ _=>decidable_of_iff _ Fo
def dJ (s:BA):List CD:=[.lit (.string s)]
def ai (xs:List BA):CD:=.sl (xs.map dJ)
def kG (xs:List BA):List CD:=[ai xs]
def ct (l:List (List BA)):CD:=.sl (l.map kG)
def bT (x:Int):List CD:=[.lit (.int .i64 x)]
def bS (xs:List Int):CD:=.sl (xs.map bT)
def aN (h:Hy):List CD:=[.lit (.string h.ae),.lit (.bool h.be),ai h.ac]
def bW (hs:List Hy):CD:=.sl (hs.map aN)
def aR (p:Pr):List CD:=[.lit (.string p.a),.lit (.string p.b)]
def bI (ps:List Pr):CD:=.sl (ps.map aR)
def aY (f:Fr):List CD:=[.lit (.string f.ae),.lit (.bool f.thm),bW f.aa,bI f.apart,ai f.ac,bW f.bA,bI f.wide,ai f.proof]
def dU (fs:List Fr):CD:=.sl (fs.map aY)
def bZ (d:Db):List CD:=[ai d.bH,ai d.vars,dU d.ab]
def qI:gS:=.sl 16 [.str]
def wE:gS:=.sl 8 [.int .i64]
def tO:List gS:=[.str,.bool,qI]
def um:List gS:=[.str,.str]
def zB:List gS:=[.str,.bool,.sl 48 tO,.sl 32 um,qI,.sl 48 tO,.sl 32 um,qI]
def vG:List gS:=[qI,qI,.sl 168 zB]
def j2 (n bytes:Nat):Prop:=n*bytes<=140737488351232/\n<=140737488351232
structure Hy.Ok (h:Hy):Prop where
 ac:j2 h.ac.length 16
structure Fr.Ok (f:Fr):Prop where
 aa:j2 f.aa.length 48
 hyp:∀ h∈f.aa,h.Ok
 apart:j2 f.apart.length 32
 ac:j2 f.ac.length 16
 bA:j2 f.bA.length 48
 dummy:∀ h∈f.bA,h.Ok
 wide:j2 f.wide.length 32
 proof:j2 f.proof.length 16
structure Db.Ok (d:Db):Prop where
 bH:j2 d.bH.length 16
 vars:j2 d.vars.length 16
 ab:j2 d.ab.length 168
 frame:∀ f∈d.ab,f.Ok
theorem pQ {c:CD} (h:Fits .str c):∃ s,c= .lit (.string s):=by
 simp only[Fits]at h
 obtain⟨s,h,_⟩:=h
 exact⟨s,h⟩
theorem D4 {c:CD} (h:Fits .bool c):∃ s,c= .lit (.bool s):=by
 simpa only[Fits]using h
theorem tc {c:CD} (h:Fits (.int .i64) c):∃ n,c= .lit (.int .i64 n)/\ -9223372036854775808<=n/\n<=9223372036854775807:=by
 simp only[Fits]at h
 obtain⟨n,h1,h2,h3⟩:=h
 refine⟨n,h1,?_,?_⟩
 · have:IntKind.i64.min= -9223372036854775808:=by decide
   omega
 · have:IntKind.i64.max=9223372036854775807:=by decide
   omega
theorem td {c:CD} (h:Fits qI c):∃ xs,c=ai xs/\j2 xs.length 16:=by
 simp only[qI,Fits]at h
 obtain⟨rows,rfl,h1,h2,h3⟩:=h
 obtain⟨xs,rfl⟩:=ux (f:=dJ) (rows:=rows) λr hr=>by
  have:=h3 r hr
  obtain⟨c,rfl,h4⟩:=dR.one this
  obtain⟨s,rfl⟩:=pQ h4
  exact⟨s,rfl⟩
 exact⟨xs,rfl,by simpa using h1,by simpa using h2⟩
theorem D6 {c:CD} (h:Fits wE c):∃ xs:List Int,c=bS xs/\j2 xs.length 8/\∀ x∈xs, -9223372036854775808<=x/\x<=9223372036854775807:=by
 simp only[wE,Fits]at h
 obtain⟨rows,rfl,h1,h2,h3⟩:=h
 have hrow:∀ r∈rows,∃ x: { n:Int // -9223372036854775808<=n/\n<=9223372036854775807 },r=bT x.1:=λr hr=>by
  have:=h3 r hr
  obtain⟨c,rfl,h4⟩:=dR.one this
  obtain⟨n,rfl,h5⟩:=tc h4
  exact⟨⟨n,h5⟩,rfl⟩
 obtain⟨xs,rfl⟩:=ux (f:=λx: { n:Int // -9223372036854775808<=n/\n<=9223372036854775807 }=>bT x.1) (rows:=rows) hrow
 refine⟨xs.map (·.1),by simp[bS],⟨by simpa using h1,by simpa using h2⟩,λx Z=>?_⟩
 obtain⟨y,_,rfl⟩:=mem_map.1 Z
 exact y.2
theorem MX {cs:List CD} (h:dR tO cs):∃ x: { h:Hy // h.Ok },cs=aN x.1:=by
 simp only[tO,dR]at h
 obtain⟨c0,_,rfl,h0,c1,_,rfl,h1,c2,_,rfl,h2,rfl⟩:=h
 obtain⟨s,rfl⟩:=pQ h0
 obtain⟨b,rfl⟩:=D4 h1
 obtain⟨xs,rfl,hs⟩:=td h2
 exact⟨⟨⟨s,b,xs⟩,⟨hs⟩⟩,rfl⟩
theorem MZ {cs:List CD} (h:dR um cs):∃ x:Pr,cs=aR x:=by
 simp only[um,dR]at h
 obtain⟨c0,_,rfl,h0,c1,_,rfl,h1,rfl⟩:=h
 obtain⟨s,rfl⟩:=pQ h0
 obtain⟨t,rfl⟩:=pQ h1
 exact⟨⟨s,t⟩,rfl⟩
theorem zk {α:Type} {p:α->Prop} {f:α->List CD} {row:List gS} {n:Nat} {c:CD} (hrow:∀ r,dR row r->∃ x: { a:α // p a },r=f x.1) (h:Fits (.sl n row) c):
 ∃ xs:List α,c= .sl (xs.map f)/\j2 xs.length n/\∀ x∈xs,p x:=by
 simp only[Fits]at h
 obtain⟨rows,rfl,h1,h2,h3⟩:=h
 obtain⟨xs,rfl⟩:=ux (f:=λx: { a:α // p a }=>f x.1) (rows:=rows) λr hr=>hrow r (h3 r hr)
 refine⟨xs.map (·.1),by simp,⟨by simpa using h1,by simpa using h2⟩,λx Z=>?_⟩
 obtain⟨y,_,rfl⟩:=mem_map.1 Z
 exact y.2
theorem D5 {c:CD} (h:Fits (.sl 48 tO) c):∃ hs,c=bW hs/\j2 hs.length 48/\∀ x∈hs,x.Ok:=zk (λ_ h=>MX h) h
theorem D7 {c:CD} (h:Fits (.sl 32 um) c):∃ ps,c=bI ps/\j2 ps.length 32:=by
 obtain⟨xs,h1,h2,_⟩:=zk (p:=λ_:Pr=>True) (f:=aR) (λ_ h=>by obtain⟨x,Z⟩:=MZ h;exact⟨⟨x,trivial⟩,Z⟩) h
 exact⟨xs,h1,h2⟩
theorem MW {cs:List CD} (h:dR zB cs):∃ x: { f:Fr // f.Ok },cs=aY x.1:=by
 simp only[zB,dR]at h
 obtain⟨c0,_,rfl,h0,c1,_,rfl,h1,c2,_,rfl,h2,c3,_,rfl,h3,c4,_,rfl,h4,c5,_,rfl,h5,c6,_,rfl,h6,c7,_,rfl,h7,rfl⟩:=h
 obtain⟨s,rfl⟩:=pQ h0
 obtain⟨b,rfl⟩:=D4 h1
 obtain⟨x2,rfl,a2,b2⟩:=D5 h2
 obtain⟨x3,rfl,a3⟩:=D7 h3
 obtain⟨x4,rfl,a4⟩:=td h4
 obtain⟨x5,rfl,a5,b5⟩:=D5 h5
 obtain⟨x6,rfl,a6⟩:=D7 h6
 obtain⟨x7,rfl,a7⟩:=td h7
 exact⟨⟨⟨s,b,x2,x3,x4,x5,x6,x7⟩,⟨a2,b2,a3,a4,a5,b5,a6,a7⟩⟩,rfl⟩
theorem MV {cs:List CD} (h:dR vG cs):∃ d:Db,cs=bZ d/\d.Ok:=by
 simp only[vG,dR]at h
 obtain⟨c0,_,rfl,h0,c1,_,rfl,h1,c2,_,rfl,h2,rfl⟩:=h
 obtain⟨x0,rfl,a0⟩:=td h0
 obtain⟨x1,rfl,a1⟩:=td h1
 obtain⟨x2,rfl,a2,b2⟩:=zk (f:=aY) (λ_ h=>MW h) h2
 exact⟨⟨x0,x1,x2⟩,rfl,a0,a1,a2,b2⟩
end
section
open Go.RowKit
def f5 (c:UInt8):CD:=.lit (.int .u8 (c.toNat:Int))
def VO (c:UInt8):List CD:=[f5 c]
def Pv (xs:List Hy):List CD:=[bW xs]
def Ar (l:List (List Hy)):CD:=.sl (l.map Pv)
structure Sm where
 kind:Int
 ae:BA
 ac:List BA
 proof:List BA
instance instInhSm:Inhabited Sm:=⟨⟨0,ByteArray.empty,[],[]⟩⟩
def kE (s:Sm):List CD:=[.lit (.int .i64 s.kind),.lit (.string s.ae),ai s.ac,ai s.proof]
def xJ (xs:List Sm):CD:=.sl (xs.map kE)
def uH (xs:List UInt8):CD:=.sl (xs.map VO)
def Cg (P:Program) (t e:TypeId) (n:Nat):Prop:=P.underlying t=some (.array n e)/\(∀ w,(sizeOf e).run P w= .ok 1 w)/\1<n
section
variable {n:Rn} {N:Nat} {P:Program} {J X:WP} {S S' gB:Nat->Prop} {O:List OB} {w0:World} {env:List (Nat×AV)} {Q:Exit->Act->WP}
variable {o:Oper} {a:Act} {w:World} {x y:Operand} {t e:TypeId} {b:Nat} {cs:List CD}
theorem uq {len:Nat} {k:IntKind} {i:Nat} (h1:Cg P t e len) (hop:o.op= .indexAddr t x y) (h:Rel S' w (.at b 0) (a.eval x)) (hy:Rel gB w (.lit (.int k (i:Int))) (a.eval y)) (hi:i<len) (Z:X w):Does n P o a w (bE S X (.at b i) w):=by
 obtain⟨h1,h2,h3⟩:=h1
 refine cJ (v:=.pointer (some ⟨b,i,none⟩)) ?_ (Rel.aG _) Z
 simp[execOp,hop,h.lit,hy.lit,Instr.indexAt,Instr.sureAddr,asIntOf,Sem.run_bind,run_underlying h1,h2 w,hi,pr]
theorem HM {c:CD} {v:Value} {S:Nat->Prop} {w:World} (h:Rd S w c v):∀ k,bD S w (List.replicate k c) (List.replicate k v)
 | 0=>trivial
 | k+1=>⟨h,HM h k⟩
theorem Wl {len:Nat} (z:Value) (hz:∀ w,(zeroValue t).run P w= .ok z w) (he:z.cells.toList=List.replicate len (.int .u8 0)):f8 P t ((List.replicate len (0:UInt8)).map f5):=by
 refine⟨z,hz,λS w=>?_⟩
 rw[he,List.map_replicate]
 exact HM (show Rd S w (f5 0) (.int .u8 0)from .lit (.int .u8 0) True.intro) len
theorem u5 {xs:List UInt8} {i:Nat} {c:UInt8} (hi:i<xs.length):(xs.map f5).take i++[f5 c]++(xs.map f5).drop (i+1)=(xs.set i c).map f5:=by
 rw[List.set_eq_take_append_cons_drop,if_pos hi]
 simp
theorem JG {xs:List UInt8} {i:Nat} (hi:i<xs.length):(xs.map f5)[i]?=some (f5 (G xs i)):=by rw[List.getElem?_map,mF hi];rfl
theorem CE {ds:List CD} {xs:List UInt8} (h:xs.length=ds.length):ds.take 0++xs.map f5++ds.drop (0+(xs.map f5).length)=xs.map f5:=by
 simp[h]
theorem Tu {s d:TypeId} {k:Nat} (hs:P.underlying s=some (.int .i64)) (hd:P.underlying d=some (.int .u8)) (hop:o.op= .convert s d x) (h:Rel S' w (.int (k:Int)) (a.eval x)) (hk:k<256) (Z:X w):Does n P o a w (bE S X (.lit (.int .u8 ((UInt8.ofNat k).toNat:Int))) w):=by
 have hu:(UInt8.ofNat k).toNat=k:=by rw[UInt8.toNat_ofNat'];exact Nat.mod_eq_of_lt hk
 refine cJ (v:=.int .u8 ((UInt8.ofNat k).toNat:Int)) ?_ (Rel.aG _) Z
 rw[hu]
 have W0:(k:Int)%256=k:=by omega
 have hw:IntKind.u8.wrap (k:Int)=k:=by simp[IntKind.wrap,IntKind.bits,IntKind.signed];omega
 simp[execOp,hop,h.lit,convert,Conv.intToInt,Sem.run_bind,run_underlying hs,run_underlying hd,hw]
theorem qr {k:Nat} {parts:Array (Nat×Operand)} {us:List Value} (ht:dx P t e 1) (hz:mi P e 1) (hop:o.op= .buildSlice t k parts) (hp:(parts.map λ(i,x)=>(i,a.eval x)).toList=us.zipIdx.map λp=>(p.2,p.1)) (h:bD S w cs us) (hk:us.length=k) (hk0:0<k) (hk1:k<=1000) (hS:S w.heap.size) (Z:∀ w',Keeps All w w'->X w'):
 Does n P o a w (bE S X (.rd (.sl (cs.map λc=>[c]))) w):=by
 obtain⟨z,hz,lr,_⟩:=hz
 have hk':Keeps All w (w.alloc (.cells us.toArray e)):=(Keeps.refl _ _).alloc _
 have hf:=vN (k:=k) (place:=λi=>some (i*1,1)) (λj _=>by simp) us 0 ((Array.range (k*1)).map (z.cells[· %z.cells.size]!)) yz oz h.one
 refine eh (v:=.slice (some ⟨w.heap.size,0,none⟩) k k) (w':=w.alloc (.cells us.toArray e)) ?_ ⟨?_,hk',Z _ hk'⟩
 · have p5:(parts.map λ(i,x)=>(i,a.eval x)).toList=us.zipIdx.map λp=>(p.2,p.1):=hp
   have hd:((Array.range (k*1)).map (z.cells[· %z.cells.size]!)).toList.drop (0+us.length)=[]:=by
    apply List.drop_of_length_le;simp;omega
   rw[hd]at hf
   simp only[List.take_zero,List.nil_append,List.append_nil]at hf
   rw[execOp,hop]
   have hn:¬ (k*1>2^24):=by omega
   have z8:¬ (k*1=0):=by omega
   simp only[Sem.run_bind,Instr.buildSlice,run_underlying ht.1,Result.andThen_ok,ht.2 w,if_neg hn,if_neg z8,hz w,p5]
   simp only[Nat.mul_one]at hf ⊢
   simp[newRow,newObj,Sem.run,hf]
 · simp only[Rel]
   have hlen:(cs.map λc=>[c]).length=k:=by rw[List.length_map,<-hk,h.length]
   rw[<-hlen]
   refine Rd.of_cells (n:=1) (us:=us) aV (by rw[hlen];simp only[maxLen];omega) yz hS (λr hr=>by obtain⟨c,_,rfl⟩:=mem_map.1 hr;rfl) ?_ λj u hj=>nq j u hj
   have:(cs.map λc=>[c]).flatten=cs:=by
    clear hlen hf h hp
    induction cs with
    | nil=>rfl
    | cons c cs ih=>simp only[List.map_cons,List.flatten_cons,ih];rfl
   rw[this]
   exact h.keep hk' λ_ _ _=>trivial
theorem jm {v:Value} (h:Rel S w (.agg cs) v):∃ us:List Value,v= .agg us.toArray/\bD S w cs us:=by simpa only[Rel]using h
theorem HZ (f:FuncId):Rel S w (.lit (.func (.func f) #[] #[])) (a.eval (.func f)):=Rel.aG _
theorem NA {f:FuncId} {v:Value} (h:Rel S' w (.lit (.func (.func f) #[] #[])) v):Rel S w (.fn f []) v:=by
 rw[h.lit];simp only[Rel,bd];exact⟨[],rfl,rfl⟩
end
section
variable {n:Rn} {N:Nat} {P:Program} {J X:WP} {S S' gB:Nat->Prop} {O:List OB} {w0:World} {env:List (Nat×AV)} {Q:Exit->Act->WP}
variable {o:Oper} {a:Act} {w:World} {x y:Operand} {t e u:TypeId}
theorem Hn (h1:P.underlying t=some (.slice e)) (hop:o.op= .call { callee:=.builtin .cap,args:= #[x],argTypes:= #[t] }) (h:Rel S' w (.lit (.slice none 0 0)) (a.eval x)) (Z:X w):Does n P o a w (bE S X (.int ((0:Nat):Int)) w):=by
 refine cJ (v:=.int .i64 0) ?_ (Rel.aG _) Z
 simp[execOp,hop,h.lit,resolve,invoke,builtin,Builtin.cap_,Sem.run_bind,run_underlying h1,goInt]
theorem Hz (h1:P.underlying t=some (.slice e)) (hop:o.op= .call { callee:=.builtin .len,args:= #[x],argTypes:= #[t] }) (h:Rel S' w (.lit (.slice none 0 0)) (a.eval x)) (Z:X w):Does n P o a w (bE S X (.int ((0:Nat):Int)) w):=by
 refine cJ (v:=.int .i64 0) ?_ (Rel.aG _) Z
 simp[execOp,hop,h.lit,resolve,invoke,builtin,Builtin.len_,Sem.run_bind,run_underlying h1,goInt]
theorem Tv {k:Nat} {v2:Operand} (h1:dx P t e k) (hop:o.op= .slice t x none (some v2) none) (h:Rel S' w (.lit (.slice none 0 0)) (a.eval x)) (hy:Rel gB w (.int ((0:Nat):Int)) (a.eval v2)) (Z:X w):Does n P o a w (bE S X (.lit (.slice none 0 0)) w):=by
 refine cJ (v:=.slice none 0 0) ?_ (Rel.aG _) Z
 simp[execOp,hop,h.lit,hy.lit,Instr.sliceAt,Instr.slice,Instr.sliceBounds,Instr.sliceBound,asIntOf,Sem.run_bind,run_underlying h1.1,h1.2 w]
theorem UX {ops:Array Oper} {rest:List Oper} {d:Nat} {size bytes m:Nat} (ht:jq P t e size bytes) (hu:P.underlying u=some (.int .i64)) (V:aS J) (hg:o.guard=none) (hop:o.op= .call { callee:=.builtin .append,args:= #[x,y],argTypes:= #[t,u] }) (hd:o.dst=some d) (hN:d<N)
 (hm:0<m) (hb:m*bytes<=140737488355328) (h63:m<=9223372036854775807) (h1:∀ a w,So J S w0 N O env a w->Rel (SO S O) w (.lit (.slice none 0 0)) (a.eval x)/\Rel (SO S O) w (.int (m:Int)) (a.eval y))
 (next:∀ v a w,So J S w0 N (OB.row (du v 0) e size []::O) ((d,.lit v)::dK d env) a w->wpListIn n.F n.d P ops Q rest a w):
 ∀ a w,So J S w0 N O env a w->wpListIn n.F n.d P ops Q (o::rest) a w:=by
 refine kD (O2:=λv=>OB.row (du v 0) e size []::O) (av:=λv=>.lit v) hg hd hN (λa w h=>?_) next
 obtain⟨ht,⟨i,z,hi,hz,zV,zU,lr⟩,hsz,hs⟩:=ht
 obtain⟨g1,g2⟩:=h1 a w h
 subst zV
 subst zU
 have hn:m≠0:=by omega
 have Pb:IntKind.i64.wrap (m:Int)=m:=by
  have:=IntWalk.i64_in (m:Int) ⟨oz,oz⟩
  simp[IntKind.wrap,IntKind.bits,IntKind.signed];omega
 have O0:¬ m*i.size=0:=λe=>by rcases Nat.mul_eq_zero.1 e with h | h<;>omega
 have hb':¬ (281474976710656< (m:Int)*(i.bytes:Int)):=by
  have:((m*i.bytes:Nat):Int)<=140737488355328:=by omega
  rw[Int.natCast_mul]at this;omega
 have h48':¬ (281474976710656<Builtin.nextslicecap m 0*i.bytes):=by rw[nextslicecap_zero hm];omega
 have hrun:(Builtin.append_ #[t,u] o.type #[.slice none 0 0,.int .i64 m]).run P w= .ok (.slice (some ⟨w.heap.size,0,none⟩) m (grownCap w m 0 e)) (w.drew.alloc (.cells (Builtin.zeroCells z.cells m++Builtin.zeroCells z.cells (grownCap w m 0 e-m)) e)):=by
  simp[Builtin.append_,run_underlying ht,run_underlying hu,sizeOf,typeInfo,zeroValue,hi,hz,hn,O0,Pb,asInt,asIntOf,h48',hb',Question.forced,newRow,grownCap,run_firstCells_none,show ¬ (9223372036854775807< (m:Int)) by omega]
  intro h9;omega
 have hge:=grownCap_ge w m 0 e
 have df:grownCap w m 0 e<=maxLen:=grownCap_le_maxLen w m 0 e (by simp only[maxLen];omega)
 have hk:Keeps All w (w.drew.alloc (.cells (Builtin.zeroCells z.cells m++Builtin.zeroCells z.cells (grownCap w m 0 e-m)) e)):=((Keeps.refl _ _).drew).alloc _
 refine eh (v:=.slice (some ⟨w.heap.size,0,none⟩) m (grownCap w m 0 e)) (w':=_) ?_ ⟨.slice (some ⟨w.heap.size,0,none⟩) m (grownCap w m 0 e),k7 V h.keep h.x hk (λb hb=>?_) ⟨[],⟨by simp,.inr ⟨w.heap.size,grownCap w m 0 e,_,rfl,h.keep.size,heap_alloc_new w.drew _,aI,df,?_,by simp⟩⟩,trivial,λr hr=>by cases hr⟩,Rel.aG _⟩
 · simp[execOp,hop,resolve,invoke,builtin,g1.lit,g2.lit,hrun,Result.andThen]
 · simp[OB.row,du,Value.ownBlock]at hb;omega
 · simp only[Array.size_append,size_zeroCells,lr,<-Nat.add_mul]
   congr 1
   omega
end
end
end Go.Proofs.YtdfadihhfppjaaaGreatDoor
