/-
  FROM THE FORM's READING OF AN ARGUMENT TO THE DATA THAT ARE READ (Rd), FOR EVERY TYPE OF BOOLS, NUMBERS, TEXTS, STRUCTS AND SLICES.
  DATABASES AS DATA: hypotheses, pairs, frames, databases; how they are read.
  THE ENGINE: arrays in variables; bytes; rows of several given parts; function values in cells.
  THE ENGINE: room for a new slice; walks over maps of the call's own.
-/
import Derived.ProofKit
import Derived.OpenShut
import Derived.Deep.Slices
import Derived.Test.YtdfadihhfppjaaaGreatDoorQH
namespace Go.Proofs.YtdfadihhfppjaaaGreatDoor
open Go.ChangeShapes Go.WideShapes Go.ChangeAt Go.RowKit Go.Deep
inductive TyD where
 | bool
 | int (k:IntKind)
 | str
 | sl (bytes:Nat) (row:List TyD)
def fieldsOf (P:Program) (g:TypeId→Option (List TyD)):Nat→List Field→Option (List TyD×Nat)
 | off,[]=>some ([],off)
 | off,f::fs=>
  if f.offset=off then
   match g f.type with
   | some d=>if d.length=P.cellsOf f.type then(fieldsOf P g (off+d.length) fs).map fun x=>(d++x.1,x.2)else none
   | none=>none
  else none
def ZdE (P:Program):Nat→TypeId→Option (List TyD)
 | 0,_=>none
 | n+1,t=>
  match P.underlying t with
  | some .bool=>some [.bool]
  | some (.int k)=>some [.int k]
  | some .string=>some [.str]
  | some (.slice e)=>
   match ZdE P n e with
   | some r=>if r.length=P.cellsOf e∧0<r.length∧0<P.bytesOf e then some [.sl (P.bytesOf e) r]else none
   | none=>none
  | some (.struct fs)=>
   match fieldsOf P (ZdE P n) 0 fs.toList with
   | some x=>if x.2=P.cellsOf t then some x.1 else none
   | none=>none
  | _=>none
mutual
def Fits:TyD→CD→Prop
 | .bool,c=>∃ b,c= .lit (.bool b)
 | .int k,c=>∃ n,c= .lit (.int k n)∧k.min≤n∧n≤k.max
 | .str,c=>∃ s,c= .lit (.string s)∧s.size≤maxLen
 | .sl bytes row,c=>∃ rows:List (List CD),c= .sl rows∧rows.length*bytes≤140737488351232∧rows.length≤140737488351232∧∀ r∈rows,FitsL row r
def FitsL:List TyD→List CD→Prop
 | [],cs=>cs=[]
 | t::ts,cs=>∃ c cs',cs=c::cs'∧Fits t c∧FitsL ts cs'
end
theorem FitsL.append:∀ {ts us:List TyD} {cs ds:List CD},FitsL ts cs→FitsL us ds→FitsL (ts++us) (cs++ds)
 | [],_,cs,ds,h,k=>by simp only[FitsL]at h;subst h;exact k
 | t::ts,us,cs,ds,h,k=>by
  simp only[FitsL]at h
  obtain⟨c,cs',rfl,h1,h2⟩:=h
  simp only[List.cons_append,FitsL]
  exact⟨c,_,rfl,h1,h2.append k⟩
theorem FitsL.length:∀ {ts:List TyD} {cs:List CD},FitsL ts cs→cs.length=ts.length
 | [],cs,h=>by simp only[FitsL]at h;subst h;rfl
 | t::ts,cs,h=>by
  simp only[FitsL]at h
  obtain⟨c,cs',rfl,_,h2⟩:=h
  simp[h2.length]
theorem FitsL.one {t:TyD} {cs:List CD} (h:FitsL [t] cs):∃ c,cs=[c]∧Fits t c:=by
 simp only[FitsL]at h
 obtain⟨c,cs',rfl,h1,rfl⟩:=h
 exact⟨c,rfl,h1⟩
theorem Zbx {H:Type} {P:Program} {e:TypeId} {d:DataW H} {x:Nat} (hx:x∈d.weights P e):∀ {l:List (DataW H)},d∈l→x∈DataW.weightsAll P e l
 | c::l,h=>by
  simp only[DataW.weightsAll,List.mem_append]
  rcases List.mem_cons.1 h with rfl | h
  · exact Or.inl hx
  · exact Or.inr (Zbx hx h)
section
variable {H:Type} {enc:TypeId×Value→H} {W:World} {P:Program}
theorem Zno {k:IntKind} {n:Int} (h:(Lit.int k n).wf=true):k.min≤n∧n≤k.max:=by
 simpa [Lit.wf]using h
theorem Zh9 {n:Nat} {g:TypeId→Option (List TyD)}
 (ih:∀ t ds,g t=some ds→∀(fuel:Nat) (cs:List Value) (x:DataW H×List MemPlace),DataW.trod enc P W 0 (fun _=>true) true fuel t cs=some x→(∀ y∈x.1.weights P t,y≤reachBytes)→∃ cds,FitsL ds cds∧RdL All W cds cs)
 (cs:List Value):∀(fs:List Field) (xs:List (DataW H×List MemPlace)) (off:Nat) (r:List TyD×Nat),fieldsOf P g off fs=some r→r.2=cs.length→xs.length=fs.length→
  (∀(i:Nat) (f:Field),fs[i]?=some f→DataW.trod enc P W 0 (fun _=>true) true n f.type ((cs.drop f.offset).take (P.cellsOf f.type))=xs[i]?)→
  (∀ y∈DataW.weightsEach P (fs.map (·.type)) (xs.map (·.1)),y≤reachBytes)→∃ cds,FitsL r.1 cds∧RdL All W cds (cs.drop off)
 | [],xs,off,r,h,hr,_,_,_=>by
  simp only[fieldsOf,Option.some.injEq]at h
  subst h
  simp only at hr
  exact⟨[],by simp[FitsL],by rw[List.drop_of_length_le oz];trivial⟩
 | f::fs,xs,off,r,h,hr,hl,hx,hw=>by
  simp only[fieldsOf]at h
  split at h
  · rename_i hoff
    split at h
    · rename_i d hd
      split at h
      · rename_i hdl
        cases hrest:fieldsOf P g (off+d.length) fs with
        | none=>rw[hrest]at h;cases h
        | some r'=>
         rw[hrest]at h
         simp only[Option.map_some,Option.some.injEq]at h
         subst h
         match xs,hl with
         | x::xs,hl=>
          have h0:=hx 0 f rfl
          simp only[List.getElem?_cons_zero,hoff]at h0
          have hw0:∀ y∈x.1.weights P f.type,y≤reachBytes:=fun y hy=>hw y (by simp only[List.map_cons,DataW.weightsEach,List.mem_append];exact Or.inl hy)
          obtain⟨c1,hc1,hr1⟩:=ih f.type d hd n _ x h0 hw0
          obtain⟨c2,hc2,hr2⟩:=Zh9 ih cs fs xs (off+d.length) r' hrest hr (by simpa using hl) (fun i f hf=>by simpa using hx (i+1) f (by simpa using hf))
           (fun y hy=>hw y (by simp only[List.map_cons,DataW.weightsEach,List.mem_append];exact Or.inr hy))
          refine⟨c1++c2,hc1.append hc2,?_⟩
          have hsplit:cs.drop off=(cs.drop off).take (P.cellsOf f.type)++cs.drop (off+d.length):=by
           rw[hdl,←List.drop_drop,List.take_append_drop]
          rw[hsplit]
          exact hr1.append hr2
      · cases h
    · cases h
  · cases h
theorem ZbN:∀(n:Nat) (t:TypeId) (ds:List TyD),ZdE P n t=some ds→∀(fuel:Nat) (cs:List Value) (x:DataW H×List MemPlace),DataW.trod enc P W 0 (fun _=>true) true fuel t cs=some x→
 (∀ y∈x.1.weights P t,y≤reachBytes)→∃ cds,FitsL ds cds∧RdL All W cds cs
 | 0,_,_,hd,_,_,_,_,_=>by simp[ZdE]at hd
 | n+1,t,ds,hd,fuel,cs,x,h,hw=>by
  simp only[ZdE]at hd
  split at hd
  · rename_i ht
    cases hd
    obtain⟨b,rfl,_⟩:=DataW.trod_bool ht h
    exact⟨[.lit (.bool b)],by simp[FitsL,Fits],⟨.lit _ trivial,trivial⟩⟩
  · rename_i k ht
    cases hd
    obtain⟨b,rfl,_,hwf⟩:=DataW.trod_int ht h
    exact⟨[.lit (.int k b)],by simp only[FitsL,Fits];exact⟨_,_,rfl,⟨b,rfl,Zno hwf⟩,rfl⟩,⟨.lit _ trivial,trivial⟩⟩
  · rename_i ht
    cases hd
    obtain⟨b,rfl,_,hwf⟩:=DataW.trod_string ht h
    exact⟨[.lit (.string b)],by simp only[FitsL,Fits];exact⟨_,_,rfl,⟨b,rfl,hwf⟩,rfl⟩,⟨.lit _ hwf,trivial⟩⟩
  · rename_i e ht
    split at hd
    · rename_i row hrow
      split at hd
      · rename_i hcond
        obtain⟨hrl,hr0,hb0⟩:=hcond
        cases hd
        rcases open_slice ht h with⟨rfl,rfl⟩ | ⟨a,len,cap,m,n',D,Pl,rfl,hb,hlc,hcm,hm,rfl,hx⟩
        · exact⟨[.sl []],by simp only[FitsL,Fits];exact⟨_,_,rfl,⟨[],rfl,by simp,by simp,by simp⟩,rfl⟩,⟨.nil none 0 nzl,trivial⟩⟩
        · simp only[if_true]at hm
          have hw1:=hw ((((List.range len).map D).length+((List.range (m-len)).map fun j=>D (len+j)).length)*P.bytesOf e) (by simp only[DataW.weights,ht];exact List.mem_cons_self ..)
          simp only[List.length_map,List.length_range,reachBytes]at hw1
          have each:∀ i,i<len→∃ q:List CD×List Value,FitsL row q.1∧RdL All W q.1 q.2∧q.2.length=P.cellsOf e∧∀ j,j<P.cellsOf e→W.cell? (a.add (i*P.cellsOf e+j))=q.2[j]?:=by
           intro i hi
           obtain⟨cs',h1,h2⟩:=hx i oz
           obtain⟨_,hl',hc'⟩:=World.cells?_some h1
           have hwi:∀ y∈(D i).weights P e,y≤reachBytes:=fun y hy=>hw y (by
            simp only[DataW.weights,ht]
            exact List.mem_cons_of_mem _ (List.mem_append_left _ (Zbx hy (List.mem_map.2 ⟨i,by simpa using hi,rfl⟩))))
           obtain⟨cds,hf,hr⟩:=ZbN n e row hrow n' cs' (D i,Pl i) h2 hwi
           exact⟨(cds,cs'),hf,hr,hl',fun j hj=>by rw[←add_add];exact hc' j hj⟩
          obtain⟨q,hq⟩:=choose_lt each
          have hlen:((List.range len).map fun i=>(q i).1).length=len:=by simp
          have hbytes:len*P.bytesOf e≤140737488351232:=Nat.le_trans (Nat.mul_le_mul_right _ oz) hw1
          have hle:len≤140737488351232:=Nat.le_trans (Nat.le_mul_of_pos_right _ hb0) hbytes
          refine⟨[.sl ((List.range len).map fun i=>(q i).1)],?_,?_,trivial⟩
          · simp only[FitsL,Fits]
            refine⟨_,_,rfl,⟨_,rfl,by rw[hlen];exact hbytes,by rw[hlen];exact hle,fun r hr=>?_⟩,rfl⟩
            obtain⟨i,hi,rfl⟩:=List.mem_map.1 hr
            exact(hq i (by simpa using hi)).1
          · by_cases h0:len=0
            · subst h0
              exact .nil _ _ hcm
            · have h00:=(hq 0 oz).2.2.2 0 oz
              obtain⟨u0,hu0⟩:∃ u0,((q 0).2)[0]?=some u0:=⟨_,List.getElem?_eq_getElem (by rw[(hq 0 oz).2.2.1];omega)⟩
              rw[hu0]at h00
              obtain⟨b,off,spot⟩:=a
              have hspot:spot=none:=by simpa [Addr.add]using World.cell?_spot h00
              subst hspot
              have hbl:b<W.heap.size:=by
               rw[Nat.zero_mul,Go.WideShapes.add_plain]at h00
               unfold World.cell? at h00
               cases hg:W.heap[b]? with
               | none=>simp[hg]at h00
               | some o=>exact(Array.getElem?_eq_some_iff.1 hg).1
              have hsl:=Rd.sl (S:=All) (w:=W) b off cap (P.cellsOf e) ((List.range len).map fun i=>(q i).1) (fun i j=>(((q i).2)[j]?).getD default) (by rw[hlen];exact hlc) hcm hbl trivial
               (fun r hr=>by
                obtain⟨i,hi,rfl⟩:=List.mem_map.1 hr
                rw[(hq i (by simpa using hi)).1.length,hrl])
               (fun i j hi hj=>by
                rw[hlen]at hi
                have h1:=(hq i hi).2.2.2 j hj
                rw[Go.WideShapes.add_plain]at h1
                rw[show off+i*P.cellsOf e+j=off+(i*P.cellsOf e+j) by omega,h1]
                rw[List.getElem?_eq_getElem (by rw[(hq i hi).2.2.1];exact hj)]
                rfl)
               (fun i j r c h1 h2=>by
                have hi:i<len:=by
                 rcases Nat.lt_or_ge i len with h | h
                 · exact h
                 · rw[List.getElem?_eq_none (by simpa using h)]at h1;cases h1
                have hr:r=(q i).1:=by simpa [hi]using h1.symm
                subst hr
                have hj:j< ((q i).2).length:=by
                 rw[(hq i hi).2.1.length]
                 rcases Nat.lt_or_ge j ((q i).1).length with h | h
                 · exact h
                 · rw[List.getElem?_eq_none h]at h2;cases h2
                rw[List.getElem?_eq_getElem hj]
                exact(hq i hi).2.1.get h2 (List.getElem?_eq_getElem hj))
              rw[hlen]at hsl
              exact hsl
      · cases hd
    · cases hd
  · rename_i fs ht
    split at hd
    · rename_i r hr
      split at hd
      · rename_i hc
        cases hd
        obtain⟨xs,n',_,rfl,hcl,hxl,hf⟩:=DataW.trod_struct ht h
        have hw':∀ y∈DataW.weightsEach P (fs.toList.map (·.type)) (xs.map (·.1)),y≤reachBytes:=fun y hy=>hw y (by simp only[DataW.weights,ht];exact hy)
        obtain⟨cds,h1,h2⟩:=Zh9 (n:=n') (g:=ZdE P n) (fun t ds h fuel cs x=>ZbN n t ds h fuel cs x) cs fs.toList xs 0 r hr oz (by simpa using hxl) (fun i f h=>hf i f (by simpa using h)) hw'
        exact⟨cds,h1,by simpa using h2⟩
      · cases hd
    · cases hd
  · cases hd
theorem Zcz {α:Type} {f:α→List CD}:∀ {rows:List (List CD)},(∀ r∈rows,∃ x:α,r=f x)→∃ xs:List α,rows=xs.map f
 | [],_=>⟨[],rfl⟩
 | r::rows,h=>by
  obtain⟨x,rfl⟩:=h r yz
  obtain⟨xs,rfl⟩:=Zcz (rows:=rows) fun r hr=>h r (List.mem_cons_of_mem _ hr)
  exact⟨x::xs,rfl⟩
end
end Go.Proofs.YtdfadihhfppjaaaGreatDoor
namespace Go.Proofs.YtdfadihhfppjaaaGreatDoor
open Go.ChangeShapes Go.WideShapes Go.ChangeAt Go.RowKit Go.Deep
structure Hy where
 label:BA
 floating:Bool
 text:List BA
structure Pr where
 a:BA
 b:BA
structure Fr where
 label:BA
 thm:Bool
 hyps:List Hy
 apart:List Pr
 text:List BA
 dummies:List Hy
 wide:List Pr
 proof:List BA
structure Db where
 consts:List BA
 vars:List BA
 frames:List Fr
instance instInhHy:Inhabited Hy:=⟨⟨ByteArray.empty,false,[]⟩⟩
instance instInhPr:Inhabited Pr:=⟨⟨ByteArray.empty,ByteArray.empty⟩⟩
instance instInhFr:Inhabited Fr:=⟨⟨ByteArray.empty,false,[],[],[],[],[],[]⟩⟩
def Zrh (x y:Pr):Bool:=decide (x.a=y.a)&&decide (x.b=y.b)
theorem prEq_iff {x y:Pr}:Zrh x y=true↔x=y:=by
 cases x;cases y;simp[Zrh]
instance instDecPr:DecidableEq Pr:=fun _ _=>decidable_of_iff _ prEq_iff
def Zu3 (x y:Hy):Bool:=decide (x.label=y.label)&& (x.floating==y.floating)&&decide (x.text=y.text)
theorem hyEq_iff {x y:Hy}:Zu3 x y=true↔x=y:=by
 cases x;cases y;simp[Zu3,and_assoc]
instance instDecHy:DecidableEq Hy:=fun _ _=>decidable_of_iff _ hyEq_iff
def ZbZ (s:BA):List CD:=[.lit (.string s)]
def Zg (xs:List BA):CD:=.sl (xs.map ZbZ)
def Zen (xs:List BA):List CD:=[Zg xs]
def Yc (l:List (List BA)):CD:=.sl (l.map Zen)
def Xe (x:Int):List CD:=[.lit (.int .i64 x)]
def Z3 (xs:List Int):CD:=.sl (xs.map Xe)
def hyC (h:Hy):List CD:=[.lit (.string h.label),.lit (.bool h.floating),Zg h.text]
def XQ (hs:List Hy):CD:=.sl (hs.map hyC)
def prC (p:Pr):List CD:=[.lit (.string p.a),.lit (.string p.b)]
def X8 (ps:List Pr):CD:=.sl (ps.map prC)
def frC (f:Fr):List CD:=[.lit (.string f.label),.lit (.bool f.thm),XQ f.hyps,X8 f.apart,Zg f.text,XQ f.dummies,X8 f.wide,Zg f.proof]
def ZaU (fs:List Fr):CD:=.sl (fs.map frC)
def dbC (d:Db):List CD:=[Zg d.consts,Zg d.vars,ZaU d.frames]
def ZjK:TyD:=.sl 16 [.str]
def ZwL:TyD:=.sl 8 [.int .i64]
def hyT:List TyD:=[.str,.bool,ZjK]
def prT:List TyD:=[.str,.str]
def frT:List TyD:=[.str,.bool,.sl 48 hyT,.sl 32 prT,ZjK,.sl 48 hyT,.sl 32 prT,ZjK]
def dbT:List TyD:=[ZjK,ZjK,.sl 168 frT]
def Zcm (n bytes:Nat):Prop:=n*bytes≤140737488351232∧n≤140737488351232
structure Hy.Ok (h:Hy):Prop where
 text:Zcm h.text.length 16
structure Fr.Ok (f:Fr):Prop where
 hyps:Zcm f.hyps.length 48
 hyp:∀ h∈f.hyps,h.Ok
 apart:Zcm f.apart.length 32
 text:Zcm f.text.length 16
 dummies:Zcm f.dummies.length 48
 dummy:∀ h∈f.dummies,h.Ok
 wide:Zcm f.wide.length 32
 proof:Zcm f.proof.length 16
structure Db.Ok (d:Db):Prop where
 consts:Zcm d.consts.length 16
 vars:Zcm d.vars.length 16
 frames:Zcm d.frames.length 168
 frame:∀ f∈d.frames,f.Ok
theorem ZbR {c:CD} (h:Fits .str c):∃ s,c= .lit (.string s):=by
 simp only[Fits]at h
 obtain⟨s,h,_⟩:=h
 exact⟨s,h⟩
theorem ZiV {c:CD} (h:Fits .bool c):∃ s,c= .lit (.bool s):=by
 simpa only[Fits]using h
theorem Zs4 {c:CD} (h:Fits (.int .i64) c):∃ n,c= .lit (.int .i64 n)∧ -9223372036854775808≤n∧n≤9223372036854775807:=by
 simp only[Fits]at h
 obtain⟨n,h1,h2,h3⟩:=h
 refine⟨n,h1,?_,?_⟩
 · have:IntKind.i64.min= -9223372036854775808:=by decide
   omega
 · have:IntKind.i64.max=9223372036854775807:=by decide
   omega
theorem ZbD {c:CD} (h:Fits ZjK c):∃ xs,c=Zg xs∧Zcm xs.length 16:=by
 simp only[ZjK,Fits]at h
 obtain⟨rows,rfl,h1,h2,h3⟩:=h
 obtain⟨xs,rfl⟩:=Zcz (f:=ZbZ) (rows:=rows) fun r hr=>by
  have:=h3 r hr
  obtain⟨c,rfl,h4⟩:=FitsL.one this
  obtain⟨s,rfl⟩:=ZbR h4
  exact⟨s,rfl⟩
 exact⟨xs,rfl,by simpa using h1,by simpa using h2⟩
theorem Zqh {c:CD} (h:Fits ZwL c):∃ xs:List Int,c=Z3 xs∧Zcm xs.length 8∧∀ x∈xs, -9223372036854775808≤x∧x≤9223372036854775807:=by
 simp only[ZwL,Fits]at h
 obtain⟨rows,rfl,h1,h2,h3⟩:=h
 have hrow:∀ r∈rows,∃ x: { n:Int // -9223372036854775808≤n∧n≤9223372036854775807 },r=Xe x.1:=fun r hr=>by
  have:=h3 r hr
  obtain⟨c,rfl,h4⟩:=FitsL.one this
  obtain⟨n,rfl,h5⟩:=Zs4 h4
  exact⟨⟨n,h5⟩,rfl⟩
 obtain⟨xs,rfl⟩:=Zcz (f:=fun x: { n:Int // -9223372036854775808≤n∧n≤9223372036854775807 }=>Xe x.1) (rows:=rows) hrow
 refine⟨xs.map (·.1),by simp[Z3],⟨by simpa using h1,by simpa using h2⟩,fun x hx=>?_⟩
 obtain⟨y,_,rfl⟩:=List.mem_map.1 hx
 exact y.2
theorem Zw6 {cs:List CD} (h:FitsL hyT cs):∃ x: { h:Hy // h.Ok },cs=hyC x.1:=by
 simp only[hyT,FitsL]at h
 obtain⟨c0,_,rfl,h0,c1,_,rfl,h1,c2,_,rfl,h2,rfl⟩:=h
 obtain⟨s,rfl⟩:=ZbR h0
 obtain⟨b,rfl⟩:=ZiV h1
 obtain⟨xs,rfl,hs⟩:=ZbD h2
 exact⟨⟨⟨s,b,xs⟩,⟨hs⟩⟩,rfl⟩
theorem Zw4 {cs:List CD} (h:FitsL prT cs):∃ x:Pr,cs=prC x:=by
 simp only[prT,FitsL]at h
 obtain⟨c0,_,rfl,h0,c1,_,rfl,h1,rfl⟩:=h
 obtain⟨s,rfl⟩:=ZbR h0
 obtain⟨t,rfl⟩:=ZbR h1
 exact⟨⟨s,t⟩,rfl⟩
theorem Zhd {α:Type} {p:α→Prop} {f:α→List CD} {row:List TyD} {n:Nat} {c:CD} (hrow:∀ r,FitsL row r→∃ x: { a:α // p a },r=f x.1) (h:Fits (.sl n row) c):
 ∃ xs:List α,c= .sl (xs.map f)∧Zcm xs.length n∧∀ x∈xs,p x:=by
 simp only[Fits]at h
 obtain⟨rows,rfl,h1,h2,h3⟩:=h
 obtain⟨xs,rfl⟩:=Zcz (f:=fun x: { a:α // p a }=>f x.1) (rows:=rows) fun r hr=>hrow r (h3 r hr)
 refine⟨xs.map (·.1),by simp,⟨by simpa using h1,by simpa using h2⟩,fun x hx=>?_⟩
 obtain⟨y,_,rfl⟩:=List.mem_map.1 hx
 exact y.2
theorem Zl2 {c:CD} (h:Fits (.sl 48 hyT) c):∃ hs,c=XQ hs∧Zcm hs.length 48∧∀ x∈hs,x.Ok:=Zhd (fun _ h=>Zw6 h) h
theorem Zl1 {c:CD} (h:Fits (.sl 32 prT) c):∃ ps,c=X8 ps∧Zcm ps.length 32:=by
 obtain⟨xs,h1,h2,_⟩:=Zhd (p:=fun _:Pr=>True) (f:=prC) (fun _ h=>by obtain⟨x,hx⟩:=Zw4 h;exact⟨⟨x,trivial⟩,hx⟩) h
 exact⟨xs,h1,h2⟩
theorem Zw7 {cs:List CD} (h:FitsL frT cs):∃ x: { f:Fr // f.Ok },cs=frC x.1:=by
 simp only[frT,FitsL]at h
 obtain⟨c0,_,rfl,h0,c1,_,rfl,h1,c2,_,rfl,h2,c3,_,rfl,h3,c4,_,rfl,h4,c5,_,rfl,h5,c6,_,rfl,h6,c7,_,rfl,h7,rfl⟩:=h
 obtain⟨s,rfl⟩:=ZbR h0
 obtain⟨b,rfl⟩:=ZiV h1
 obtain⟨x2,rfl,a2,b2⟩:=Zl2 h2
 obtain⟨x3,rfl,a3⟩:=Zl1 h3
 obtain⟨x4,rfl,a4⟩:=ZbD h4
 obtain⟨x5,rfl,a5,b5⟩:=Zl2 h5
 obtain⟨x6,rfl,a6⟩:=Zl1 h6
 obtain⟨x7,rfl,a7⟩:=ZbD h7
 exact⟨⟨⟨s,b,x2,x3,x4,x5,x6,x7⟩,⟨a2,b2,a3,a4,a5,b5,a6,a7⟩⟩,rfl⟩
theorem Zw8 {cs:List CD} (h:FitsL dbT cs):∃ d:Db,cs=dbC d∧d.Ok:=by
 simp only[dbT,FitsL]at h
 obtain⟨c0,_,rfl,h0,c1,_,rfl,h1,c2,_,rfl,h2,rfl⟩:=h
 obtain⟨x0,rfl,a0⟩:=ZbD h0
 obtain⟨x1,rfl,a1⟩:=ZbD h1
 obtain⟨x2,rfl,a2,b2⟩:=Zhd (f:=frC) (fun _ h=>Zw7 h) h2
 exact⟨⟨x0,x1,x2⟩,rfl,a0,a1,a2,b2⟩
end Go.Proofs.YtdfadihhfppjaaaGreatDoor
namespace Go.Proofs.YtdfadihhfppjaaaGreatDoor
open Go.RowKit
def u8D (c:UInt8):CD:=.lit (.int .u8 (c.toNat:Int))
def u8L (c:UInt8):List CD:=[u8D c]
def hys1C (xs:List Hy):List CD:=[XQ xs]
def ZwM (l:List (List Hy)):CD:=.sl (l.map hys1C)
structure Sm where
 kind:Int
 label:BA
 text:List BA
 proof:List BA
instance instInhSm:Inhabited Sm:=⟨⟨0,ByteArray.empty,[],[]⟩⟩
def stC (s:Sm):List CD:=[.lit (.int .i64 s.kind),.lit (.string s.label),Zg s.text,Zg s.proof]
def stsC (xs:List Sm):CD:=.sl (xs.map stC)
def u8sC (xs:List UInt8):CD:=.sl (xs.map u8L)
def ArrT (P:Program) (t e:TypeId) (n:Nat):Prop:=P.underlying t=some (.array n e)∧(∀ w,(sizeOf e).run P w= .ok 1 w)∧1<n
section
variable {n:Rn} {N:Nat} {P:Program} {J X:WP} {S S' S'':Nat→Prop} {O:List OB} {w0:World} {env:List (Nat×AV)} {Q:Exit→Act→WP}
variable {o:Oper} {a:Act} {w:World} {x y:Operand} {t e:TypeId} {b:Nat} {cs:List CD}
theorem Zbu {len:Nat} {k:IntKind} {i:Nat} (h1:ArrT P t e len) (hop:o.op= .indexAddr t x y) (h:Rel S' w (.at b 0) (a.eval x)) (hy:Rel S'' w (.lit (.int k (i:Int))) (a.eval y)) (hi:i<len) (hx:X w):Does n P o a w (YC S X (.at b i) w):=by
 obtain⟨h1,h2,h3⟩:=h1
 refine Zr (v:=.pointer (some ⟨b,i,none⟩)) ?_ (Rel.of_lit _) hx
 simp[execOp,hop,h.lit,hy.lit,Instr.indexAt,Instr.sureAddr,asIntOf,Sem.run_bind,run_underlying h1,h2 w,hi,Zck]
theorem ZoL {c:CD} {v:Value} {S:Nat→Prop} {w:World} (h:Rd S w c v):∀ k,RdL S w (List.replicate k c) (List.replicate k v)
 | 0=>trivial
 | k+1=>⟨h,ZoL h k⟩
theorem Zrs {len:Nat} (z:Value) (hz:∀ w,(zeroValue t).run P w= .ok z w) (he:z.cells.toList=List.replicate len (.int .u8 0)):ZdG P t ((List.replicate len (0:UInt8)).map u8D):=by
 refine⟨z,hz,fun S w=>?_⟩
 rw[he,List.map_replicate]
 exact ZoL (show Rd S w (u8D 0) (.int .u8 0)from .lit (.int .u8 0) True.intro) len
theorem Zhw {xs:List UInt8} {i:Nat} {c:UInt8} (hi:i<xs.length):(xs.map u8D).take i++[u8D c]++(xs.map u8D).drop (i+1)=(xs.set i c).map u8D:=by
 rw[List.set_eq_take_append_cons_drop,if_pos hi]
 simp
theorem ZxW {xs:List UInt8} {i:Nat} (hi:i<xs.length):(xs.map u8D)[i]?=some (u8D (ge xs i)):=by rw[List.getElem?_map,ZeX hi];rfl
theorem Zq6 {ds:List CD} {xs:List UInt8} (h:xs.length=ds.length):ds.take 0++xs.map u8D++ds.drop (0+(xs.map u8D).length)=xs.map u8D:=by
 simp[h]
theorem ZrQ {s d:TypeId} {k:Nat} (hs:P.underlying s=some (.int .i64)) (hd:P.underlying d=some (.int .u8)) (hop:o.op= .convert s d x) (h:Rel S' w (.int (k:Int)) (a.eval x)) (hk:k<256) (hx:X w):Does n P o a w (YC S X (.lit (.int .u8 ((UInt8.ofNat k).toNat:Int))) w):=by
 have hu:(UInt8.ofNat k).toNat=k:=by rw[UInt8.toNat_ofNat'];exact Nat.mod_eq_of_lt hk
 refine Zr (v:=.int .u8 ((UInt8.ofNat k).toNat:Int)) ?_ (Rel.of_lit _) hx
 rw[hu]
 have h256:(k:Int)%256=k:=by omega
 have hw:IntKind.u8.wrap (k:Int)=k:=by simp[IntKind.wrap,IntKind.bits,IntKind.signed];omega
 simp[execOp,hop,h.lit,convert,Conv.intToInt,Sem.run_bind,run_underlying hs,run_underlying hd,hw]
theorem Zan {k:Nat} {parts:Array (Nat×Operand)} {us:List Value} (ht:Yp P t e 1) (hz:ZfF P e 1) (hop:o.op= .buildSlice t k parts) (hp:(parts.map fun(i,x)=>(i,a.eval x)).toList=us.zipIdx.map fun p=>(p.2,p.1)) (h:RdL S w cs us) (hk:us.length=k) (hk0:0<k) (hk1:k≤1000) (hS:S w.heap.size) (hx:∀ w',Keeps All w w'→X w'):
 Does n P o a w (YC S X (.rd (.sl (cs.map fun c=>[c]))) w):=by
 obtain⟨z,hz,hzs,_⟩:=hz
 have hk':Keeps All w (w.alloc (.cells us.toArray e)):=(Keeps.refl _ _).alloc _
 have hf:=ZcQ (k:=k) (place:=fun i=>some (i*1,1)) (fun j _=>by simp) us 0 ((Array.range (k*1)).map (z.cells[· %z.cells.size]!)) yz oz h.one
 refine ZS (v:=.slice (some ⟨w.heap.size,0,none⟩) k k) (w':=w.alloc (.cells us.toArray e)) ?_ ⟨?_,hk',hx _ hk'⟩
 · have hpl:(parts.map fun(i,x)=>(i,a.eval x)).toList=us.zipIdx.map fun p=>(p.2,p.1):=hp
   have hd:((Array.range (k*1)).map (z.cells[· %z.cells.size]!)).toList.drop (0+us.length)=[]:=by
    apply List.drop_of_length_le;simp;omega
   rw[hd]at hf
   simp only[List.take_zero,List.nil_append,List.append_nil]at hf
   rw[execOp,hop]
   have hn:¬ (k*1>2^24):=by omega
   have hn0:¬ (k*1=0):=by omega
   simp only[Sem.run_bind,Instr.buildSlice,run_underlying ht.1,Result.andThen_ok,ht.2 w,if_neg hn,if_neg hn0,hz w,hpl]
   simp only[Nat.mul_one]at hf ⊢
   simp[newRow,newObj,Sem.run,hf]
 · simp only[Rel]
   have hlen:(cs.map fun c=>[c]).length=k:=by rw[List.length_map,←hk,h.length]
   rw[←hlen]
   refine Rd.of_cells (n:=1) (us:=us) nlr (by rw[hlen];simp only[maxLen];omega) yz hS (fun r hr=>by obtain⟨c,_,rfl⟩:=List.mem_map.1 hr;rfl) ?_ fun j u hj=>QS j u hj
   have:(cs.map fun c=>[c]).flatten=cs:=by
    clear hlen hf h hp
    induction cs with
    | nil=>rfl
    | cons c cs ih=>simp only[List.map_cons,List.flatten_cons,ih];rfl
   rw[this]
   exact h.keep hk' fun _ _ _=>trivial
theorem Q0 {v:Value} (h:Rel S w (.agg cs) v):∃ us:List Value,v= .agg us.toArray∧RdL S w cs us:=by simpa only[Rel]using h
theorem Zh6 (f:FuncId):Rel S w (.lit (.func (.func f) #[] #[])) (a.eval (.func f)):=Rel.of_lit _
theorem Zqd {f:FuncId} {v:Value} (h:Rel S' w (.lit (.func (.func f) #[] #[])) v):Rel S w (.fn f []) v:=by
 rw[h.lit];simp only[Rel,RelL];exact⟨[],rfl,rfl⟩
end
section
variable {n:Rn} {N:Nat} {P:Program} {J X:WP} {S S' S'':Nat→Prop} {O:List OB} {w0:World} {env:List (Nat×AV)} {Q:Exit→Act→WP}
variable {o:Oper} {a:Act} {w:World} {x y:Operand} {t e u:TypeId}
theorem Zlp (h1:P.underlying t=some (.slice e)) (hop:o.op= .call { callee:=.builtin .cap,args:= #[x],argTypes:= #[t] }) (h:Rel S' w (.lit (.slice none 0 0)) (a.eval x)) (hx:X w):Does n P o a w (YC S X (.int ((0:Nat):Int)) w):=by
 refine Zr (v:=.int .i64 0) ?_ (Rel.of_lit _) hx
 simp[execOp,hop,h.lit,resolve,invoke,builtin,Builtin.cap_,Sem.run_bind,run_underlying h1,goInt]
theorem Zlo (h1:P.underlying t=some (.slice e)) (hop:o.op= .call { callee:=.builtin .len,args:= #[x],argTypes:= #[t] }) (h:Rel S' w (.lit (.slice none 0 0)) (a.eval x)) (hx:X w):Does n P o a w (YC S X (.int ((0:Nat):Int)) w):=by
 refine Zr (v:=.int .i64 0) ?_ (Rel.of_lit _) hx
 simp[execOp,hop,h.lit,resolve,invoke,builtin,Builtin.len_,Sem.run_bind,run_underlying h1,goInt]
theorem ZrP {k:Nat} {v2:Operand} (h1:Yp P t e k) (hop:o.op= .slice t x none (some v2) none) (h:Rel S' w (.lit (.slice none 0 0)) (a.eval x)) (hy:Rel S'' w (.int ((0:Nat):Int)) (a.eval v2)) (hx:X w):Does n P o a w (YC S X (.lit (.slice none 0 0)) w):=by
 refine Zr (v:=.slice none 0 0) ?_ (Rel.of_lit _) hx
 simp[execOp,hop,h.lit,hy.lit,Instr.sliceAt,Instr.slice,Instr.sliceBounds,Instr.sliceBound,asIntOf,Sem.run_bind,run_underlying h1.1,h1.2 w]
theorem ZvM {ops:Array Oper} {rest:List Oper} {d:Nat} {size bytes m:Nat} (ht:Zjz P t e size bytes) (hu:P.underlying u=some (.int .i64)) (hJ:Stab J) (hg:o.guard=none) (hop:o.op= .call { callee:=.builtin .append,args:= #[x,y],argTypes:= #[t,u] }) (hd:o.dst=some d) (hN:d<N)
 (hm:0<m) (hb:m*bytes≤140737488355328) (h63:m≤9223372036854775807) (h1:∀ a w,So J S w0 N O env a w→Rel (SO S O) w (.lit (.slice none 0 0)) (a.eval x)∧Rel (SO S O) w (.int (m:Int)) (a.eval y))
 (next:∀ v a w,So J S w0 N (OB.row (Zaf v 0) e size []::O) ((d,.lit v)::Yn d env) a w→wpListIn n.F n.d P ops Q rest a w):
 ∀ a w,So J S w0 N O env a w→wpListIn n.F n.d P ops Q (o::rest) a w:=by
 refine Zc7 (O2:=fun v=>OB.row (Zaf v 0) e size []::O) (av:=fun v=>.lit v) hg hd hN (fun a w h=>?_) next
 obtain⟨ht,⟨i,z,hi,hz,his,hib,hzs⟩,hsz,hs⟩:=ht
 obtain⟨g1,g2⟩:=h1 a w h
 subst his
 subst hib
 have hn:m≠0:=by omega
 have hw64:IntKind.i64.wrap (m:Int)=m:=by
  have:=IntWalk.i64_in (m:Int) ⟨oz,oz⟩
  simp[IntKind.wrap,IntKind.bits,IntKind.signed];omega
 have hsize0:¬ m*i.size=0:=fun e=>by rcases Nat.mul_eq_zero.1 e with h | h<;>omega
 have hb':¬ (281474976710656< (m:Int)*(i.bytes:Int)):=by
  have:((m*i.bytes:Nat):Int)≤140737488355328:=by omega
  rw[Int.natCast_mul]at this;omega
 have h48':¬ (281474976710656<Builtin.nextslicecap m 0*i.bytes):=by rw[nextslicecap_zero hm];omega
 have hrun:(Builtin.append_ #[t,u] o.type #[.slice none 0 0,.int .i64 m]).run P w= .ok (.slice (some ⟨w.heap.size,0,none⟩) m (grownCap w m 0 e)) (w.drew.alloc (.cells (Builtin.zeroCells z.cells m++Builtin.zeroCells z.cells (grownCap w m 0 e-m)) e)):=by
  simp[Builtin.append_,run_underlying ht,run_underlying hu,sizeOf,typeInfo,zeroValue,hi,hz,hn,hsize0,hw64,asInt,asIntOf,h48',hb',Question.forced,newRow,grownCap,run_firstCells_none,show ¬ (9223372036854775807< (m:Int)) by omega]
  intro h9;omega
 have hge:=grownCap_ge w m 0 e
 have hcm:grownCap w m 0 e≤maxLen:=grownCap_le_maxLen w m 0 e (by simp only[maxLen];omega)
 have hk:Keeps All w (w.drew.alloc (.cells (Builtin.zeroCells z.cells m++Builtin.zeroCells z.cells (grownCap w m 0 e-m)) e)):=((Keeps.refl _ _).drew).alloc _
 refine ZS (v:=.slice (some ⟨w.heap.size,0,none⟩) m (grownCap w m 0 e)) (w':=_) ?_ ⟨.slice (some ⟨w.heap.size,0,none⟩) m (grownCap w m 0 e),X9 hJ h.keep h.x hk (fun b hb=>?_) ⟨[],⟨by simp,.inr ⟨w.heap.size,grownCap w m 0 e,_,rfl,h.keep.size,heap_alloc_new w.drew _,nzl,hcm,?_,by simp⟩⟩,trivial,fun r hr=>by cases hr⟩,Rel.of_lit _⟩
 · simp[execOp,hop,resolve,invoke,builtin,g1.lit,g2.lit,hrun,Result.andThen]
 · simp[OB.row,Zaf,Value.ownBlock]at hb;omega
 · simp only[Array.size_append,size_zeroCells,hzs,←Nat.add_mul]
   congr 1
   omega
end
end Go.Proofs.YtdfadihhfppjaaaGreatDoor
