/-
  Part of the proof that MinimizeChecks returns true. Conditions: none.
-/
import Derived.Test.YtdfadihhfppjaaaGreatDoorBEP
import Derived.Laws.Runes
import Derived.Laws.RangeString
import Derived.Laws.Strings3
import Derived.Deep.LoopGhost
import Derived.Lib.IndexAny
import Derived.Deep.QuietTactic
import Derived.WalkMore
import Derived.Test.YtdfadihhfppjaaaGreatDoorBEM
namespace Go.Proofs.YtdfadihhfppjaaaGreatDoor
open Go.Proofs.Tryz
open List (all_eq_true)
section
open Go.RowKit Go.Shelf Go.Lib
def dots:BA:=⟨#[45,95,46,63]⟩
theorem vW:∀ b∈dots.data.toList,b.toNat<128:=by decide
theorem vX (i:Nat) (h:i<dots.size):(dots[i]'h).toNat<128:=vW _ (Array.getElem_mem_toList (xs:=dots.data) h)
set_option maxHeartbeats 2000000 in
set_option maxRecDepth 1000000 in
theorem JN (w:World):Calls prog 268 #[.string dots,.int .i32 65533] w λe w'=>e= .returned (.int .i64 (-1))/\Below w.heap.size w w':=by
 obtain⟨s,hs⟩:∃ s,dots=s:=⟨_,rfl⟩
 have HA:Hid (∀(i:Nat) (h:i<s.size),(s[i]'h).toNat<128):=by rw[<-hs];exact vX
 rw[hs]
 clear hs
 go_enter func268,ntmps268
 go_wp2
 go_loopg [5,6] s.size (λg _ _ wx=>∃ i:Nat,i+g=s.size/\wx=w.iter s i)
 case atStart=>exact⟨0,oz,rfl⟩
 case round=>
  obtain⟨i,hig,rfl⟩:=hrel
  cases gk with
  | zero=>
   obtain rfl:i=s.size:=by omega
   have hnx:=run_next_end (P:=prog) w s s.size
   go_wp2
   go_ret
   exact⟨rfl,(Below.refl _ _).alloc aV _⟩
  | succ g=>
   have hi:i<s.size:=by omega
   obtain⟨x,Z⟩:∃ x:UInt8,s[i]'hi=x:=⟨_,rfl⟩
   have hx128:x.toNat<128:=by rw[<-Z];exact HA.out i hi
   have hnx:=λty=>run_next_ascii (P:=prog) w s i ty hi (by rw[Z];exact hx128)
   rw[Z]at hnx
   clear Z
   have hne:¬ ((x.toNat:Int)=65533):=by omega
   go_wp2
   go_roundg g
   case measure=>omega
   case rel=>exact⟨i+1,oz,rfl⟩
set_option maxHeartbeats 2000000 in
set_option maxRecDepth 1000000 in
theorem JO (r:Int) (w:World) (h0:128<=r) (h1:¬ r=65533) (hv:Lib.validRune r=false):Calls prog 268 #[.string dots,.int .i32 r] w λe w'=>e= .returned (.int .i64 (-1))/\w'=w:=by
 obtain⟨s,hs⟩:∃ s,dots=s:=⟨_,rfl⟩
 rw[hs]
 clear hs
 have h2:¬ r<128:=by omega
 have h3:(0:Int)<=r:=by omega
 go_enter func268,ntmps268
 go_wp2_with (go_at_call 271;refine(utf8_ValidRune _ _).mono ?_;rintro e w' ⟨rfl,hw⟩;rw[hw,hv])
 go_ret
 exact⟨rfl,rfl⟩
theorem AH {l:List UInt8} {c:UInt8} (hs:∀ b∈l,b.toNat<128) (hc:128<=c.toNat):Lib.indexByte l c<0:=by
 have:=Lib.contains_iff_indexByte l c
 have h2:l.contains c=false:=by
  rw[<-Bool.not_eq_true,List.contains_iff_mem]
  intro h
  have:=hs c h
  omega
 rw[h2]at this
 have:=of_decide_eq_false this.symm
 omega
theorem MV (r:Int) (h0:128<=r) (hv:Lib.validRune r=true):∃ n:Nat,(Utf8.encode r).size=n+1/\(n=1∨n=2∨n=3)/\∃ c:UInt8,(∀ h:n< (Utf8.encode r).size,(Utf8.encode r)[n]'h=c)/\128<=c.toNat:=by
 obtain⟨e1,e2,e3⟩:=encode_facts r (by rw[validRune_eq];exact hv) h0
 exact⟨(Utf8.encode r).size-1,oz,oz,_,λ_=>rfl,e3 oz⟩
set_option maxHeartbeats 4000000 in
set_option maxRecDepth 1000000 in
theorem JK (r:Int) (w:World) (h0:128<=r) (h1:¬ r=65533) (hv:Lib.validRune r=true) (t:BA) (ht:Utf8.encode r=t) (hk:t.size=2) (c:UInt8) (hc:∀ h:1<t.size,t[1]'h=c) (hc1:128<=c.toNat):Calls prog 268 #[.string dots,.int .i32 r] w λe w'=>e= .returned (.int .i64 (-1))/\Below w.heap.size w w':=by
 obtain⟨s,hs⟩:∃ s,dots=s:=⟨_,rfl⟩
 have hsz:s.size=4:=by rw[<-hs];rfl
 obtain⟨x,Z⟩:∃ x,s[1]'(by omega)=x:=⟨_,rfl⟩
 have hx1:x.toNat<128:=by subst hs;rw[<-Z];exact vX 1 dz
 have hIB:∃ m:Int,m<0/\∀ w,Calls prog 270 #[.string (s.extract 2 4),.int .u8 (c.toNat:Int)] w λe w'=>e= .returned (.int .i64 m)/\w'=w:=by
  refine⟨_,AH (l:=(s.extract 2 4).data.toList) (λb hb=>?_) hc1,λw=>?_⟩
  ·rw[<-hs]at hb;exact vW b (mem_extract hb)
  ·have:=strings_IndexByte (s.extract 2 4) (c.toNat:Int) w
   rwa [show((c.toNat:Int)).toNat.toUInt8=c by simp]at this
 obtain⟨m,hm,hIB⟩:=hIB
 have hcc:=hc oz
 rw[hs]
 clear hs hc
 have h2:¬ r<128:=by omega
 have h3:(0:Int)<=r:=by omega
 have hne:((x.toNat:Int)!= (c.toNat:Int))=true:=by simp;omega
 go_enter func268,ntmps268
 go_wp2_with (go_at_call 271;refine(utf8_ValidRune _ _).mono ?_;rintro e w' ⟨rfl,hw⟩;rw[hw,hv])
 go_step3
 go_wp2
 go_loopg [9,10] 1 (λ_ x9 _ wx=>x9= .int .i64 1/\wx=w)
 case atStart=>exact⟨rfl,rfl⟩
 case round=>
  obtain⟨rfl,rfl⟩:=hrel
  go_wp2
  go_step3
  go_wp2
  go_quiet (fail)
  go_wp2
  have hwr:IntKind.i64.wrap 2=2:=by decide
  go_quiet (exact(hIB _).mono λe w' h=>⟨h.1,_,h.2⟩)
  go_wp2
  simp only[Exit.noGoto_ret,Exit.inBlock,Exit.then]
  go_ret
  exact⟨rfl,below_drewNg _ _⟩
set_option maxHeartbeats 4000000 in
set_option maxRecDepth 1000000 in
theorem JL (r:Int) (w:World) (h0:128<=r) (h1:¬ r=65533) (hv:Lib.validRune r=true) (t:BA) (ht:Utf8.encode r=t) (hk:t.size=3) (c:UInt8) (hc:∀ h:2<t.size,t[2]'h=c) (hc1:128<=c.toNat):Calls prog 268 #[.string dots,.int .i32 r] w λe w'=>e= .returned (.int .i64 (-1))/\Below w.heap.size w w':=by
 obtain⟨s,hs⟩:∃ s,dots=s:=⟨_,rfl⟩
 have hsz:s.size=4:=by rw[<-hs];rfl
 obtain⟨x,Z⟩:∃ x,s[2]'(by omega)=x:=⟨_,rfl⟩
 have hx1:x.toNat<128:=by subst hs;rw[<-Z];exact vX 2 dz
 have hIB:∃ m:Int,m<0/\∀ w,Calls prog 270 #[.string (s.extract 3 4),.int .u8 (c.toNat:Int)] w λe w'=>e= .returned (.int .i64 m)/\w'=w:=by
  refine⟨_,AH (l:=(s.extract 3 4).data.toList) (λb hb=>?_) hc1,λw=>?_⟩
  ·rw[<-hs]at hb;exact vW b (mem_extract hb)
  ·have:=strings_IndexByte (s.extract 3 4) (c.toNat:Int) w
   rwa [show((c.toNat:Int)).toNat.toUInt8=c by simp]at this
 obtain⟨m,hm,hIB⟩:=hIB
 have hcc:=hc oz
 rw[hs]
 clear hs hc
 have h2:¬ r<128:=by omega
 have h3:(0:Int)<=r:=by omega
 have hne:((x.toNat:Int)!= (c.toNat:Int))=true:=by simp;omega
 go_enter func268,ntmps268
 go_wp2_with (go_at_call 271;refine(utf8_ValidRune _ _).mono ?_;rintro e w' ⟨rfl,hw⟩;rw[hw,hv])
 go_step3
 go_wp2
 go_loopg [9,10] 1 (λ_ x9 _ wx=>x9= .int .i64 2/\wx=w)
 case atStart=>exact⟨rfl,rfl⟩
 case round=>
  obtain⟨rfl,rfl⟩:=hrel
  go_wp2
  go_step3
  go_wp2
  go_quiet (fail)
  go_wp2
  have hwr:IntKind.i64.wrap 3=3:=by decide
  go_quiet (exact(hIB _).mono λe w' h=>⟨h.1,_,h.2⟩)
  go_wp2
  simp only[Exit.noGoto_ret,Exit.inBlock,Exit.then]
  go_ret
  exact⟨rfl,below_drewNg _ _⟩
set_option maxHeartbeats 4000000 in
set_option maxRecDepth 1000000 in
theorem JM (r:Int) (w:World) (h0:128<=r) (h1:¬ r=65533) (hv:Lib.validRune r=true) (t:BA) (ht:Utf8.encode r=t) (hk:t.size=4) (c:UInt8) (hc:∀ h:3<t.size,t[3]'h=c) (hc1:128<=c.toNat):Calls prog 268 #[.string dots,.int .i32 r] w λe w'=>e= .returned (.int .i64 (-1))/\Below w.heap.size w w':=by
 obtain⟨s,hs⟩:∃ s,dots=s:=⟨_,rfl⟩
 have hsz:s.size=4:=by rw[<-hs];rfl
 obtain⟨x,Z⟩:∃ x,s[3]'(by omega)=x:=⟨_,rfl⟩
 have hx1:x.toNat<128:=by subst hs;rw[<-Z];exact vX 3 dz
 have hIB:∃ m:Int,m<0/\∀ w,Calls prog 270 #[.string (s.extract 4 4),.int .u8 (c.toNat:Int)] w λe w'=>e= .returned (.int .i64 m)/\w'=w:=by
  refine⟨_,AH (l:=(s.extract 4 4).data.toList) (λb hb=>?_) hc1,λw=>?_⟩
  ·rw[<-hs]at hb;exact vW b (mem_extract hb)
  ·have:=strings_IndexByte (s.extract 4 4) (c.toNat:Int) w
   rwa [show((c.toNat:Int)).toNat.toUInt8=c by simp]at this
 obtain⟨m,hm,hIB⟩:=hIB
 have E5:=hIB
 rw[show s.extract 4 4=ByteArray.empty by simp]at E5
 have hcc:=hc oz
 rw[hs]
 clear hs hc
 have h2:¬ r<128:=by omega
 have h3:(0:Int)<=r:=by omega
 have hne:((x.toNat:Int)!= (c.toNat:Int))=true:=by simp;omega
 go_enter func268,ntmps268
 go_wp2_with (go_at_call 271;refine(utf8_ValidRune _ _).mono ?_;rintro e w' ⟨rfl,hw⟩;rw[hw,hv])
 go_step3
 go_wp2
 go_loopg [9,10] 1 (λ_ x9 _ wx=>x9= .int .i64 3/\wx=w)
 case atStart=>exact⟨rfl,rfl⟩
 case round=>
  obtain⟨rfl,rfl⟩:=hrel
  go_wp2
  go_step3
  go_wp2
  go_quiet (fail)
  go_wp2
  have hwr:IntKind.i64.wrap 4=4:=by decide
  go_quiet (exact(E5 _).mono λe w' h=>⟨h.1,_,h.2⟩)
  go_wp2
  simp only[Exit.noGoto_ret,Exit.inBlock,Exit.then]
  go_ret
  exact⟨rfl,below_drewNg _ _⟩
theorem JJ (r:Int) (w:World) (h0:128<=r):Calls prog 268 #[.string dots,.int .i32 r] w λe w'=>e= .returned (.int .i64 (-1))/\Below w.heap.size w w':=by
 by_cases h1:r=65533
 ·subst h1;exact JN w
 cases hv:Lib.validRune r with
 | false=>exact(JO r w h0 h1 hv).mono λe w' h=>⟨h.1,h.2▸Below.refl _ _⟩
 | true=>
  obtain⟨n,hn,hk,c,hc,hc1⟩:=MV r h0 hv
  rcases hk with rfl | rfl | rfl
  ·exact JK r w h0 h1 hv _ rfl hn c hc hc1
  ·exact JL r w h0 h1 hv _ rfl hn c hc hc1
  ·exact JM r w h0 h1 hv _ rfl hn c hc hc1
set_option maxHeartbeats 1000000 in
set_option maxRecDepth 1000000 in
theorem JI (r:Int) (w:World) (h0:128<=r):Calls prog 266 #[.string dots,.int .i32 r] w λe w'=>e= .returned (.bool false)/\Below w.heap.size w w':=by
 obtain⟨s,hs⟩:∃ s,dots=s:=⟨_,rfl⟩
 have hI:=JJ r w h0
 rw[hs]at hI ⊢
 clear hs
 go_enter func266,ntmps266
 go_wp2_with (go_at_call 268;refine hI.mono ?_;rintro e w' ⟨rfl,hb⟩)
 go_ret
 exact⟨rfl,hb⟩
def lu (x:Nat):Bool:=!(((decide (97<=x/\x<=122)||decide (65<=x/\x<=90))||decide (48<=x/\x<=57))|| (decide (x<128)&&dots.data.toList.contains x.toUInt8))
set_option maxHeartbeats 4000000 in
set_option maxRecDepth 1000000 in
theorem Qc (x:Nat) (w:World):Calls prog 265 #[.int .i32 (x:Int)] w λe w'=>e= .returned (.bool (lu x))/\Below w.heap.size w w':=by
 have hC:∃ b,(x<128->b=dots.data.toList.contains x.toUInt8)/\(128<=x->b=false)/\∀ w,Calls prog 266 #[.string ⟨#[45,95,46,63]⟩,.int .i32 (x:Int)] w λe w'=>e= .returned (.bool b)/\Below w.heap.size w w':=by
  by_cases h:x<128
  ·refine⟨dots.data.toList.contains x.toUInt8,λ_=>rfl,λh'=>by omega,λw=>?_⟩
   have:=strings_ContainsRune_ascii dots (x:Int) w oz oz
   rw[show((x:Int)).toNat.toUInt8=x.toUInt8 by simp,<-Lib.contains_iff_indexByte]at this
   exact this.mono λe w' h=>⟨h.1,h.2▸Below.refl _ _⟩
  ·exact⟨false,λh'=>absurd h' h,λ_=>rfl,λw=>JI x w oz⟩
 obtain⟨b,hb1,hb2,hC⟩:=hC
 have hspec:lu x= !(((decide (97<=x/\x<=122)||decide (65<=x/\x<=90))||decide (48<=x/\x<=57))||b):=by
  unfold lu
  by_cases h:x<128
  ·rw[hb1 h];simp[h]
  ·rw[hb2 oz];simp[h]
 rw[hspec]
 clear hspec hb1 hb2
 have HC:=hC w
 clear hC
 go_enter func265,ntmps265
 by_cases c1:97<=x<;>by_cases c2:x<=122<;>by_cases c3:65<=x<;>by_cases c4:x<=90<;>by_cases c5:48<=x<;>by_cases c6:x<=57
 all_goals first | (exfalso;omega) | skip
 all_goals
  go_wp2_with (go_at_call 266;refine HC.mono ?_;rintro e w' ⟨rfl,hb⟩)
  go_ret
  exact⟨by first | (simp[c1,c2,c3,c4,c5,c6];done) | (simp[c1,c2,c3,c4,c5,c6];omega),by first | exact hb | exact Below.refl _ _⟩
end
section
open Go.RowKit Go.Shelf Go.Lib
theorem CZ {x:Nat} (h:128<=x):lu x=true:=by
 simp[lu,show ¬ x<128 by omega,show ¬ x<=122 by omega,show ¬ x<=90 by omega,show ¬ x<=57 by omega]
def nH (c:UInt8):Bool:=(!decide ((c.toNat:Int)=(63:Int)))&&lr c
theorem Ka:∀ n:Fin 256,lu (UInt8.ofNat n).toNat=nH (UInt8.ofNat n):=by decide+kernel
theorem C0 (c:UInt8):lu c.toNat=nH c:=by
 have:=Ka ⟨c.toNat,c.toNat_lt⟩
 simpa using this
theorem Qv {s:BA} {k:Nat} (hk:k<s.size):ga (s.extract k (k+1))= !lr (bt s k):=by
 have hl:(s.extract k (k+1)).data.toList=[bt s k]:=by
  rw[ByteArray.data_extract,Array.toList_extract]
  have h1:k<s.data.toList.length:=by rw[ua];exact hk
  rw[List.extract_eq_take_drop,show k+1-k=1 by omega,List.drop_eq_getElem_cons h1,List.take_succ_cons,List.take_zero,bt,cF h1]
 have hz:(s.extract k (k+1)).size=1:=by rw[<-ua,hl];rfl
 have hne:¬ s.extract k (k+1)=⟨#[]⟩:=λe=>by rw[e]at hz;exact absurd hz dz
 unfold ga
 rw[hl,hz]
 simp[hne]
theorem CY {s:BA} {k:Nat} (hk:k<s.size):mF s k=nH (bt s k):=by
 rw[mF,Qv hk,Bool.not_not,nH]
theorem Dc {s:BA} {k:Nat} (hk:k<s.size):s[k]'hk=bt s k:=by
 have h1:k<s.data.toList.length:=by rw[ua];exact hk
 rw[bt,cF h1]
 rfl
theorem L3 (s:BA) (k:Nat) (hk:k<s.size) (h:128<=(s[k]'hk).toNat):128<=(Utf8.decode s k).1:=by
 have h0:(s.get! (k+0)).toNat=(s[k]'hk).toNat:=by
  rw[show s.get! (k+0)=s[k]'hk by show s.get! k=_;simp[ByteArray.get!,getElem!_pos,hk];rfl]
 unfold Utf8.decode
 simp only[Utf8.runeError]
 rw[if_neg oz]
 repeat' split
 all_goals first | (simp;done) | (simp_all;done) | (simp_all;omega)
theorem zw {s:BA} {l:Array UInt8}:decide (s=⟨l⟩)=decide (s.toList=l.toList):=by
 rw[Bool.eq_iff_iff,decide_eq_true_eq,decide_eq_true_eq,ByteArray.toList_eq]
 exact⟨λh=>by rw[h],λh=>ByteArray.ext (Array.toList_inj.1 h)⟩
theorem FQ (s:BA):∀(f pos:Nat),s.size<=pos+f->(0<=Lib.idxFuncFrom lu true s f pos↔ ∃ k,pos<=k/\k<s.size/\nH (bt s k)=true)
 | 0,pos,h=>by
  simp only[Lib.idxFuncFrom]
  constructor
  ·intro h;omega
  ·rintro⟨k,h1,h2,_⟩;omega
 | f+1,pos,h=>by
  simp only[Lib.idxFuncFrom]
  by_cases hp:pos<s.size
  ·rw[if_pos hp]
   by_cases ha:(s[pos]'hp).toNat<128
   ·rw[decode_ascii s pos hp ha]
    have e:lu (s[pos]'hp).toNat=nH (bt s pos):=by rw[C0,Dc hp]
    simp only[e]
    by_cases hb:nH (bt s pos)=true
    ·rw[if_pos hb]
     exact⟨λ_=>⟨pos,Nat.le_refl _,hp,hb⟩,λ_=>Int.natCast_nonneg _⟩
    ·rw[if_neg hb,FQ s f (pos+1) oz]
     constructor
     ·rintro⟨k,h1,h2,h3⟩;exact⟨k,oz,h2,h3⟩
     ·rintro⟨k,h1,h2,h3⟩
      refine⟨k,?_,h2,h3⟩
      by_cases e:k=pos
      ·subst e;exact absurd h3 hb
      ·omega
   ·have e:nH (bt s pos)=true:=by
     rw[<-C0,<-Dc hp];exact CZ oz
    rw[if_pos (CZ (L3 s pos hp oz))]
    exact⟨λ_=>⟨pos,Nat.le_refl _,hp,e⟩,λ_=>Int.natCast_nonneg _⟩
  ·rw[if_neg hp]
   constructor
   ·intro h;omega
   ·rintro⟨k,h1,h2,_⟩;omega
theorem P8 (s:BA):(!decide (0<=Lib.idxFunc lu true s))=(List.range s.size).all λk=>!mF s k:=by
 have:=FQ s s.size 0 oz
 rw[<-Lib.idxFunc]at this
 rw[Bool.eq_iff_iff,Bool.not_eq_true',decide_eq_false_iff_not,this,all_eq_true]
 constructor
 ·intro h k hk
  have hk':k<s.size:=by simpa using hk
  rw[CY hk']
  cases hb:nH (bt s k)with
  | false=>rfl
  | true=>exact absurd ⟨k,aI,hk',hb⟩ h
 ·rintro h ⟨k,_,h2,h3⟩
  have:=h k (by simpa using h2)
  rw[CY h2,h3]at this
  exact absurd this dz
set_option maxHeartbeats 2000000 in
set_option maxRecDepth 1000000 in
theorem Qd (s:BA) (w:World):Calls prog 261 #[.string s] w λe w'=>e= .returned (.bool (fy s))/\Below w.heap.size w w':=by
 have hF:=strings_ContainsFunc_grows 265 #[] (Dy func265 rfl rfl) lu s w λW x _ _=>Qc x W
 obtain⟨b,hb⟩:∃ b,decide (0<=Lib.idxFunc lu true s)=b:=⟨_,rfl⟩
 have hspec:fy s=((decide (s.toList=[40])||decide (s.toList=[41]))|| (!b&& !decide (s.toList=[]))):=by
  rw[fy,<-P8,hb,zw,zw,zw]
 rw[hb]at hF
 rw[hspec]
 clear hspec hb
 go_enter func261,ntmps261
 go_wp2_with (go_at_call 264;refine hF.mono ?_;rintro e w' ⟨rfl,hb⟩)
 all_goals
  go_ret
  exact⟨by simp_all,by first | exact hb | exact Below.refl _ _⟩
end
section
open Go.RowKit
structure gz (P:Program) where
 one:Nat->Bool
 agg:Nat->Nat
 zD:Nat->Nat->Option Nat
 h1:∀ t,one t=true->eu P t
 h2:∀ t k,agg t=k+1->fY P t (k+1)
 h3:∀ s f d,zD s f=some d->db P s f d
 mix:P.follows .mixedOrders=true
def oI:AV->Bool
 | .rd (.lit (.bool b))=>b
 | _=>false
def FU:AV->Bool
 | .rd (.lit (.bool _))=>true
 | _=>false
theorem Qa:∀ {x:AV},FU x=true->x= .bool (oI x)
 | .rd (.lit (.bool _)),_=>rfl
def AU:AV->Bool
 | .rd (.lit _)=>true
 | _=>false
theorem QK:∀ {x:AV},AU x=true->∃ v,x= .lit v
 | .rd (.lit v),_=>⟨v,rfl⟩
def gA (l:List AV):Nat->AV:=λi=>l.getD i .any
def mV (l:List Oper) (i:Nat):Option (Nat×Bool):=(l[i]?).bind (·.guard)
def mL (l:List Oper) (am:Nat->AV):Nat->Nat->Bool
 | 0,_=>true
 | f+1,i=>match mV l i with
  | none=>true
  | some q=>mL l am f q.1&& (oI (am q.1)==q.2)
def cnd (l:List Oper) (am:Nat->AV) (i:Nat):Bool:=mL l am (i+1) i
def rF (l:List Oper):Nat->Nat->List (Nat×Bool)
 | 0,_=>[]
 | f+1,i=>match mV l i with
  | none=>[]
  | some q=>q::rF l f q.1
def rE (l:List Oper):Bool:=l.zipIdx.all λx=>match x.1.guard with | none=>true | some q=>Nat.blt q.1 x.2
theorem EV {l:List Oper} (h:rE l=true) {i:Nat} {q:Nat×Bool} (hq:mV l i=some q):q.1<i:=by
 unfold mV at hq
 cases hi:l[i]? with
 | none=>rw[hi]at hq;cases hq
 | some o=>
  rw[hi]at hq
  have hg:o.guard=some q:=hq
  have:=all_eq_true.1 h (o,i) (by rw[List.mem_zipIdx_iff_getElem?];simpa using hi)
  simp only[hg]at this
  exact of_eq_true (Nat.blt_eq▸eq_true this)
theorem LL {l:List Oper} (h:rE l=true) (am:Nat->AV):∀ i f,i+1<=f->mL l am f i=mL l am (i+1) i:=by
 intro i
 induction i using Nat.strongRecOn with
 | ind i ih=>
  intro f hf
  obtain⟨f,rfl⟩:∃ f',f=f'+1:=⟨f-1,oz⟩
  unfold mL
  cases hg:mV l i with
  | none=>rfl
  | some q=>
   have hq:=EV h hg
   simp only
   rw[ih q.1 hq f oz,ih q.1 hq i oz]
theorem LM {l:List Oper} (h:rE l=true) (am:Nat->AV) {i:Nat} {q:Nat×Bool} (hq:mV l i=some q):cnd l am i=(cnd l am q.1&& (oI (am q.1)==q.2)):=by
 have hlt:=EV h hq
 rw[cnd,mL,hq]
 simp only
 rw[LL h am q.1 i oz]
 rfl
theorem LN {l:List Oper} (am:Nat->AV) {i:Nat} (hq:mV l i=none):cnd l am i=true:=by
 rw[cnd,mL,hq]
theorem y6 {l:List Oper} {am:Nat->AV}:∀ f i,mL l am f i=true↔ ∀ q∈rF l f i,(oI (am q.1)==q.2)=true
 | 0,i=>by simp[mL,rF]
 | f+1,i=>by
  rw[mL,rF]
  cases mV l i with
  | none=>simp
  | some q=>
   simp only[Bool.and_eq_true,List.mem_cons,forall_eq_or_imp]
   rw[y6 f q.1]
   exact And.comm
def BT (q r:Nat×Bool):Bool:=Nat.beq q.1 r.1&&cond q.2 r.2 (!r.2)
theorem Vd {q r:Nat×Bool} (h:BT q r=true):q=r:=by
 obtain⟨a,b⟩:=q
 obtain⟨c,d⟩:=r
 simp only[BT,Bool.and_eq_true]at h
 obtain rfl:=Nat.eq_of_beq_eq_true h.1
 cases b<;>cases d<;>simp_all
def imp (l:List Oper) (ex:List (Nat×Bool)) (i j:Nat):Bool:=(rF l (j+1) j).all λq=>(ex++rF l (i+1) i).any λr=>BT q r
theorem P9 {l:List Oper} {am:Nat->AV} {ex:List (Nat×Bool)} {i j:Nat} (h:imp l ex i j=true) (hc:cnd l am i=true) (hex:∀ q∈ex,(oI (am q.1)==q.2)=true):cnd l am j=true:=by
 refine(y6 _ _).2 λq hq=>?_
 obtain⟨r,hr,he⟩:=List.any_eq_true.1 (all_eq_true.1 h q hq)
 rw[Vd he]
 rcases List.mem_append.1 hr with hr | hr
 ·exact hex r hr
 ·exact(y6 _ _).1 hc r hr
def nk (s:Nat):List Oper->Nat->Nat->Option Nat
 | [],_,_=>none
 | _::_,_,0=>none
 | o::r,k,n+1=>match o.dst with
  | some d=>cond (Nat.beq d s) (some k) (nk s r (k+1) n)
  | none=>nk s r (k+1) n
theorem HI {s:Nat}:∀ {l:List Oper} {k n j:Nat},nk s l k n=some j->∃ o,k<=j/\l[j-k]?=some o/\o.dst=some s
 | [],_,_,_,h=>by cases h
 | _::_,_,0,_,h=>by cases h
 | o::r,k,n+1,j,h=>by
  rw[nk]at h
  have key:nk s r (k+1) n=some j->∃ o',k<=j/\(o::r)[j-k]?=some o'/\o'.dst=some s:=λh=>by
   obtain⟨o',h1,h2,h3⟩:=HI h
   exact⟨o',oz,by rw[show j-k=j-(k+1)+1 by omega];exact h2,h3⟩
  split at h
  ·rename_i d hd
   cases hb:Nat.beq d s with
   | true=>
    rw[hb]at h
    simp only[cond_true,Option.some.injEq]at h
    subst h
    exact⟨o,Nat.le_refl _,by simp,by rw[hd,Nat.eq_of_beq_eq_true hb]⟩
   | false=>
    rw[hb]at h
    exact key h
  ·exact key h
def rW:List (Nat×AV)->Nat->Option AV
 | [],_=>none
 | (k,x)::r,s=>cond (Nat.beq k s) (some x) (rW r s)
theorem AW:∀ {env:List (Nat×AV)} {s:Nat} {av:AV},rW env s=some av->∃ m:Nat,env[m]?=some (s,av)
 | [],_,_,h=>by cases h
 | (q,x)::r,s,av,h=>by
  rw[rW]at h
  cases hb:Nat.beq q s with
  | true=>
   rw[hb]at h
   simp only[cond_true,Option.some.injEq]at h
   exact⟨0,by rw[<-h,<-Nat.eq_of_beq_eq_true hb];rfl⟩
  | false=>
   rw[hb]at h
   obtain⟨m,hm⟩:=AW h
   exact⟨m+1,by simpa using hm⟩
def t7:Value->Option AV
 | .string s=>cond (Nat.ble s.size maxLen) (some (.str s)) none
 | .agg _=>none
 | .tuple _=>none
 | v=>some (.lit v)
theorem F1 {S:Nat->Prop} {w:World} {v:Value} {av:AV} (h:t7 v=some av):Rel S w av v:=by
 unfold t7 at h
 split at h
 ·rename_i s
  cases hb:Nat.ble s.size maxLen with
  | true=>
   rw[hb]at h
   simp only[cond_true,Option.some.injEq]at h
   rw[<-h]
   exact Rel.aH _ (Nat.le_of_ble_eq_true hb)
  | false=>rw[hb]at h;cases h
 ·cases h
 ·cases h
 ·rename_i h1 h2 h3
  cases h
  refine Rel.aH _ ?_
  cases v<;>first | exact True.intro | exact(h1 _ rfl).elim | exact(h2 _ rfl).elim | exact(h3 _ rfl).elim
def ug:List AV->Nat->Option AV
 | [],_=>none
 | x::_,0=>some x
 | _::r,n+1=>ug r n
theorem Be:∀ {l:List AV} {n:Nat} {x:AV},ug l n=some x->gA l n=x
 | [],_,_,h=>by cases h
 | x::_,0,_,h=>by cases h;rfl
 | _::r,n+1,x,h=>by
  have:=Be (l:=r) (n:=n) (x:=x) h
  simpa [gA]using this
def rdv (env:List (Nat×AV)) (l:List Oper) (am:Nat->AV) (ex:List (Nat×Bool)) (i:Nat) (dp:List Nat):Operand->Option AV
 | .const v=>t7 v
 | .func f=>some (.fn f [])
 | .tmp s=>match nk s l 0 i with
  | some j=>cond (dp.contains j&&imp l ex i j) (some (am j)) none
  | none=>cond (tF l i s) (rW env s) none
 | _=>none
def BJ (env:List (Nat×AV)) (l:List Oper) (al:List AV) (ex:List (Nat×Bool)) (i:Nat) (dp:List Nat):Operand->Option AV
 | .const v=>t7 v
 | .func f=>some (.fn f [])
 | .tmp s=>match nk s l 0 i with
  | some j=>cond (dp.contains j&&imp l ex i j) (ug al j) none
  | none=>cond (tF l i s) (rW env s) none
 | _=>none
theorem BK {env:List (Nat×AV)} {l:List Oper} {al:List AV} {ex:List (Nat×Bool)} {i:Nat} {dp:List Nat} {x:Operand} {av:AV} (h:BJ env l al ex i dp x=some av):rdv env l (gA al) ex i dp x=some av:=by
 unfold BJ at h
 unfold rdv
 split at h
 ·exact h
 ·exact h
 ·split at h
  ·rename_i j hj
   cases hb:(dp.contains j&&imp l ex i j)with
   | false=>rw[hb]at h;cases h
   | true=>rw[hb]at h;exact congrArg some (Be h)
  ·exact h
 ·cases h
section
variable {n:Rn} {P:Program} {K S1 S:Nat->Prop} {w0:World} {N:Nat} {env:List (Nat×AV)} {X:WP} {l:List Oper} {am:Nat->AV} {a:Act} {w:World} {o:Oper} {i:Nat}
theorem BL {ex:List (Nat×Bool)} (hl:Look S w env l am (cnd l am) i a) (hi:l[i]?=some o) (hc:cnd l am i=true) (hex:∀ q∈ex,(oI (am q.1)==q.2)=true) {x:Operand} {av:AV} (h:rdv env l am ex i (cp o) x=some av):Rel S w av (a.eval x):=by
 unfold rdv at h
 split at h
 ·exact F1 h
 ·cases h
  exact np _
 ·rename_i s
  split at h
  ·rename_i j hj
   obtain⟨p,_,hp,hd⟩:=HI hj
   cases hb:((cp o).contains j&&imp l ex i j)with
   | false=>rw[hb]at h;cases h
   | true=>
    rw[hb]at h
    simp only[cond_true,Option.some.injEq]at h
    rw[Bool.and_eq_true]at hb
    rw[<-h]
    exact hl.dep j s p (by simpa using hp) hd (by rw[hi];exact hb.1) (P9 hb.2 hc hex)
  ·cases hb:tF l i s with
   | false=>rw[hb]at h;cases h
   | true=>
    rw[hb]at h
    obtain⟨m,hm⟩:=AW h
    exact hl.env m s av hm hb
 ·cases h
def DC:CD->AV
 | .ptr cs=>.ptr cs
 | c=>.rd c
def Qe:CD->Bool
 | .ptr _=>true
 | _=>false
def TS:CD->Option AV
 | .ptr cs=>some (.ptr cs)
 | _=>none
def Ga (c:CD):Option AV:=cond (Qe c) (TS c) (some (.rd c))
theorem QN (c:CD):Ga c=some (DC c):=by cases c<;>rfl
def zg:Nat->List CD->Option AV
 | 0,cs=>some (.ptr cs)
 | d+1,_::cs=>zg d cs
 | _+1,[]=>none
theorem D4:∀ {d:Nat} {cs:List CD} {av:AV},zg d cs=some av->av= .ptr (cs.drop d)
 | 0,_,_,h=>by cases h;rfl
 | d+1,_::cs,_,h=>by rw[List.drop_succ_cons];exact D4 (d:=d) (cs:=cs) h
 | _+1,[],_,h=>by cases h
def Cc (k:Nat) (cs:List CD):Option AV:=cond (Nat.beq cs.length k) (some (.agg cs)) (cond (Nat.ble k cs.length) (some (.agg (cs.take k))) none)
theorem Wl {k:Nat} {cs:List CD} {av:AV} (h:Cc k cs=some av):k<=cs.length/\av= .agg (cs.take k):=by
 unfold Cc at h
 cases hb:Nat.beq cs.length k with
 | true=>
  rw[hb]at h
  cases h
  have:=Nat.eq_of_beq_eq_true hb
  exact⟨Nat.le_of_eq this.symm,by rw[<-this,List.take_length]⟩
 | false=>
  rw[hb]at h
  cases hc:Nat.ble k cs.length with
  | false=>rw[hc]at h;cases h
  | true=>rw[hc]at h;cases h;exact⟨Nat.le_of_ble_eq_true hc,rfl⟩
def vM (i j:Int):BinOp->Option AV
 | .lss=>some (.bool (decide (i<j)))
 | .leq=>some (.bool (decide (i<=j)))
 | .gtr=>some (.bool (decide (j<i)))
 | .geq=>some (.bool (decide (j<=i)))
 | .eql=>some (.bool (decide (i=j)))
 | .neq=>some (.bool (!decide (i=j)))
 | _=>none
def DK (i j:BA):BinOp->Option AV
 | .lss=>some (.bool (Op.bytesLess i.toList j.toList))
 | .geq=>some (.bool (!Op.bytesLess i.toList j.toList))
 | .eql=>some (.bool (decide (i=j)))
 | .neq=>some (.bool (!decide (i=j)))
 | _=>none
def y0 (op:BinOp):Option AV->Option AV->Option AV
 | some (.rd (.lit (.int .i64 i))),some (.rd (.lit (.int .i64 j)))=>vM i j op
 | some (.rd (.lit (.int .u8 i))),some (.rd (.lit (.int .u8 j)))=>vM i j op
 | some (.rd (.lit (.string s))),some (.rd (.lit (.string t)))=>DK s t op
 | _,_=>none
def CR:Option AV->Option AV->Option AV
 | some (.rd (.lit (.bool g))),some (.rd (.lit (.bool b)))=>some (.bool (g&&b))
 | _,_=>none
def GT:Option AV->Option AV->Option AV
 | some (.rd (.lit (.bool g))),some (.rd (.lit (.bool b)))=>some (.bool (g||b))
 | _,_=>none
def AK (l:List Oper) (i:Nat):Operand->Nat
 | .tmp s=>match nk s l 0 i with | some j=>j | none=>0
 | _=>0
def GK (l:List Oper) (i:Nat) (dp:List Nat):Operand->Bool
 | .tmp s=>match nk s l 0 i with | some j=>dp.contains j | none=>false
 | _=>false
def ev (T:gz P) (rd:List (Nat×Bool)->Operand->Option AV) (jo:Operand->Nat) (ro:Operand->Bool):Op->Option AV
 | .move x=>rd [] x
 | .assign x=>rd [] x
 | .nilCheck x=>match rd [] x with
  | some (.ptr cs)=>some (.ptr cs)
  | _=>none
 | .fieldAddr t x f=>match rd [] x with
  | some (.ptr cs)=>match T.zD t f with
   | some d=>zg d cs
   | none=>none
  | _=>none
 | .load t x=>match rd [] x with
  | some (.ptr cs)=>match T.one t with
   | true=>match cs with
    | c::_=>Ga c
    | []=>none
   | false=>match T.agg t with
    | 0=>none
    | k+1=>Cc (k+1) cs
  | _=>none
 | .extract x k=>match rd [] x with
  | some (.bF l)=>l[k]?
  | _=>none
 | .unOp .not _ x=>match rd [] x with
  | some (.rd (.lit (.bool g)))=>some (.bool (!g))
  | _=>none
 | .binOp op _ x y _=>y0 op (rd [] x) (rd [] y)
 | .pick z x (.const (.bool false))=>cond (ro z) (CR (rd [] z) (rd [(jo z,true)] x)) none
 | .pick z (.const (.bool true)) y=>cond (ro z) (GT (rd [] z) (rd [(jo z,false)] y)) none
 | _=>none
def D8 (T:gz P) (env:List (Nat×AV)) (l:List Oper) (al:List AV) (i:Nat) (o:Oper):Option AV:=ev T (λex x=>BJ env l al ex i (cp o) x) (AK l i) (GK l i (cp o)) o.op
theorem Lp {c:CD} {v:Value} (h:Rel S w (.rd c) v):Rel S w (DC c) v:=by
 cases c with
 | lit u=>exact h
 | sl r=>exact h
 | ptr cs=>exact Bw.1 h
theorem LJ {op:BinOp} {x y:Operand} {t u:TypeId} {a1 a2:Option AV} {av:AV} (hop:o.op= .binOp op t x y u) (h:y0 op a1 a2=some av) (h1:∀ b,a1=some b->Rel S w b (a.eval x)) (h2:∀ b,a2=some b->Rel S w b (a.eval y)) (Z:X w):Does n P o a w (bG S X av w):=by
 unfold y0 at h
 split at h
 ·have g1:=h1 _ rfl
  have g2:=h2 _ rfl
  cases op<;>simp only[vM,Option.some.injEq,reduceCtorEq]at h<;>subst h
  all_goals first | exact BD hop g1 g2 Z | exact H2 hop g1 g2 Z | exact H0 hop g1 g2 Z | exact HZ hop g1 g2 Z | exact HT hop g1 g2 Z | exact H4 hop g1 g2 Z
 ·have g1:=h1 _ rfl
  have g2:=h2 _ rfl
  cases op<;>simp only[vM,Option.some.injEq,reduceCtorEq]at h<;>subst h
  all_goals first | exact BD hop g1 g2 Z | exact H2 hop g1 g2 Z | exact H0 hop g1 g2 Z | exact HZ hop g1 g2 Z | exact HT hop g1 g2 Z | exact H4 hop g1 g2 Z
 ·have g1:=h1 _ rfl
  have g2:=h2 _ rfl
  cases op<;>simp only[DK,Option.some.injEq,reduceCtorEq]at h<;>subst h
  all_goals first | exact Uh hop g1 g2 Z | exact T9 hop g1 g2 Z | exact T8 hop g1 g2 Z | exact Ui hop g1 g2 Z
 ·cases h
theorem D9 (T:gz P) {rd:List (Nat×Bool)->Operand->Option AV} {jo:Operand->Nat} {ro:Operand->Bool} {av:AV} (h:ev T rd jo ro o.op=some av) (hr:∀ x b,rd [] x=some b->Rel S w b (a.eval x))
 (hj:∀ z g,ro z=true->rd [] z=some (.bool g)->∀ x b,rd [(jo z,g)] x=some b->Rel S w b (a.eval x)) (Z:X w):Does n P o a w (bG S X av w):=by
 generalize hop:o.op=p at h
 unfold ev at h
 split at h
 ·exact b9 hop (hr _ _ h) Z
 ·exact gY hop (hr _ _ h) Z
 ·split at h
  ·rename_i g;cases h;exact kJ hop (hr _ _ g) Z
  ·cases h
 ·split at h
  ·rename_i g
   split at h
   ·rename_i g2;rw[D4 h];exact cd (T.h3 _ _ _ g2) hop (hr _ _ g) Z
   ·cases h
  ·cases h
 ·split at h
  ·rename_i g
   split at h
   ·rename_i g1
    split at h
    ·rw[QN]at h
     cases h
     exact bD (bU (T.h1 _ g1) hop (hr _ _ g) Z) λ_ _ hp=>⟨Lp hp.1,hp.2⟩
    ·cases h
   ·split at h
    ·cases h
    ·rename_i k g2
     obtain⟨h1,rfl⟩:=Wl h
     exact j4 (T.h2 _ _ g2) hop (hr _ _ g) h1 Z
  ·cases h
 ·split at h
  ·rename_i g;exact gt hop (hr _ _ g) h Z
  ·cases h
 ·split at h
  ·rename_i g;cases h;exact BF hop (hr _ _ g) Z
  ·cases h
 ·exact LJ hop h (λb hb=>hr _ _ hb) (λb hb=>hr _ _ hb) Z
 ·rename_i z x
  cases hb:ro z with
  | false=>rw[hb]at h;cases h
  | true=>
   rw[hb]at h
   simp only[cond_true]at h
   unfold CR at h
   split at h
   ·rename_i g b e1 e2
    cases h
    refine T0 hop (hr _ _ e1) (λhg=>?_) Z
    subst hg
    exact hj z true hb e1 _ _ e2
   ·cases h
 ·rename_i z y _
  cases hb:ro z with
  | false=>rw[hb]at h;cases h
  | true=>
   rw[hb]at h
   simp only[cond_true]at h
   unfold GT at h
   split at h
   ·rename_i g b e1 e2
    cases h
    refine BG hop (hr _ _ e1) (λhg=>?_) Z
    subst hg
    exact hj z false hb e1 _ _ e2
   ·cases h
 ·cases h
theorem M7 (T:gz P) {al:List AV} {av:AV} (h:D8 T env l al i o=some av) (hl:Look S w env l (gA al) (cnd l (gA al)) i a) (hi:l[i]?=some o) (hc:cnd l (gA al) i=true) (Z:X w):Does n P o a w (bG S X av w):=by
 refine D9 T h (λx b hb=>BL hl hi hc (λq hq=>by cases hq) (BK hb)) (λz g hz hg x b hb=>BL hl hi hc (λq hq=>?_) (BK hb)) Z
 obtain rfl:q=(AK l i z,g):=by simpa using hq
 cases z with
 | tmp s=>
  simp only[GK]at hz
  replace hg:=BK hg
  simp only[rdv]at hg
  cases hp:nk s l 0 i with
  | none=>rw[hp]at hz;cases hz
  | some j=>
   rw[hp]at hg
   simp only at hg
   cases hb2:((cp o).contains j&&imp l [] i j)with
   | false=>rw[hb2]at hg;cases hg
   | true=>
    rw[hb2]at hg
    simp only[cond_true,Option.some.injEq]at hg
    simp[AK,hp,hg,oI]
 | _=>cases hz
end
def qf:List Nat->Nat->Bool
 | [],_=>false
 | k::r,i=>cond (Nat.beq k i) true (qf r i)
def jG {P:Program} (T:gz P) (env:List (Nat×AV)) (l:List Oper) (al:List AV) (hs:List Nat):Nat->List Oper->List (Option AV)
 | _,[]=>[]
 | i,o::r=>cond (qf hs i) (ug al i) (D8 T env l al i o)::jG T env l al hs (i+1) r
def jO:List AV->List (Option AV)
 | []=>[]
 | x::r=>some x::jO r
def zY (l:List Oper) (am:Nat->AV) (o:Oper):Bool:=match o.guard with
 | none=>true
 | some q=>(match l[q.1]? with | some p=>p.dst.isSome | none=>false)&&FU (am q.1)&& (cp o).contains q.1
def jV (l:List Oper) (am:Nat->AV):List Oper->Bool
 | []=>true
 | o::r=>zY l am o&&jV l am r
def jD (p:Nat->Oper->Prop) (hs:List Nat):Nat->List Oper->Prop
 | _,[]=>True
 | i,o::r=>match qf hs i with
  | true=>p i o/\jD p hs (i+1) r
  | false=>jD p hs (i+1) r
def ew (n:Rn) (P:Program) (K S:Nat->Prop) (w0:World) (env:List (Nat×AV)) (X:WP) (l:List Oper) (am:Nat->AV) (i:Nat) (o:Oper):Prop:=
 ∀ a w,Keeps K w0 w->X w->Look S w env l am (cnd l am) i a->cnd l am i=true->Does n P o a w (bG S X (am i) w)
def kC (l:List Oper) (N:Nat):Bool:=jP l&&jg l N&&lq l&&rE l
def ku (b:Bool) (env:List (Nat×AV)) (l:List Oper) (al:List AV) (c:Nat):Option (Nat×AV):=
 match Nat.ble 1000 c with
 | false=>match env[c]? with
  | some (s,av)=>cond (l.all λo=>o.dst !=some s) (some (s,av)) none
  | none=>none
 | true=>match(l[c-1000]?).bind (·.dst)with
  | some s=>cond (cnd l (gA al) (c-1000)&& (!b||AU (gA al (c-1000)))) (match ug al (c-1000)with | some x=>some (s,x) | none=>none) none
  | none=>none
section
variable {n:Rn} {P:Program} {K S1 S:Nat->Prop} {w0:World} {N:Nat} {env env':List (Nat×AV)} {X:WP} {l:List Oper}
theorem EY {am:Nat->AV} {i:Nat} {o:Oper} (hg:zY l am o=true) (hb:rE l=true) (hi:l[i]?=some o):lO l am (cnd l am) i o:=by
 unfold lO
 unfold zY at hg
 have hq:mV l i=o.guard:=by unfold mV;rw[hi];rfl
 split
 ·rename_i h
  rw[h]at hq
  exact LN am hq
 ·rename_i j pol h
  rw[h]at hq hg
  simp only[Bool.and_eq_true]at hg
  obtain⟨⟨g1,g2⟩,g3⟩:=hg
  cases hj:l[j]? with
  | none=>rw[hj]at g1;cases g1
  | some p=>
   rw[hj]at g1
   obtain⟨d,hd⟩:=Option.isSome_iff_exists.1 g1
   exact⟨oI (am j),p,d,rfl,hd,Qa g2,LM hb am hq,g3⟩
theorem Bg (T:gz P) {al:List AV} {hs:List Nat} (hb:rE l=true):∀(r:List Oper) (k:Nat) (ar:List AV),(∀ i o,r[i]?=some o->l[k+i]?=some o)->(∀ i,gA ar i=gA al (k+i))->jG T env l al hs k r=jO ar->jV l (gA al) r=true->jD (ew n P K S w0 env X l (gA al)) hs k r->
 lk (Ob n P K S w0 env X l (gA al) (cnd l (gA al))) k r
 | [],_,_,_,_,_,_,_=>trivial
 | o::r,_,[],_,_,he,_,_=>by simp[jG,jO]at he
 | o::r,k,x::ar,hl,ha,he,hg,ho=>by
  have hi:l[k]?=some o:=by simpa using hl 0 o rfl
  simp only[jG,jO,List.cons.injEq]at he
  simp only[jV,Bool.and_eq_true]at hg
  rw[jD]at ho
  have hrest:∀ i o',r[i]?=some o'->l[k+1+i]?=some o':=λi o' h=>by rw[show k+1+i=k+(i+1) by omega];exact hl (i+1) o' (by simpa using h)
  have E7:∀ i,gA ar i=gA al (k+1+i):=λi=>by rw[show k+1+i=k+(i+1) by omega,<-ha (i+1)];simp[gA]
  have Z:gA al k=x:=by have:=ha 0;simpa [gA]using this.symm
  cases hh:qf hs k with
  | true=>
   rw[hh]at ho
   exact⟨⟨EY hg.1 hb hi,ho.1⟩,Bg T hb r (k+1) ar hrest E7 he.2 hg.2 ho.2⟩
  | false=>
   rw[hh]at ho he
   exact⟨⟨EY hg.1 hb hi,λa w _ PR Po hc=>by rw[Z];exact M7 T he.1 Po hi hc PR⟩,Bg T hb r (k+1) ar hrest E7 he.2 hg.2 ho⟩
theorem ET {b:Bool} {al:List AV} (hb:b=false->∀ k,S k->S1 k):∀(ks:List Nat) (env':List (Nat×AV)),ks.map (ku b env l al)=env'.map some->sL S1 S env l (gA al) (cnd l (gA al)) env'
 | [],[],_=>trivial
 | [],_::_,h=>by cases h
 | _::_,[],h=>by cases h
 | c::ks,p::env',h=>by
  simp only[List.map_cons,List.cons.injEq]at h
  refine⟨?_,ET hb ks env' h.2⟩
  have h1:=h.1
  unfold ku at h1
  split at h1
  ·split at h1
   ·rename_i s av hq
    cases Z:(l.all λo=>o.dst !=some s)with
    | false=>rw[Z]at h1;cases h1
    | true=>rw[Z]at h1;cases h1;exact .old c _ _ hq Z
   ·cases h1
  ·split at h1
   ·rename_i s hs
    cases Z:(cnd l (gA al) (c-1000)&& (!b||AU (gA al (c-1000))))with
    | false=>rw[Z]at h1;cases h1
    | true=>
     rw[Z]at h1
     simp only[cond_true]at h1
     split at h1
     ·rename_i x hn
      obtain rfl:=Be hn
      cases h1
      rw[Bool.and_eq_true]at Z
      refine .new (c-1000) _ _ hs Z.1 rfl ?_
      cases b with
      | false=>exact .inr (hb rfl)
      | true=>exact .inl (QK (by simpa using Z.2))
     ·cases h1
   ·cases h1
theorem BO {b:Bool} {id:Nat} {draw:Bool} {Q:Exit->Act->WP} (T:gz P) (ks:List Nat) (bv:List AV) (hs:List Nat) (env':List (Nat×AV)) (hf:ks.map (ku b env l bv)=env'.map some) (hk:kC l N=true) (he:jG T env l bv hs 0 l=jO bv) (hg:jV l (gA bv) l=true)
 (hsub:∀ k,S1 k->S k) (hb:b=false->∀ k,S k->S1 k) (Z:∀ w,X w->X w.drew) (ob:jD (ew n P K S w0 env X l (gA bv)) hs 0 l) (hq:∀ a w,St K S1 w0 N env' X a w->Q .normal a w):Tr n P (St K S1 w0 N env X) (.region id l.toArray draw) Q:=λa w h=>by
 simp only[kC,Bool.and_eq_true]at hk
 exact Ii (gA bv) (cnd l (gA bv)) env' h hsub T.mix hk.1.1.1 hk.1.1.2 hk.1.2 Z (Bg T hk.2 l 0 bv (λi o h=>by simpa using h) (λi=>by rw[Nat.zero_add]) he hg ob) (ET hb ks env' hf) hq
theorem rg {id:Nat} {draw:Bool} {Q:Exit->Act->WP} (T:gz P) (V:aR X) (ks:List Nat) (bv:List AV) (hs:List Nat) (env':List (Nat×AV)) (hf:ks.map (ku false env l bv)=env'.map some) (hk:kC l N=true) (he:jG T env l bv hs 0 l=jO bv) (hg:jV l (gA bv) l=true)
 (ob:jD (ew n P K S w0 env X l (gA bv)) hs 0 l) (hq:∀ a w,St K S w0 N env' X a w->Q .normal a w):Tr n P (St K S w0 N env X) (.region id l.toArray draw) Q:=
 BO T ks bv hs env' hf hk he hg (λ_ h=>h) (λ_ _ h=>h) V.drew ob hq
theorem xK {J:WP} {lo:Nat} {O:List OB} {id:Nat} {draw:Bool} {Q:Exit->Act->WP} (T:gz P) (V:aR J) (ks:List Nat) (bv:List AV) (hs:List Nat) (env':List (Nat×AV)) (hf:ks.map (ku false env l bv)=env'.map some) (hk:kC l N=true) (he:jG T env l bv hs 0 l=jO bv) (hg:jV l (gA bv) l=true)
 (ob:jD (ew n P K (SO S O) w0 env (XO J S lo O) l (gA bv)) hs 0 l) (hq:∀ a w,St K (SO S O) w0 N env' (XO J S lo O) a w->Q .normal a w):Tr n P (St K (SO S O) w0 N env (XO J S lo O)) (.region id l.toArray draw) Q:=
 BO T ks bv hs env' hf hk he hg (λ_ h=>h) (λ_ _ h=>h) (fo V).drew ob hq
theorem UM {J:WP} {lo:Nat} {O:List OB} {id:Nat} {draw:Bool} {Q:Exit->Act->WP} (T:gz P) (V:aR J) (ks:List Nat) (bv:List AV) (hs:List Nat) (env':List (Nat×AV)) (hf:ks.map (ku true env l bv)=env'.map some) (hk:kC l N=true) (he:jG T env l bv hs 0 l=jO bv) (hg:jV l (gA bv) l=true)
 (ob:jD (ew n P K S w0 env (XO J S lo O) l (gA bv)) hs 0 l) (hq:∀ a w,St K (SO S O) w0 N env' (XO J S lo O) a w->Q .normal a w):Tr n P (St K (SO S O) w0 N env (XO J S lo O)) (.region id l.toArray draw) Q:=
 BO (b:=true) T ks bv hs env' hf hk he hg (λ_ h=>h.1) (λe=>by cases e) (fo V).drew ob hq
theorem lb {m k:Nat} (h:Nat.ble m k=true):m<=k:=Nat.le_of_ble_eq_true h
theorem mo {α:Type} {l:List α} {x:α} (i:Nat) (h:l[i]?=some x):x∈l:=List.mem_of_getElem? h
theorem nx {A:Act->WP} {c:Code} {Q:Exit->Act->WP} (h:Tr n P A c Q):∀ a w,A a w->c.wpIn n.F n.d P Q a w:=h
end

theorem E8:∀ {l:List Nat} {i:Nat},qf l i=true->i∈l
 | [],_,h=>by cases h
 | k::r,i,h=>by
  rw[qf]at h
  cases hb:Nat.beq k i with
  | true=>rw[Nat.eq_of_beq_eq_true hb];exact List.mem_cons_self ..
  | false=>rw[hb]at h;exact List.mem_cons_of_mem _ (E8 h)
def wZ:List (Nat×Nat)->Nat->Nat
 | [],_=>0
 | p::r,t=>cond (Nat.beq p.1 t) p.2 (wZ r t)
theorem F8:∀ {l:List (Nat×Nat)} {t k:Nat},wZ l t=k+1->(t,k+1)∈l
 | [],_,_,h=>by cases h
 | p::r,t,k,h=>by
  rw[wZ]at h
  cases hb:Nat.beq p.1 t with
  | true=>
   rw[hb]at h
   simp only[cond_true]at h
   rw[<-Nat.eq_of_beq_eq_true hb,<-h]
   exact List.mem_cons_self ..
  | false=>rw[hb]at h;exact List.mem_cons_of_mem _ (F8 h)
def w4:List (Nat×Nat×Nat)->Nat->Nat->Option Nat
 | [],_,_=>none
 | p::r,s,f=>cond (Nat.beq p.1 s&&Nat.beq p.2.1 f) (some p.2.2) (w4 r s f)
theorem F9:∀ {l:List (Nat×Nat×Nat)} {s f d:Nat},w4 l s f=some d->(s,f,d)∈l
 | [],_,_,_,h=>by cases h
 | p::r,s,f,d,h=>by
  rw[w4]at h
  cases hb:(Nat.beq p.1 s&&Nat.beq p.2.1 f)with
  | true=>
   rw[hb]at h
   simp only[cond_true,Option.some.injEq]at h
   rw[Bool.and_eq_true]at hb
   rw[<-Nat.eq_of_beq_eq_true hb.1,<-Nat.eq_of_beq_eq_true hb.2,<-h]
   exact List.mem_cons_self ..
  | false=>rw[hb]at h;exact List.mem_cons_of_mem _ (F9 h)
end
end Go.Proofs.YtdfadihhfppjaaaGreatDoor
