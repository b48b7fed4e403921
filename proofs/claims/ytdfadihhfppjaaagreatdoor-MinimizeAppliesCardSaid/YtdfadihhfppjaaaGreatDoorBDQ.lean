/-
  Part of the proof that MinimizeApplies returns true. Conditions: none.
-/
import Derived.Test.YtdfadihhfppjaaaGreatDoorBDP
import Derived.Laws.Runes
import Derived.Laws.RangeString
import Derived.Laws.Strings3
import Derived.Deep.LoopGhost
import Derived.Lib.IndexAny
import Derived.Deep.QuietTactic
import Derived.WalkMore
import Derived.Test.YtdfadihhfppjaaaGreatDoorBDM
namespace Go.Proofs.YtdfadihhfppjaaaGreatDoor
open Go.Proofs.Tryz
open List (all_eq_true)
section
open Go.RowKit Go.Shelf Go.Lib
def dots:BA:=⟨#[45,95,46,63]⟩
theorem vH:∀ b∈dots.data.toList,b.toNat<128:=by decide
theorem vI (i:Nat) (h:i<dots.size):(dots[i]'h).toNat<128:=vH _ (Array.getElem_mem_toList (xs:=dots.data) h)
set_option maxHeartbeats 2000000 in
set_option maxRecDepth 1000000 in
theorem Jn (w:World):Calls prog 268 #[.string dots,.int .i32 65533] w λe w'=>e= .returned (.int .i64 (-1))/\Below w.heap.size w w':=by
 obtain⟨s,hs⟩:∃ s,dots=s:=⟨_,rfl⟩
 have HA:Hid (∀(i:Nat) (h:i<s.size),(s[i]'h).toNat<128):=by rw[<-hs];exact vI
 rw[hs]
 clear hs
 go_enter func268,ntmps268
 go_wp2
 go_loopg [5,6] s.size (λg _ _ wx=>∃ i:Nat,i+g=s.size/\wx=w.iter s i)
 case atStart=>exact⟨0,oz,rfl⟩
 case round=>
  obtain⟨i,hig,rfl⟩:=hrel
  cases gk with
  | zero=>
   obtain rfl:i=s.size:=by omega
   have hnx:=run_next_end (P:=prog) w s s.size
   go_wp2
   go_ret
   exact⟨rfl,(Below.refl _ _).alloc aV _⟩
  | succ g=>
   have hi:i<s.size:=by omega
   obtain⟨x,Z⟩:∃ x:UInt8,s[i]'hi=x:=⟨_,rfl⟩
   have hx128:x.toNat<128:=by rw[<-Z];exact HA.out i hi
   have hnx:=λty=>run_next_ascii (P:=prog) w s i ty hi (by rw[Z];exact hx128)
   rw[Z]at hnx
   clear Z
   have hne:¬ ((x.toNat:Int)=65533):=by omega
   go_wp2
   go_roundg g
   case measure=>omega
   case rel=>exact⟨i+1,oz,rfl⟩
set_option maxHeartbeats 2000000 in
set_option maxRecDepth 1000000 in
theorem Jo (r:Int) (w:World) (h0:128<=r) (h1:¬ r=65533) (hv:Lib.validRune r=false):Calls prog 268 #[.string dots,.int .i32 r] w λe w'=>e= .returned (.int .i64 (-1))/\w'=w:=by
 obtain⟨s,hs⟩:∃ s,dots=s:=⟨_,rfl⟩
 rw[hs]
 clear hs
 have h2:¬ r<128:=by omega
 have h3:(0:Int)<=r:=by omega
 go_enter func268,ntmps268
 go_wp2_with (go_at_call 271;refine(utf8_ValidRune _ _).mono ?_;rintro e w' ⟨rfl,hw⟩;rw[hw,hv])
 go_ret
 exact⟨rfl,rfl⟩
theorem As {l:List UInt8} {c:UInt8} (hs:∀ b∈l,b.toNat<128) (hc:128<=c.toNat):Lib.indexByte l c<0:=by
 have:=Lib.contains_iff_indexByte l c
 have h2:l.contains c=false:=by
  rw[<-Bool.not_eq_true,List.contains_iff_mem]
  intro h
  have:=hs c h
  omega
 rw[h2]at this
 have:=of_decide_eq_false this.symm
 omega
theorem Mq (r:Int) (h0:128<=r) (hv:Lib.validRune r=true):∃ n:Nat,(Utf8.encode r).size=n+1/\(n=1∨n=2∨n=3)/\∃ c:UInt8,(∀ h:n< (Utf8.encode r).size,(Utf8.encode r)[n]'h=c)/\128<=c.toNat:=by
 obtain⟨e1,e2,e3⟩:=encode_facts r (by rw[validRune_eq];exact hv) h0
 exact⟨(Utf8.encode r).size-1,oz,oz,_,λ_=>rfl,e3 oz⟩
set_option maxHeartbeats 4000000 in
set_option maxRecDepth 1000000 in
theorem Jk (r:Int) (w:World) (h0:128<=r) (h1:¬ r=65533) (hv:Lib.validRune r=true) (t:BA) (ht:Utf8.encode r=t) (hk:t.size=2) (c:UInt8) (hc:∀ h:1<t.size,t[1]'h=c) (hc1:128<=c.toNat):Calls prog 268 #[.string dots,.int .i32 r] w λe w'=>e= .returned (.int .i64 (-1))/\Below w.heap.size w w':=by
 obtain⟨s,hs⟩:∃ s,dots=s:=⟨_,rfl⟩
 have hsz:s.size=4:=by rw[<-hs];rfl
 obtain⟨x,Z⟩:∃ x,s[1]'(by omega)=x:=⟨_,rfl⟩
 have hx1:x.toNat<128:=by subst hs;rw[<-Z];exact vI 1 dz
 have hIB:∃ m:Int,m<0/\∀ w,Calls prog 270 #[.string (s.extract 2 4),.int .u8 (c.toNat:Int)] w λe w'=>e= .returned (.int .i64 m)/\w'=w:=by
  refine⟨_,As (l:=(s.extract 2 4).data.toList) (λb hb=>?_) hc1,λw=>?_⟩
  · rw[<-hs]at hb;exact vH b (mem_extract hb)
  · have:=strings_IndexByte (s.extract 2 4) (c.toNat:Int) w
    rwa [show((c.toNat:Int)).toNat.toUInt8=c by simp]at this
 obtain⟨m,hm,hIB⟩:=hIB
 have hcc:=hc oz
 rw[hs]
 clear hs hc
 have h2:¬ r<128:=by omega
 have h3:(0:Int)<=r:=by omega
 have hne:((x.toNat:Int)!= (c.toNat:Int))=true:=by simp;omega
 go_enter func268,ntmps268
 go_wp2_with (go_at_call 271;refine(utf8_ValidRune _ _).mono ?_;rintro e w' ⟨rfl,hw⟩;rw[hw,hv])
 go_step3
 go_wp2
 go_loopg [9,10] 1 (λ_ x9 _ wx=>x9= .int .i64 1/\wx=w)
 case atStart=>exact⟨rfl,rfl⟩
 case round=>
  obtain⟨rfl,rfl⟩:=hrel
  go_wp2
  go_step3
  go_wp2
  go_quiet (fail)
  go_wp2
  have hwr:IntKind.i64.wrap 2=2:=by decide
  go_quiet (exact(hIB _).mono λe w' h=>⟨h.1,_,h.2⟩)
  go_wp2
  simp only[Exit.noGoto_ret,Exit.inBlock,Exit.then]
  go_ret
  exact⟨rfl,below_drewNg _ _⟩
set_option maxHeartbeats 4000000 in
set_option maxRecDepth 1000000 in
theorem Jl (r:Int) (w:World) (h0:128<=r) (h1:¬ r=65533) (hv:Lib.validRune r=true) (t:BA) (ht:Utf8.encode r=t) (hk:t.size=3) (c:UInt8) (hc:∀ h:2<t.size,t[2]'h=c) (hc1:128<=c.toNat):Calls prog 268 #[.string dots,.int .i32 r] w λe w'=>e= .returned (.int .i64 (-1))/\Below w.heap.size w w':=by
 obtain⟨s,hs⟩:∃ s,dots=s:=⟨_,rfl⟩
 have hsz:s.size=4:=by rw[<-hs];rfl
 obtain⟨x,Z⟩:∃ x,s[2]'(by omega)=x:=⟨_,rfl⟩
 have hx1:x.toNat<128:=by subst hs;rw[<-Z];exact vI 2 dz
 have hIB:∃ m:Int,m<0/\∀ w,Calls prog 270 #[.string (s.extract 3 4),.int .u8 (c.toNat:Int)] w λe w'=>e= .returned (.int .i64 m)/\w'=w:=by
  refine⟨_,As (l:=(s.extract 3 4).data.toList) (λb hb=>?_) hc1,λw=>?_⟩
  · rw[<-hs]at hb;exact vH b (mem_extract hb)
  · have:=strings_IndexByte (s.extract 3 4) (c.toNat:Int) w
    rwa [show((c.toNat:Int)).toNat.toUInt8=c by simp]at this
 obtain⟨m,hm,hIB⟩:=hIB
 have hcc:=hc oz
 rw[hs]
 clear hs hc
 have h2:¬ r<128:=by omega
 have h3:(0:Int)<=r:=by omega
 have hne:((x.toNat:Int)!= (c.toNat:Int))=true:=by simp;omega
 go_enter func268,ntmps268
 go_wp2_with (go_at_call 271;refine(utf8_ValidRune _ _).mono ?_;rintro e w' ⟨rfl,hw⟩;rw[hw,hv])
 go_step3
 go_wp2
 go_loopg [9,10] 1 (λ_ x9 _ wx=>x9= .int .i64 2/\wx=w)
 case atStart=>exact⟨rfl,rfl⟩
 case round=>
  obtain⟨rfl,rfl⟩:=hrel
  go_wp2
  go_step3
  go_wp2
  go_quiet (fail)
  go_wp2
  have hwr:IntKind.i64.wrap 3=3:=by decide
  go_quiet (exact(hIB _).mono λe w' h=>⟨h.1,_,h.2⟩)
  go_wp2
  simp only[Exit.noGoto_ret,Exit.inBlock,Exit.then]
  go_ret
  exact⟨rfl,below_drewNg _ _⟩
set_option maxHeartbeats 4000000 in
set_option maxRecDepth 1000000 in
theorem Jm (r:Int) (w:World) (h0:128<=r) (h1:¬ r=65533) (hv:Lib.validRune r=true) (t:BA) (ht:Utf8.encode r=t) (hk:t.size=4) (c:UInt8) (hc:∀ h:3<t.size,t[3]'h=c) (hc1:128<=c.toNat):Calls prog 268 #[.string dots,.int .i32 r] w λe w'=>e= .returned (.int .i64 (-1))/\Below w.heap.size w w':=by
 obtain⟨s,hs⟩:∃ s,dots=s:=⟨_,rfl⟩
 have hsz:s.size=4:=by rw[<-hs];rfl
 obtain⟨x,Z⟩:∃ x,s[3]'(by omega)=x:=⟨_,rfl⟩
 have hx1:x.toNat<128:=by subst hs;rw[<-Z];exact vI 3 dz
 have hIB:∃ m:Int,m<0/\∀ w,Calls prog 270 #[.string (s.extract 4 4),.int .u8 (c.toNat:Int)] w λe w'=>e= .returned (.int .i64 m)/\w'=w:=by
  refine⟨_,As (l:=(s.extract 4 4).data.toList) (λb hb=>?_) hc1,λw=>?_⟩
  · rw[<-hs]at hb;exact vH b (mem_extract hb)
  · have:=strings_IndexByte (s.extract 4 4) (c.toNat:Int) w
    rwa [show((c.toNat:Int)).toNat.toUInt8=c by simp]at this
 obtain⟨m,hm,hIB⟩:=hIB
 have EL:=hIB
 rw[show s.extract 4 4=ByteArray.empty by simp]at EL
 have hcc:=hc oz
 rw[hs]
 clear hs hc
 have h2:¬ r<128:=by omega
 have h3:(0:Int)<=r:=by omega
 have hne:((x.toNat:Int)!= (c.toNat:Int))=true:=by simp;omega
 go_enter func268,ntmps268
 go_wp2_with (go_at_call 271;refine(utf8_ValidRune _ _).mono ?_;rintro e w' ⟨rfl,hw⟩;rw[hw,hv])
 go_step3
 go_wp2
 go_loopg [9,10] 1 (λ_ x9 _ wx=>x9= .int .i64 3/\wx=w)
 case atStart=>exact⟨rfl,rfl⟩
 case round=>
  obtain⟨rfl,rfl⟩:=hrel
  go_wp2
  go_step3
  go_wp2
  go_quiet (fail)
  go_wp2
  have hwr:IntKind.i64.wrap 4=4:=by decide
  go_quiet (exact(EL _).mono λe w' h=>⟨h.1,_,h.2⟩)
  go_wp2
  simp only[Exit.noGoto_ret,Exit.inBlock,Exit.then]
  go_ret
  exact⟨rfl,below_drewNg _ _⟩
theorem Jj (r:Int) (w:World) (h0:128<=r):Calls prog 268 #[.string dots,.int .i32 r] w λe w'=>e= .returned (.int .i64 (-1))/\Below w.heap.size w w':=by
 by_cases h1:r=65533
 · subst h1;exact Jn w
 cases hv:Lib.validRune r with
 | false=>exact(Jo r w h0 h1 hv).mono λe w' h=>⟨h.1,h.2▸Below.refl _ _⟩
 | true=>
  obtain⟨n,hn,hk,c,hc,hc1⟩:=Mq r h0 hv
  rcases hk with rfl | rfl | rfl
  · exact Jk r w h0 h1 hv _ rfl hn c hc hc1
  · exact Jl r w h0 h1 hv _ rfl hn c hc hc1
  · exact Jm r w h0 h1 hv _ rfl hn c hc hc1
set_option maxHeartbeats 1000000 in
set_option maxRecDepth 1000000 in
theorem Ji (r:Int) (w:World) (h0:128<=r):Calls prog 266 #[.string dots,.int .i32 r] w λe w'=>e= .returned (.bool false)/\Below w.heap.size w w':=by
 obtain⟨s,hs⟩:∃ s,dots=s:=⟨_,rfl⟩
 have hI:=Jj r w h0
 rw[hs]at hI ⊢
 clear hs
 go_enter func266,ntmps266
 go_wp2_with (go_at_call 268;refine hI.mono ?_;rintro e w' ⟨rfl,hb⟩)
 go_ret
 exact⟨rfl,hb⟩
def lh (x:Nat):Bool:=!(((decide (97<=x/\x<=122)||decide (65<=x/\x<=90))||decide (48<=x/\x<=57))|| (decide (x<128)&&dots.data.toList.contains x.toUInt8))
set_option maxHeartbeats 4000000 in
set_option maxRecDepth 1000000 in
theorem PH (x:Nat) (w:World):Calls prog 265 #[.int .i32 (x:Int)] w λe w'=>e= .returned (.bool (lh x))/\Below w.heap.size w w':=by
 have hC:∃ b,(x<128->b=dots.data.toList.contains x.toUInt8)/\(128<=x->b=false)/\∀ w,Calls prog 266 #[.string ⟨#[45,95,46,63]⟩,.int .i32 (x:Int)] w λe w'=>e= .returned (.bool b)/\Below w.heap.size w w':=by
  by_cases h:x<128
  · refine⟨dots.data.toList.contains x.toUInt8,λ_=>rfl,λh'=>by omega,λw=>?_⟩
    have:=strings_ContainsRune_ascii dots (x:Int) w oz oz
    rw[show((x:Int)).toNat.toUInt8=x.toUInt8 by simp,<-Lib.contains_iff_indexByte]at this
    exact this.mono λe w' h=>⟨h.1,h.2▸Below.refl _ _⟩
  · exact⟨false,λh'=>absurd h' h,λ_=>rfl,λw=>Ji x w oz⟩
 obtain⟨b,hb1,hb2,hC⟩:=hC
 have hspec:lh x= !(((decide (97<=x/\x<=122)||decide (65<=x/\x<=90))||decide (48<=x/\x<=57))||b):=by
  unfold lh
  by_cases h:x<128
  · rw[hb1 h];simp[h]
  · rw[hb2 oz];simp[h]
 rw[hspec]
 clear hspec hb1 hb2
 have HC:=hC w
 clear hC
 go_enter func265,ntmps265
 by_cases c1:97<=x<;>by_cases c2:x<=122<;>by_cases c3:65<=x<;>by_cases c4:x<=90<;>by_cases c5:48<=x<;>by_cases c6:x<=57
 all_goals first | (exfalso;omega) | skip
 all_goals
  go_wp2_with (go_at_call 266;refine HC.mono ?_;rintro e w' ⟨rfl,hb⟩)
  go_ret
  exact⟨by first | (simp[c1,c2,c3,c4,c5,c6];done) | (simp[c1,c2,c3,c4,c5,c6];omega),by first | exact hb | exact Below.refl _ _⟩
end
section
open Go.RowKit Go.Shelf Go.Lib
theorem CJ {x:Nat} (h:128<=x):lh x=true:=by
 simp[lh,show ¬ x<128 by omega,show ¬ x<=122 by omega,show ¬ x<=90 by omega,show ¬ x<=57 by omega]
def nn (c:UInt8):Bool:=(!decide ((c.toNat:Int)=(63:Int)))&&lg c
theorem JK:∀ n:Fin 256,lh (UInt8.ofNat n).toNat=nn (UInt8.ofNat n):=by decide+kernel
theorem CK (c:UInt8):lh c.toNat=nn c:=by
 have:=JK ⟨c.toNat,c.toNat_lt⟩
 simpa using this
theorem P0 {s:BA} {k:Nat} (hk:k<s.size):fW (s.extract k (k+1))= !lg (bt s k):=by
 have hl:(s.extract k (k+1)).data.toList=[bt s k]:=by
  rw[ByteArray.data_extract,Array.toList_extract]
  have h1:k<s.data.toList.length:=by rw[tS];exact hk
  rw[List.extract_eq_take_drop,show k+1-k=1 by omega,List.drop_eq_getElem_cons h1,List.take_succ_cons,List.take_zero,bt,cV h1]
 have hz:(s.extract k (k+1)).size=1:=by rw[<-tS,hl];rfl
 have hne:¬ s.extract k (k+1)=⟨#[]⟩:=λe=>by rw[e]at hz;exact absurd hz dz
 unfold fW
 rw[hl,hz]
 simp[hne]
theorem CI {s:BA} {k:Nat} (hk:k<s.size):mr s k=nn (bt s k):=by
 rw[mr,P0 hk,Bool.not_not,nn]
theorem CV {s:BA} {k:Nat} (hk:k<s.size):s[k]'hk=bt s k:=by
 have h1:k<s.data.toList.length:=by rw[tS];exact hk
 rw[bt,cV h1]
 rfl
theorem LA (s:BA) (k:Nat) (hk:k<s.size) (h:128<=(s[k]'hk).toNat):128<=(Utf8.decode s k).1:=by
 have h0:(s.get! (k+0)).toNat=(s[k]'hk).toNat:=by
  rw[show s.get! (k+0)=s[k]'hk by show s.get! k=_;simp[ByteArray.get!,getElem!_pos,hk];rfl]
 unfold Utf8.decode
 simp only[Utf8.runeError]
 rw[if_neg oz]
 repeat' split
 all_goals first | (simp;done) | (simp_all;done) | (simp_all;omega)
theorem zf {s:BA} {l:Array UInt8}:decide (s=⟨l⟩)=decide (s.toList=l.toList):=by
 rw[Bool.eq_iff_iff,decide_eq_true_eq,decide_eq_true_eq,ByteArray.toList_eq]
 exact⟨λh=>by rw[h],λh=>ByteArray.ext (Array.toList_inj.1 h)⟩
theorem Fv (s:BA):∀(f pos:Nat),s.size<=pos+f->(0<=Lib.idxFuncFrom lh true s f pos↔ ∃ k,pos<=k/\k<s.size/\nn (bt s k)=true)
 | 0,pos,h=>by
  simp only[Lib.idxFuncFrom]
  constructor
  · intro h;omega
  · rintro⟨k,h1,h2,_⟩;omega
 | f+1,pos,h=>by
  simp only[Lib.idxFuncFrom]
  by_cases hp:pos<s.size
  · rw[if_pos hp]
    by_cases ha:(s[pos]'hp).toNat<128
    · rw[decode_ascii s pos hp ha]
      have e:lh (s[pos]'hp).toNat=nn (bt s pos):=by rw[CK,CV hp]
      simp only[e]
      by_cases hb:nn (bt s pos)=true
      · rw[if_pos hb]
        exact⟨λ_=>⟨pos,Nat.le_refl _,hp,hb⟩,λ_=>Int.natCast_nonneg _⟩
      · rw[if_neg hb,Fv s f (pos+1) oz]
        constructor
        · rintro⟨k,h1,h2,h3⟩;exact⟨k,oz,h2,h3⟩
        · rintro⟨k,h1,h2,h3⟩
          refine⟨k,?_,h2,h3⟩
          by_cases e:k=pos
          · subst e;exact absurd h3 hb
          · omega
    · have e:nn (bt s pos)=true:=by
       rw[<-CK,<-CV hp];exact CJ oz
      rw[if_pos (CJ (LA s pos hp oz))]
      exact⟨λ_=>⟨pos,Nat.le_refl _,hp,e⟩,λ_=>Int.natCast_nonneg _⟩
  · rw[if_neg hp]
    constructor
    · intro h;omega
    · rintro⟨k,h1,h2,_⟩;omega
theorem PD (s:BA):(!decide (0<=Lib.idxFunc lh true s))=(List.range s.size).all λk=>!mr s k:=by
 have:=Fv s s.size 0 oz
 rw[<-Lib.idxFunc]at this
 rw[Bool.eq_iff_iff,Bool.not_eq_true',decide_eq_false_iff_not,this,all_eq_true]
 constructor
 · intro h k hk
   have hk':k<s.size:=by simpa using hk
   rw[CI hk']
   cases hb:nn (bt s k)with
   | false=>rfl
   | true=>exact absurd ⟨k,aI,hk',hb⟩ h
 · rintro h ⟨k,_,h2,h3⟩
   have:=h k (by simpa using h2)
   rw[CI h2,h3]at this
   exact absurd this dz
set_option maxHeartbeats 2000000 in
set_option maxRecDepth 1000000 in
theorem PI (s:BA) (w:World):Calls prog 261 #[.string s] w λe w'=>e= .returned (.bool (fq s))/\Below w.heap.size w w':=by
 have hF:=strings_ContainsFunc_grows 265 #[] (Df func265 rfl rfl) lh s w λW x _ _=>PH x W
 obtain⟨b,hb⟩:∃ b,decide (0<=Lib.idxFunc lh true s)=b:=⟨_,rfl⟩
 have hspec:fq s=((decide (s.toList=[40])||decide (s.toList=[41]))|| (!b&& !decide (s.toList=[]))):=by
  rw[fq,<-PD,hb,zf,zf,zf]
 rw[hb]at hF
 rw[hspec]
 clear hspec hb
 go_enter func261,ntmps261
 go_wp2_with (go_at_call 264;refine hF.mono ?_;rintro e w' ⟨rfl,hb⟩)
 all_goals
  go_ret
  exact⟨by simp_all,by first | exact hb | exact Below.refl _ _⟩
end
section
open Go.RowKit
structure go (P:Program) where
 one:Nat->Bool
 agg:Nat->Nat
 zn:Nat->Nat->Option Nat
 h1:∀ t,one t=true->eq P t
 h2:∀ t k,agg t=k+1->fR P t (k+1)
 h3:∀ s f d,zn s f=some d->c9 P s f d
 mix:P.follows .mixedOrders=true
def oy:AV->Bool
 | .rd (.lit (.bool b))=>b
 | _=>false
def Fz:AV->Bool
 | .rd (.lit (.bool _))=>true
 | _=>false
theorem PF:∀ {x:AV},Fz x=true->x= .bool (oy x)
 | .rd (.lit (.bool _)),_=>rfl
def AB:AV->Bool
 | .rd (.lit _)=>true
 | _=>false
theorem Qc:∀ {x:AV},AB x=true->∃ v,x= .lit v
 | .rd (.lit v),_=>⟨v,rfl⟩
def gA (l:List AV):Nat->AV:=λi=>l.getD i .any
def mG (l:List Oper) (i:Nat):Option (Nat×Bool):=(l[i]?).bind (·.guard)
def mx (l:List Oper) (am:Nat->AV):Nat->Nat->Bool
 | 0,_=>true
 | f+1,i=>match mG l i with
  | none=>true
  | some q=>mx l am f q.1&& (oy (am q.1)==q.2)
def cnd (l:List Oper) (am:Nat->AV) (i:Nat):Bool:=mx l am (i+1) i
def rt (l:List Oper):Nat->Nat->List (Nat×Bool)
 | 0,_=>[]
 | f+1,i=>match mG l i with
  | none=>[]
  | some q=>q::rt l f q.1
def rq (l:List Oper):Bool:=l.zipIdx.all λx=>match x.1.guard with | none=>true | some q=>Nat.blt q.1 x.2
theorem EB {l:List Oper} (h:rq l=true) {i:Nat} {q:Nat×Bool} (hq:mG l i=some q):q.1<i:=by
 unfold mG at hq
 cases hi:l[i]? with
 | none=>rw[hi]at hq;cases hq
 | some o=>
  rw[hi]at hq
  have hg:o.guard=some q:=hq
  have:=all_eq_true.1 h (o,i) (by rw[List.mem_zipIdx_iff_getElem?];simpa using hi)
  simp only[hg]at this
  exact of_eq_true (Nat.blt_eq▸eq_true this)
theorem Lg {l:List Oper} (h:rq l=true) (am:Nat->AV):∀ i f,i+1<=f->mx l am f i=mx l am (i+1) i:=by
 intro i
 induction i using Nat.strongRecOn with
 | ind i ih=>
  intro f hf
  obtain⟨f,rfl⟩:∃ f',f=f'+1:=⟨f-1,oz⟩
  unfold mx
  cases hg:mG l i with
  | none=>rfl
  | some q=>
   have hq:=EB h hg
   simp only
   rw[ih q.1 hq f oz,ih q.1 hq i oz]
theorem Lh {l:List Oper} (h:rq l=true) (am:Nat->AV) {i:Nat} {q:Nat×Bool} (hq:mG l i=some q):cnd l am i=(cnd l am q.1&& (oy (am q.1)==q.2)):=by
 have hlt:=EB h hq
 rw[cnd,mx,hq]
 simp only
 rw[Lg h am q.1 i oz]
 rfl
theorem Li {l:List Oper} (am:Nat->AV) {i:Nat} (hq:mG l i=none):cnd l am i=true:=by
 rw[cnd,mx,hq]
theorem yO {l:List Oper} {am:Nat->AV}:∀ f i,mx l am f i=true↔ ∀ q∈rt l f i,(oy (am q.1)==q.2)=true
 | 0,i=>by simp[mx,rt]
 | f+1,i=>by
  rw[mx,rt]
  cases mG l i with
  | none=>simp
  | some q=>
   simp only[Bool.and_eq_true,List.mem_cons,forall_eq_or_imp]
   rw[yO f q.1]
   exact And.comm
def BD (q r:Nat×Bool):Bool:=Nat.beq q.1 r.1&&cond q.2 r.2 (!r.2)
theorem Uu {q r:Nat×Bool} (h:BD q r=true):q=r:=by
 obtain⟨a,b⟩:=q
 obtain⟨c,d⟩:=r
 simp only[BD,Bool.and_eq_true]at h
 obtain rfl:=Nat.eq_of_beq_eq_true h.1
 cases b<;>cases d<;>simp_all
def imp (l:List Oper) (ex:List (Nat×Bool)) (i j:Nat):Bool:=(rt l (j+1) j).all λq=>(ex++rt l (i+1) i).any λr=>BD q r
theorem PE {l:List Oper} {am:Nat->AV} {ex:List (Nat×Bool)} {i j:Nat} (h:imp l ex i j=true) (hc:cnd l am i=true) (hex:∀ q∈ex,(oy (am q.1)==q.2)=true):cnd l am j=true:=by
 refine(yO _ _).2 λq hq=>?_
 obtain⟨r,hr,he⟩:=List.any_eq_true.1 (all_eq_true.1 h q hq)
 rw[Uu he]
 rcases List.mem_append.1 hr with hr | hr
 · exact hex r hr
 · exact(yO _ _).1 hc r hr
def mX (s:Nat):List Oper->Nat->Nat->Option Nat
 | [],_,_=>none
 | _::_,_,0=>none
 | o::r,k,n+1=>match o.dst with
  | some d=>cond (Nat.beq d s) (some k) (mX s r (k+1) n)
  | none=>mX s r (k+1) n
theorem Hf {s:Nat}:∀ {l:List Oper} {k n j:Nat},mX s l k n=some j->∃ o,k<=j/\l[j-k]?=some o/\o.dst=some s
 | [],_,_,_,h=>by cases h
 | _::_,_,0,_,h=>by cases h
 | o::r,k,n+1,j,h=>by
  rw[mX]at h
  have key:mX s r (k+1) n=some j->∃ o',k<=j/\(o::r)[j-k]?=some o'/\o'.dst=some s:=λh=>by
   obtain⟨o',h1,h2,h3⟩:=Hf h
   exact⟨o',oz,by rw[show j-k=j-(k+1)+1 by omega];exact h2,h3⟩
  split at h
  · rename_i d hd
    cases hb:Nat.beq d s with
    | true=>
     rw[hb]at h
     simp only[cond_true,Option.some.injEq]at h
     subst h
     exact⟨o,Nat.le_refl _,by simp,by rw[hd,Nat.eq_of_beq_eq_true hb]⟩
    | false=>
     rw[hb]at h
     exact key h
  · exact key h
def rM:List (Nat×AV)->Nat->Option AV
 | [],_=>none
 | (k,x)::r,s=>cond (Nat.beq k s) (some x) (rM r s)
theorem AC:∀ {env:List (Nat×AV)} {s:Nat} {av:AV},rM env s=some av->∃ m:Nat,env[m]?=some (s,av)
 | [],_,_,h=>by cases h
 | (q,x)::r,s,av,h=>by
  rw[rM]at h
  cases hb:Nat.beq q s with
  | true=>
   rw[hb]at h
   simp only[cond_true,Option.some.injEq]at h
   exact⟨0,by rw[<-h,<-Nat.eq_of_beq_eq_true hb];rfl⟩
  | false=>
   rw[hb]at h
   obtain⟨m,hm⟩:=AC h
   exact⟨m+1,by simpa using hm⟩
def tQ:Value->Option AV
 | .string s=>cond (Nat.ble s.size maxLen) (some (.str s)) none
 | .agg _=>none
 | .tuple _=>none
 | v=>some (.lit v)
theorem FG {S:Nat->Prop} {w:World} {v:Value} {av:AV} (h:tQ v=some av):Rel S w av v:=by
 unfold tQ at h
 split at h
 · rename_i s
   cases hb:Nat.ble s.size maxLen with
   | true=>
    rw[hb]at h
    simp only[cond_true,Option.some.injEq]at h
    rw[<-h]
    exact Rel.aG _ (Nat.le_of_ble_eq_true hb)
   | false=>rw[hb]at h;cases h
 · cases h
 · cases h
 · rename_i h1 h2 h3
   cases h
   refine Rel.aG _ ?_
   cases v<;>first | exact True.intro | exact(h1 _ rfl).elim | exact(h2 _ rfl).elim | exact(h3 _ rfl).elim
def tY:List AV->Nat->Option AV
 | [],_=>none
 | x::_,0=>some x
 | _::r,n+1=>tY r n
theorem AZ:∀ {l:List AV} {n:Nat} {x:AV},tY l n=some x->gA l n=x
 | [],_,_,h=>by cases h
 | x::_,0,_,h=>by cases h;rfl
 | _::r,n+1,x,h=>by
  have:=AZ (l:=r) (n:=n) (x:=x) h
  simpa [gA]using this
def rdv (env:List (Nat×AV)) (l:List Oper) (am:Nat->AV) (ex:List (Nat×Bool)) (i:Nat) (dp:List Nat):Operand->Option AV
 | .const v=>tQ v
 | .func f=>some (.fn f [])
 | .tmp s=>match mX s l 0 i with
  | some j=>cond (dp.contains j&&imp l ex i j) (some (am j)) none
  | none=>cond (tp l i s) (rM env s) none
 | _=>none
def Bs (env:List (Nat×AV)) (l:List Oper) (al:List AV) (ex:List (Nat×Bool)) (i:Nat) (dp:List Nat):Operand->Option AV
 | .const v=>tQ v
 | .func f=>some (.fn f [])
 | .tmp s=>match mX s l 0 i with
  | some j=>cond (dp.contains j&&imp l ex i j) (tY al j) none
  | none=>cond (tp l i s) (rM env s) none
 | _=>none
theorem Bt {env:List (Nat×AV)} {l:List Oper} {al:List AV} {ex:List (Nat×Bool)} {i:Nat} {dp:List Nat} {x:Operand} {av:AV} (h:Bs env l al ex i dp x=some av):rdv env l (gA al) ex i dp x=some av:=by
 unfold Bs at h
 unfold rdv
 split at h
 · exact h
 · exact h
 · split at h
   · rename_i j hj
     cases hb:(dp.contains j&&imp l ex i j)with
     | false=>rw[hb]at h;cases h
     | true=>rw[hb]at h;exact congrArg some (AZ h)
   · exact h
 · cases h
section
variable {n:Rn} {P:Program} {K S1 S:Nat->Prop} {w0:World} {N:Nat} {env:List (Nat×AV)} {X:WP} {l:List Oper} {am:Nat->AV} {a:Act} {w:World} {o:Oper} {i:Nat}
theorem Bu {ex:List (Nat×Bool)} (hl:Look S w env l am (cnd l am) i a) (hi:l[i]?=some o) (hc:cnd l am i=true) (hex:∀ q∈ex,(oy (am q.1)==q.2)=true) {x:Operand} {av:AV} (h:rdv env l am ex i (cm o) x=some av):Rel S w av (a.eval x):=by
 unfold rdv at h
 split at h
 · exact FG h
 · cases h
   exact pc _
 · rename_i s
   split at h
   · rename_i j hj
     obtain⟨p,_,hp,hd⟩:=Hf hj
     cases hb:((cm o).contains j&&imp l ex i j)with
     | false=>rw[hb]at h;cases h
     | true=>
      rw[hb]at h
      simp only[cond_true,Option.some.injEq]at h
      rw[Bool.and_eq_true]at hb
      rw[<-h]
      exact hl.dep j s p (by simpa using hp) hd (by rw[hi];exact hb.1) (PE hb.2 hc hex)
   · cases hb:tp l i s with
     | false=>rw[hb]at h;cases h
     | true=>
      rw[hb]at h
      obtain⟨m,hm⟩:=AC h
      exact hl.env m s av hm hb
 · cases h
def Dj:CD->AV
 | .ptr cs=>.ptr cs
 | c=>.rd c
def PJ:CD->Bool
 | .ptr _=>true
 | _=>false
def Tf:CD->Option AV
 | .ptr cs=>some (.ptr cs)
 | _=>none
def FN (c:CD):Option AV:=cond (PJ c) (Tf c) (some (.rd c))
theorem Qf (c:CD):FN c=some (Dj c):=by cases c<;>rfl
def yY:Nat->List CD->Option AV
 | 0,cs=>some (.ptr cs)
 | d+1,_::cs=>yY d cs
 | _+1,[]=>none
theorem DK:∀ {d:Nat} {cs:List CD} {av:AV},yY d cs=some av->av= .ptr (cs.drop d)
 | 0,_,_,h=>by cases h;rfl
 | d+1,_::cs,_,h=>by rw[List.drop_succ_cons];exact DK (d:=d) (cs:=cs) h
 | _+1,[],_,h=>by cases h
def BW (k:Nat) (cs:List CD):Option AV:=cond (Nat.beq cs.length k) (some (.agg cs)) (cond (Nat.ble k cs.length) (some (.agg (cs.take k))) none)
theorem Vz {k:Nat} {cs:List CD} {av:AV} (h:BW k cs=some av):k<=cs.length/\av= .agg (cs.take k):=by
 unfold BW at h
 cases hb:Nat.beq cs.length k with
 | true=>
  rw[hb]at h
  cases h
  have:=Nat.eq_of_beq_eq_true hb
  exact⟨Nat.le_of_eq this.symm,by rw[<-this,List.take_length]⟩
 | false=>
  rw[hb]at h
  cases hc:Nat.ble k cs.length with
  | false=>rw[hc]at h;cases h
  | true=>rw[hc]at h;cases h;exact⟨Nat.le_of_ble_eq_true hc,rfl⟩
def vx (i j:Int):BinOp->Option AV
 | .lss=>some (.bool (decide (i<j)))
 | .leq=>some (.bool (decide (i<=j)))
 | .gtr=>some (.bool (decide (j<i)))
 | .geq=>some (.bool (decide (j<=i)))
 | .eql=>some (.bool (decide (i=j)))
 | .neq=>some (.bool (!decide (i=j)))
 | _=>none
def Dq (i j:BA):BinOp->Option AV
 | .lss=>some (.bool (Op.bytesLess i.toList j.toList))
 | .geq=>some (.bool (!Op.bytesLess i.toList j.toList))
 | .eql=>some (.bool (decide (i=j)))
 | .neq=>some (.bool (!decide (i=j)))
 | _=>none
def yL (op:BinOp):Option AV->Option AV->Option AV
 | some (.rd (.lit (.int .i64 i))),some (.rd (.lit (.int .i64 j)))=>vx i j op
 | some (.rd (.lit (.int .u8 i))),some (.rd (.lit (.int .u8 j)))=>vx i j op
 | some (.rd (.lit (.string s))),some (.rd (.lit (.string t)))=>Dq s t op
 | _,_=>none
def CB:Option AV->Option AV->Option AV
 | some (.rd (.lit (.bool g))),some (.rd (.lit (.bool b)))=>some (.bool (g&&b))
 | _,_=>none
def Gu:Option AV->Option AV->Option AV
 | some (.rd (.lit (.bool g))),some (.rd (.lit (.bool b)))=>some (.bool (g||b))
 | _,_=>none
def Au (l:List Oper) (i:Nat):Operand->Nat
 | .tmp s=>match mX s l 0 i with | some j=>j | none=>0
 | _=>0
def Gl (l:List Oper) (i:Nat) (dp:List Nat):Operand->Bool
 | .tmp s=>match mX s l 0 i with | some j=>dp.contains j | none=>false
 | _=>false
def ev (T:go P) (rd:List (Nat×Bool)->Operand->Option AV) (jo:Operand->Nat) (ro:Operand->Bool):Op->Option AV
 | .move x=>rd [] x
 | .assign x=>rd [] x
 | .nilCheck x=>match rd [] x with
  | some (.ptr cs)=>some (.ptr cs)
  | _=>none
 | .fieldAddr t x f=>match rd [] x with
  | some (.ptr cs)=>match T.zn t f with
   | some d=>yY d cs
   | none=>none
  | _=>none
 | .load t x=>match rd [] x with
  | some (.ptr cs)=>match T.one t with
   | true=>match cs with
    | c::_=>FN c
    | []=>none
   | false=>match T.agg t with
    | 0=>none
    | k+1=>BW (k+1) cs
  | _=>none
 | .extract x k=>match rd [] x with
  | some (.bJ l)=>l[k]?
  | _=>none
 | .unOp .not _ x=>match rd [] x with
  | some (.rd (.lit (.bool g)))=>some (.bool (!g))
  | _=>none
 | .binOp op _ x y _=>yL op (rd [] x) (rd [] y)
 | .pick z x (.const (.bool false))=>cond (ro z) (CB (rd [] z) (rd [(jo z,true)] x)) none
 | .pick z (.const (.bool true)) y=>cond (ro z) (Gu (rd [] z) (rd [(jo z,false)] y)) none
 | _=>none
def DO (T:go P) (env:List (Nat×AV)) (l:List Oper) (al:List AV) (i:Nat) (o:Oper):Option AV:=ev T (λex x=>Bs env l al ex i (cm o) x) (Au l i) (Gl l i (cm o)) o.op
theorem KW {c:CD} {v:Value} (h:Rel S w (.rd c) v):Rel S w (Dj c) v:=by
 cases c with
 | lit u=>exact h
 | sl r=>exact h
 | ptr cs=>exact Bh.1 h
theorem Le {op:BinOp} {x y:Operand} {t u:TypeId} {a1 a2:Option AV} {av:AV} (hop:o.op= .binOp op t x y u) (h:yL op a1 a2=some av) (h1:∀ b,a1=some b->Rel S w b (a.eval x)) (h2:∀ b,a2=some b->Rel S w b (a.eval y)) (Z:X w):Does n P o a w (bE S X av w):=by
 unfold yL at h
 split at h
 · have g1:=h1 _ rfl
   have g2:=h2 _ rfl
   cases op<;>simp only[vx,Option.some.injEq,reduceCtorEq]at h<;>subst h
   all_goals first | exact Bm hop g1 g2 Z | exact HB hop g1 g2 Z | exact Hx hop g1 g2 Z | exact Hw hop g1 g2 Z | exact Hp hop g1 g2 Z | exact HE hop g1 g2 Z
 · have g1:=h1 _ rfl
   have g2:=h2 _ rfl
   cases op<;>simp only[vx,Option.some.injEq,reduceCtorEq]at h<;>subst h
   all_goals first | exact Bm hop g1 g2 Z | exact HB hop g1 g2 Z | exact Hx hop g1 g2 Z | exact Hw hop g1 g2 Z | exact Hp hop g1 g2 Z | exact HE hop g1 g2 Z
 · have g1:=h1 _ rfl
   have g2:=h2 _ rfl
   cases op<;>simp only[Dq,Option.some.injEq,reduceCtorEq]at h<;>subst h
   all_goals first | exact TF hop g1 g2 Z | exact Tx hop g1 g2 Z | exact Tw hop g1 g2 Z | exact TG hop g1 g2 Z
 · cases h
theorem DP (T:go P) {rd:List (Nat×Bool)->Operand->Option AV} {jo:Operand->Nat} {ro:Operand->Bool} {av:AV} (h:ev T rd jo ro o.op=some av) (hr:∀ x b,rd [] x=some b->Rel S w b (a.eval x))
 (hj:∀ z g,ro z=true->rd [] z=some (.bool g)->∀ x b,rd [(jo z,g)] x=some b->Rel S w b (a.eval x)) (Z:X w):Does n P o a w (bE S X av w):=by
 generalize hop:o.op=p at h
 unfold ev at h
 split at h
 · exact b8 hop (hr _ _ h) Z
 · exact gO hop (hr _ _ h) Z
 · split at h
   · rename_i g;cases h;exact kC hop (hr _ _ g) Z
   · cases h
 · split at h
   · rename_i g
     split at h
     · rename_i g2;rw[DK h];exact ca (T.h3 _ _ _ g2) hop (hr _ _ g) Z
     · cases h
   · cases h
 · split at h
   · rename_i g
     split at h
     · rename_i g1
       split at h
       · rw[Qf]at h
         cases h
         exact bC (bU (T.h1 _ g1) hop (hr _ _ g) Z) λ_ _ hp=>⟨KW hp.1,hp.2⟩
       · cases h
     · split at h
       · cases h
       · rename_i k g2
         obtain⟨h1,rfl⟩:=Vz h
         exact jB (T.h2 _ _ g2) hop (hr _ _ g) h1 Z
   · cases h
 · split at h
   · rename_i g;exact gi hop (hr _ _ g) h Z
   · cases h
 · split at h
   · rename_i g;cases h;exact Bo hop (hr _ _ g) Z
   · cases h
 · exact Le hop h (λb hb=>hr _ _ hb) (λb hb=>hr _ _ hb) Z
 · rename_i z x
   cases hb:ro z with
   | false=>rw[hb]at h;cases h
   | true=>
    rw[hb]at h
    simp only[cond_true]at h
    unfold CB at h
    split at h
    · rename_i g b e1 e2
      cases h
      refine Tn hop (hr _ _ e1) (λhg=>?_) Z
      subst hg
      exact hj z true hb e1 _ _ e2
    · cases h
 · rename_i z y _
   cases hb:ro z with
   | false=>rw[hb]at h;cases h
   | true=>
    rw[hb]at h
    simp only[cond_true]at h
    unfold Gu at h
    split at h
    · rename_i g b e1 e2
      cases h
      refine Bp hop (hr _ _ e1) (λhg=>?_) Z
      subst hg
      exact hj z false hb e1 _ _ e2
    · cases h
 · cases h
theorem My (T:go P) {al:List AV} {av:AV} (h:DO T env l al i o=some av) (hl:Look S w env l (gA al) (cnd l (gA al)) i a) (hi:l[i]?=some o) (hc:cnd l (gA al) i=true) (Z:X w):Does n P o a w (bE S X av w):=by
 refine DP T h (λx b hb=>Bu hl hi hc (λq hq=>by cases hq) (Bt hb)) (λz g hz hg x b hb=>Bu hl hi hc (λq hq=>?_) (Bt hb)) Z
 obtain rfl:q=(Au l i z,g):=by simpa using hq
 cases z with
 | tmp s=>
  simp only[Gl]at hz
  replace hg:=Bt hg
  simp only[rdv]at hg
  cases hp:mX s l 0 i with
  | none=>rw[hp]at hz;cases hz
  | some j=>
   rw[hp]at hg
   simp only at hg
   cases hb2:((cm o).contains j&&imp l [] i j)with
   | false=>rw[hb2]at hg;cases hg
   | true=>
    rw[hb2]at hg
    simp only[cond_true,Option.some.injEq]at hg
    simp[Au,hp,hg,oy]
 | _=>cases hz
end
def pW:List Nat->Nat->Bool
 | [],_=>false
 | k::r,i=>cond (Nat.beq k i) true (pW r i)
def jw {P:Program} (T:go P) (env:List (Nat×AV)) (l:List Oper) (al:List AV) (hs:List Nat):Nat->List Oper->List (Option AV)
 | _,[]=>[]
 | i,o::r=>cond (pW hs i) (tY al i) (DO T env l al i o)::jw T env l al hs (i+1) r
def jG:List AV->List (Option AV)
 | []=>[]
 | x::r=>some x::jG r
def zH (l:List Oper) (am:Nat->AV) (o:Oper):Bool:=match o.guard with
 | none=>true
 | some q=>(match l[q.1]? with | some p=>p.dst.isSome | none=>false)&&Fz (am q.1)&& (cm o).contains q.1
def jP (l:List Oper) (am:Nat->AV):List Oper->Bool
 | []=>true
 | o::r=>zH l am o&&jP l am r
def jt (p:Nat->Oper->Prop) (hs:List Nat):Nat->List Oper->Prop
 | _,[]=>True
 | i,o::r=>match pW hs i with
  | true=>p i o/\jt p hs (i+1) r
  | false=>jt p hs (i+1) r
def er (n:Rn) (P:Program) (K S:Nat->Prop) (w0:World) (env:List (Nat×AV)) (X:WP) (l:List Oper) (am:Nat->AV) (i:Nat) (o:Oper):Prop:=
 ∀ a w,Keeps K w0 w->X w->Look S w env l am (cnd l am) i a->cnd l am i=true->Does n P o a w (bE S X (am i) w)
def kr (l:List Oper) (N:Nat):Bool:=jH l&&i5 l N&&lf l&&rq l
def kl (b:Bool) (env:List (Nat×AV)) (l:List Oper) (al:List AV) (c:Nat):Option (Nat×AV):=
 match Nat.ble 1000 c with
 | false=>match env[c]? with
  | some (s,av)=>cond (l.all λo=>o.dst !=some s) (some (s,av)) none
  | none=>none
 | true=>match(l[c-1000]?).bind (·.dst)with
  | some s=>cond (cnd l (gA al) (c-1000)&& (!b||AB (gA al (c-1000)))) (match tY al (c-1000)with | some x=>some (s,x) | none=>none) none
  | none=>none
section
variable {n:Rn} {P:Program} {K S1 S:Nat->Prop} {w0:World} {N:Nat} {env env':List (Nat×AV)} {X:WP} {l:List Oper}
theorem EE {am:Nat->AV} {i:Nat} {o:Oper} (hg:zH l am o=true) (hb:rq l=true) (hi:l[i]?=some o):lF l am (cnd l am) i o:=by
 unfold lF
 unfold zH at hg
 have hq:mG l i=o.guard:=by unfold mG;rw[hi];rfl
 split
 · rename_i h
   rw[h]at hq
   exact Li am hq
 · rename_i j pol h
   rw[h]at hq hg
   simp only[Bool.and_eq_true]at hg
   obtain⟨⟨g1,g2⟩,g3⟩:=hg
   cases hj:l[j]? with
   | none=>rw[hj]at g1;cases g1
   | some p=>
    rw[hj]at g1
    obtain⟨d,hd⟩:=Option.isSome_iff_exists.1 g1
    exact⟨oy (am j),p,d,rfl,hd,PF g2,Lh hb am hq,g3⟩
theorem A1 (T:go P) {al:List AV} {hs:List Nat} (hb:rq l=true):∀(r:List Oper) (k:Nat) (ar:List AV),(∀ i o,r[i]?=some o->l[k+i]?=some o)->(∀ i,gA ar i=gA al (k+i))->jw T env l al hs k r=jG ar->jP l (gA al) r=true->jt (er n P K S w0 env X l (gA al)) hs k r->
 la (Ob n P K S w0 env X l (gA al) (cnd l (gA al))) k r
 | [],_,_,_,_,_,_,_=>trivial
 | o::r,_,[],_,_,he,_,_=>by simp[jw,jG]at he
 | o::r,k,x::ar,hl,ha,he,hg,ho=>by
  have hi:l[k]?=some o:=by simpa using hl 0 o rfl
  simp only[jw,jG,List.cons.injEq]at he
  simp only[jP,Bool.and_eq_true]at hg
  rw[jt]at ho
  have hrest:∀ i o',r[i]?=some o'->l[k+1+i]?=some o':=λi o' h=>by rw[show k+1+i=k+(i+1) by omega];exact hl (i+1) o' (by simpa using h)
  have EN:∀ i,gA ar i=gA al (k+1+i):=λi=>by rw[show k+1+i=k+(i+1) by omega,<-ha (i+1)];simp[gA]
  have Z:gA al k=x:=by have:=ha 0;simpa [gA]using this.symm
  cases hh:pW hs k with
  | true=>
   rw[hh]at ho
   exact⟨⟨EE hg.1 hb hi,ho.1⟩,A1 T hb r (k+1) ar hrest EN he.2 hg.2 ho.2⟩
  | false=>
   rw[hh]at ho he
   exact⟨⟨EE hg.1 hb hi,λa w _ Pj OM hc=>by rw[Z];exact My T he.1 OM hi hc Pj⟩,A1 T hb r (k+1) ar hrest EN he.2 hg.2 ho⟩
theorem Ez {b:Bool} {al:List AV} (hb:b=false->∀ k,S k->S1 k):∀(ks:List Nat) (env':List (Nat×AV)),ks.map (kl b env l al)=env'.map some->sx S1 S env l (gA al) (cnd l (gA al)) env'
 | [],[],_=>trivial
 | [],_::_,h=>by cases h
 | _::_,[],h=>by cases h
 | c::ks,p::env',h=>by
  simp only[List.map_cons,List.cons.injEq]at h
  refine⟨?_,Ez hb ks env' h.2⟩
  have h1:=h.1
  unfold kl at h1
  split at h1
  · split at h1
    · rename_i s av hq
      cases Z:(l.all λo=>o.dst !=some s)with
      | false=>rw[Z]at h1;cases h1
      | true=>rw[Z]at h1;cases h1;exact .old c _ _ hq Z
    · cases h1
  · split at h1
    · rename_i s hs
      cases Z:(cnd l (gA al) (c-1000)&& (!b||AB (gA al (c-1000))))with
      | false=>rw[Z]at h1;cases h1
      | true=>
       rw[Z]at h1
       simp only[cond_true]at h1
       split at h1
       · rename_i x hn
         obtain rfl:=AZ hn
         cases h1
         rw[Bool.and_eq_true]at Z
         refine .new (c-1000) _ _ hs Z.1 rfl ?_
         cases b with
         | false=>exact .inr (hb rfl)
         | true=>exact .inl (Qc (by simpa using Z.2))
       · cases h1
    · cases h1
theorem Bw {b:Bool} {id:Nat} {draw:Bool} {Q:Exit->Act->WP} (T:go P) (ks:List Nat) (bu:List AV) (hs:List Nat) (env':List (Nat×AV)) (hf:ks.map (kl b env l bu)=env'.map some) (hk:kr l N=true) (he:jw T env l bu hs 0 l=jG bu) (hg:jP l (gA bu) l=true)
 (hsub:∀ k,S1 k->S k) (hb:b=false->∀ k,S k->S1 k) (Z:∀ w,X w->X w.drew) (ob:jt (er n P K S w0 env X l (gA bu)) hs 0 l) (hq:∀ a w,St K S1 w0 N env' X a w->Q .normal a w):Tr n P (St K S1 w0 N env X) (.region id l.toArray draw) Q:=λa w h=>by
 simp only[kr,Bool.and_eq_true]at hk
 exact HR (gA bu) (cnd l (gA bu)) env' h hsub T.mix hk.1.1.1 hk.1.1.2 hk.1.2 Z (A1 T hk.2 l 0 bu (λi o h=>by simpa using h) (λi=>by rw[Nat.zero_add]) he hg ob) (Ez hb ks env' hf) hq
theorem rg {id:Nat} {draw:Bool} {Q:Exit->Act->WP} (T:go P) (V:aS X) (ks:List Nat) (bu:List AV) (hs:List Nat) (env':List (Nat×AV)) (hf:ks.map (kl false env l bu)=env'.map some) (hk:kr l N=true) (he:jw T env l bu hs 0 l=jG bu) (hg:jP l (gA bu) l=true)
 (ob:jt (er n P K S w0 env X l (gA bu)) hs 0 l) (hq:∀ a w,St K S w0 N env' X a w->Q .normal a w):Tr n P (St K S w0 N env X) (.region id l.toArray draw) Q:=
 Bw T ks bu hs env' hf hk he hg (λ_ h=>h) (λ_ _ h=>h) V.drew ob hq
theorem xm {J:WP} {lo:Nat} {O:List OB} {id:Nat} {draw:Bool} {Q:Exit->Act->WP} (T:go P) (V:aS J) (ks:List Nat) (bu:List AV) (hs:List Nat) (env':List (Nat×AV)) (hf:ks.map (kl false env l bu)=env'.map some) (hk:kr l N=true) (he:jw T env l bu hs 0 l=jG bu) (hg:jP l (gA bu) l=true)
 (ob:jt (er n P K (SO S O) w0 env (XO J S lo O) l (gA bu)) hs 0 l) (hq:∀ a w,St K (SO S O) w0 N env' (XO J S lo O) a w->Q .normal a w):Tr n P (St K (SO S O) w0 N env (XO J S lo O)) (.region id l.toArray draw) Q:=
 Bw T ks bu hs env' hf hk he hg (λ_ h=>h) (λ_ _ h=>h) (fi V).drew ob hq
theorem Ub {J:WP} {lo:Nat} {O:List OB} {id:Nat} {draw:Bool} {Q:Exit->Act->WP} (T:go P) (V:aS J) (ks:List Nat) (bu:List AV) (hs:List Nat) (env':List (Nat×AV)) (hf:ks.map (kl true env l bu)=env'.map some) (hk:kr l N=true) (he:jw T env l bu hs 0 l=jG bu) (hg:jP l (gA bu) l=true)
 (ob:jt (er n P K S w0 env (XO J S lo O) l (gA bu)) hs 0 l) (hq:∀ a w,St K (SO S O) w0 N env' (XO J S lo O) a w->Q .normal a w):Tr n P (St K (SO S O) w0 N env (XO J S lo O)) (.region id l.toArray draw) Q:=
 Bw (b:=true) T ks bu hs env' hf hk he hg (λ_ h=>h.1) (λe=>by cases e) (fi V).drew ob hq
theorem lb {m k:Nat} (h:Nat.ble m k=true):m<=k:=Nat.le_of_ble_eq_true h
theorem mo {α:Type} {l:List α} {x:α} (i:Nat) (h:l[i]?=some x):x∈l:=List.mem_of_getElem? h
theorem nx {A:Act->WP} {c:Code} {Q:Exit->Act->WP} (h:Tr n P A c Q):∀ a w,A a w->c.wpIn n.F n.d P Q a w:=h
end

theorem EO:∀ {l:List Nat} {i:Nat},pW l i=true->i∈l
 | [],_,h=>by cases h
 | k::r,i,h=>by
  rw[pW]at h
  cases hb:Nat.beq k i with
  | true=>rw[Nat.eq_of_beq_eq_true hb];exact List.mem_cons_self ..
  | false=>rw[hb]at h;exact List.mem_cons_of_mem _ (EO h)
def wJ:List (Nat×Nat)->Nat->Nat
 | [],_=>0
 | p::r,t=>cond (Nat.beq p.1 t) p.2 (wJ r t)
theorem FL:∀ {l:List (Nat×Nat)} {t k:Nat},wJ l t=k+1->(t,k+1)∈l
 | [],_,_,h=>by cases h
 | p::r,t,k,h=>by
  rw[wJ]at h
  cases hb:Nat.beq p.1 t with
  | true=>
   rw[hb]at h
   simp only[cond_true]at h
   rw[<-Nat.eq_of_beq_eq_true hb,<-h]
   exact List.mem_cons_self ..
  | false=>rw[hb]at h;exact List.mem_cons_of_mem _ (FL h)
def wK:List (Nat×Nat×Nat)->Nat->Nat->Option Nat
 | [],_,_=>none
 | p::r,s,f=>cond (Nat.beq p.1 s&&Nat.beq p.2.1 f) (some p.2.2) (wK r s f)
theorem FM:∀ {l:List (Nat×Nat×Nat)} {s f d:Nat},wK l s f=some d->(s,f,d)∈l
 | [],_,_,_,h=>by cases h
 | p::r,s,f,d,h=>by
  rw[wK]at h
  cases hb:(Nat.beq p.1 s&&Nat.beq p.2.1 f)with
  | true=>
   rw[hb]at h
   simp only[cond_true,Option.some.injEq]at h
   rw[Bool.and_eq_true]at hb
   rw[<-Nat.eq_of_beq_eq_true hb.1,<-Nat.eq_of_beq_eq_true hb.2,<-h]
   exact List.mem_cons_self ..
  | false=>rw[hb]at h;exact List.mem_cons_of_mem _ (FM h)
end
end Go.Proofs.YtdfadihhfppjaaaGreatDoor
