/-
  CONTRACTS: strings.IndexRune at a rune beyond ASCII in a text of ASCII bytes.
  CONTRACTS: whether a word can stand in a proof (layout.isProof), over runes; the plain law: over bytes.
  THE ENGINE: what operations put, reckoned by a function of the operations.
-/
import Derived.Test.YtdfadihhfppjaaaGreatDoorQP
import Derived.Laws.Runes
import Derived.Laws.RangeString
import Derived.Laws.Strings3
import Derived.Deep.LoopGhost
import Derived.Lib.IndexAny
import Derived.Deep.QuietTactic
import Derived.WalkMore
import Derived.Test.YtdfadihhfppjaaaGreatDoorQM
namespace Go.Proofs.YtdfadihhfppjaaaGreatDoor
open Go.Proofs.Tryz (prog)
open Go.RowKit Go.Shelf Go.Lib
def dots:BA:=⟨#[45,95,46,63]⟩
theorem ZbS:∀ b∈dots.data.toList,b.toNat<128:=by decide
theorem Zhf (i:Nat) (h:i<dots.size):(dots[i]'h).toNat<128:=ZbS _ (Array.getElem_mem_toList (xs:=dots.data) h)
set_option maxHeartbeats 2000000 in
set_option maxRecDepth 1000000 in
theorem Zft (w:World):Calls prog 268 #[.string dots,.int .i32 65533] w fun e w'=>e= .returned (.int .i64 (-1))∧Below w.heap.size w w':=by
 obtain⟨s,hs⟩:∃ s,dots=s:=⟨_,rfl⟩
 have HA:Hid (∀(i:Nat) (h:i<s.size),(s[i]'h).toNat<128):=by rw[←hs];exact Zhf
 rw[hs]
 clear hs
 go_enter Tryz.func268,Tryz.ntmps268
 go_wp2
 go_loopg [5,6] s.size (fun g _ _ wx=>∃ i:Nat,i+g=s.size∧wx=w.iter s i)
 case atStart=>exact⟨0,oz,rfl⟩
 case round=>
  obtain⟨i,hig,rfl⟩:=hrel
  cases gk with
  | zero=>
   obtain rfl:i=s.size:=by omega
   have hnx:=run_next_end (P:=prog) w s s.size
   go_wp2
   go_ret
   exact⟨rfl,(Below.refl _ _).alloc nlr _⟩
  | succ g=>
   have hi:i<s.size:=by omega
   obtain⟨x,hx⟩:∃ x:UInt8,s[i]'hi=x:=⟨_,rfl⟩
   have hx128:x.toNat<128:=by rw[←hx];exact HA.out i hi
   have hnx:=fun ty=>run_next_ascii (P:=prog) w s i ty hi (by rw[hx];exact hx128)
   rw[hx]at hnx
   clear hx
   have hne:¬ ((x.toNat:Int)=65533):=by omega
   go_wp2
   go_roundg g
   case measure=>omega
   case rel=>exact⟨i+1,oz,rfl⟩
set_option maxHeartbeats 2000000 in
set_option maxRecDepth 1000000 in
theorem Zdr (r:Int) (w:World) (h0:128≤r) (h1:¬ r=65533) (hv:Lib.validRune r=false):Calls prog 268 #[.string dots,.int .i32 r] w fun e w'=>e= .returned (.int .i64 (-1))∧w'=w:=by
 obtain⟨s,hs⟩:∃ s,dots=s:=⟨_,rfl⟩
 rw[hs]
 clear hs
 have h2:¬ r<128:=by omega
 have h3:(0:Int)≤r:=by omega
 go_enter Tryz.func268,Tryz.ntmps268
 go_wp2_with (go_at_call 271;refine(Tryz.utf8_ValidRune _ _).mono ?_;rintro e w' ⟨rfl,hw⟩;rw[hw,hv])
 go_ret
 exact⟨rfl,rfl⟩
theorem Zg7 {l:List UInt8} {c:UInt8} (hs:∀ b∈l,b.toNat<128) (hc:128≤c.toNat):Lib.indexByte l c<0:=by
 have:=Lib.contains_iff_indexByte l c
 have h2:l.contains c=false:=by
  rw[←Bool.not_eq_true,List.contains_iff_mem]
  intro h
  have:=hs c h
  omega
 rw[h2]at this
 have:=of_decide_eq_false this.symm
 omega
theorem Zta (r:Int) (h0:128≤r) (hv:Lib.validRune r=true):∃ n:Nat,(Utf8.encode r).size=n+1∧(n=1∨n=2∨n=3)∧∃ c:UInt8,(∀ h:n< (Utf8.encode r).size,(Utf8.encode r)[n]'h=c)∧128≤c.toNat:=by
 obtain⟨e1,e2,e3⟩:=encode_facts r (by rw[validRune_eq];exact hv) h0
 exact⟨(Utf8.encode r).size-1,oz,oz,_,fun _=>rfl,e3 oz⟩
set_option maxHeartbeats 4000000 in
set_option maxRecDepth 1000000 in
theorem ZfI (r:Int) (w:World) (h0:128≤r) (h1:¬ r=65533) (hv:Lib.validRune r=true) (t:BA) (ht:Utf8.encode r=t) (hk:t.size=2) (c:UInt8) (hc:∀ h:1<t.size,t[1]'h=c) (hc1:128≤c.toNat):Calls prog 268 #[.string dots,.int .i32 r] w fun e w'=>e= .returned (.int .i64 (-1))∧Below w.heap.size w w':=by
 obtain⟨s,hs⟩:∃ s,dots=s:=⟨_,rfl⟩
 have hsz:s.size=4:=by rw[←hs];rfl
 obtain⟨x,hx⟩:∃ x,s[1]'(by omega)=x:=⟨_,rfl⟩
 have hx1:x.toNat<128:=by subst hs;rw[←hx];exact Zhf 1 dz
 have hIB:∃ m:Int,m<0∧∀ w,Calls prog 270 #[.string (s.extract 2 4),.int .u8 (c.toNat:Int)] w fun e w'=>e= .returned (.int .i64 m)∧w'=w:=by
  refine⟨_,Zg7 (l:=(s.extract 2 4).data.toList) (fun b hb=>?_) hc1,fun w=>?_⟩
  · rw[←hs]at hb;exact ZbS b (mem_extract hb)
  · have:=Tryz.strings_IndexByte (s.extract 2 4) (c.toNat:Int) w
    rwa [show((c.toNat:Int)).toNat.toUInt8=c by simp]at this
 obtain⟨m,hm,hIB⟩:=hIB
 have hcc:=hc oz
 rw[hs]
 clear hs hc
 have h2:¬ r<128:=by omega
 have h3:(0:Int)≤r:=by omega
 have hne:((x.toNat:Int)!= (c.toNat:Int))=true:=by simp;omega
 go_enter Tryz.func268,Tryz.ntmps268
 go_wp2_with (go_at_call 271;refine(Tryz.utf8_ValidRune _ _).mono ?_;rintro e w' ⟨rfl,hw⟩;rw[hw,hv])
 go_step3
 go_wp2
 go_loopg [9,10] 1 (fun _ x9 _ wx=>x9= .int .i64 1∧wx=w)
 case atStart=>exact⟨rfl,rfl⟩
 case round=>
  obtain⟨rfl,rfl⟩:=hrel
  go_wp2
  go_step3
  go_wp2
  go_quiet (fail)
  go_wp2
  have hwr:IntKind.i64.wrap 2=2:=by decide
  go_quiet (exact(hIB _).mono fun e w' h=>⟨h.1,_,h.2⟩)
  go_wp2
  simp only[Exit.noGoto_ret,Exit.inBlock,Exit.then]
  go_ret
  exact⟨rfl,below_drewNg _ _⟩
set_option maxHeartbeats 4000000 in
set_option maxRecDepth 1000000 in
theorem ZfH (r:Int) (w:World) (h0:128≤r) (h1:¬ r=65533) (hv:Lib.validRune r=true) (t:BA) (ht:Utf8.encode r=t) (hk:t.size=3) (c:UInt8) (hc:∀ h:2<t.size,t[2]'h=c) (hc1:128≤c.toNat):Calls prog 268 #[.string dots,.int .i32 r] w fun e w'=>e= .returned (.int .i64 (-1))∧Below w.heap.size w w':=by
 obtain⟨s,hs⟩:∃ s,dots=s:=⟨_,rfl⟩
 have hsz:s.size=4:=by rw[←hs];rfl
 obtain⟨x,hx⟩:∃ x,s[2]'(by omega)=x:=⟨_,rfl⟩
 have hx1:x.toNat<128:=by subst hs;rw[←hx];exact Zhf 2 dz
 have hIB:∃ m:Int,m<0∧∀ w,Calls prog 270 #[.string (s.extract 3 4),.int .u8 (c.toNat:Int)] w fun e w'=>e= .returned (.int .i64 m)∧w'=w:=by
  refine⟨_,Zg7 (l:=(s.extract 3 4).data.toList) (fun b hb=>?_) hc1,fun w=>?_⟩
  · rw[←hs]at hb;exact ZbS b (mem_extract hb)
  · have:=Tryz.strings_IndexByte (s.extract 3 4) (c.toNat:Int) w
    rwa [show((c.toNat:Int)).toNat.toUInt8=c by simp]at this
 obtain⟨m,hm,hIB⟩:=hIB
 have hcc:=hc oz
 rw[hs]
 clear hs hc
 have h2:¬ r<128:=by omega
 have h3:(0:Int)≤r:=by omega
 have hne:((x.toNat:Int)!= (c.toNat:Int))=true:=by simp;omega
 go_enter Tryz.func268,Tryz.ntmps268
 go_wp2_with (go_at_call 271;refine(Tryz.utf8_ValidRune _ _).mono ?_;rintro e w' ⟨rfl,hw⟩;rw[hw,hv])
 go_step3
 go_wp2
 go_loopg [9,10] 1 (fun _ x9 _ wx=>x9= .int .i64 2∧wx=w)
 case atStart=>exact⟨rfl,rfl⟩
 case round=>
  obtain⟨rfl,rfl⟩:=hrel
  go_wp2
  go_step3
  go_wp2
  go_quiet (fail)
  go_wp2
  have hwr:IntKind.i64.wrap 3=3:=by decide
  go_quiet (exact(hIB _).mono fun e w' h=>⟨h.1,_,h.2⟩)
  go_wp2
  simp only[Exit.noGoto_ret,Exit.inBlock,Exit.then]
  go_ret
  exact⟨rfl,below_drewNg _ _⟩
set_option maxHeartbeats 4000000 in
set_option maxRecDepth 1000000 in
theorem ZfG (r:Int) (w:World) (h0:128≤r) (h1:¬ r=65533) (hv:Lib.validRune r=true) (t:BA) (ht:Utf8.encode r=t) (hk:t.size=4) (c:UInt8) (hc:∀ h:3<t.size,t[3]'h=c) (hc1:128≤c.toNat):Calls prog 268 #[.string dots,.int .i32 r] w fun e w'=>e= .returned (.int .i64 (-1))∧Below w.heap.size w w':=by
 obtain⟨s,hs⟩:∃ s,dots=s:=⟨_,rfl⟩
 have hsz:s.size=4:=by rw[←hs];rfl
 obtain⟨x,hx⟩:∃ x,s[3]'(by omega)=x:=⟨_,rfl⟩
 have hx1:x.toNat<128:=by subst hs;rw[←hx];exact Zhf 3 dz
 have hIB:∃ m:Int,m<0∧∀ w,Calls prog 270 #[.string (s.extract 4 4),.int .u8 (c.toNat:Int)] w fun e w'=>e= .returned (.int .i64 m)∧w'=w:=by
  refine⟨_,Zg7 (l:=(s.extract 4 4).data.toList) (fun b hb=>?_) hc1,fun w=>?_⟩
  · rw[←hs]at hb;exact ZbS b (mem_extract hb)
  · have:=Tryz.strings_IndexByte (s.extract 4 4) (c.toNat:Int) w
    rwa [show((c.toNat:Int)).toNat.toUInt8=c by simp]at this
 obtain⟨m,hm,hIB⟩:=hIB
 have hIB2:=hIB
 rw[show s.extract 4 4=ByteArray.empty by simp]at hIB2
 have hcc:=hc oz
 rw[hs]
 clear hs hc
 have h2:¬ r<128:=by omega
 have h3:(0:Int)≤r:=by omega
 have hne:((x.toNat:Int)!= (c.toNat:Int))=true:=by simp;omega
 go_enter Tryz.func268,Tryz.ntmps268
 go_wp2_with (go_at_call 271;refine(Tryz.utf8_ValidRune _ _).mono ?_;rintro e w' ⟨rfl,hw⟩;rw[hw,hv])
 go_step3
 go_wp2
 go_loopg [9,10] 1 (fun _ x9 _ wx=>x9= .int .i64 3∧wx=w)
 case atStart=>exact⟨rfl,rfl⟩
 case round=>
  obtain⟨rfl,rfl⟩:=hrel
  go_wp2
  go_step3
  go_wp2
  go_quiet (fail)
  go_wp2
  have hwr:IntKind.i64.wrap 4=4:=by decide
  go_quiet (exact(hIB2 _).mono fun e w' h=>⟨h.1,_,h.2⟩)
  go_wp2
  simp only[Exit.noGoto_ret,Exit.inBlock,Exit.then]
  go_ret
  exact⟨rfl,below_drewNg _ _⟩
theorem ZhE (r:Int) (w:World) (h0:128≤r):Calls prog 268 #[.string dots,.int .i32 r] w fun e w'=>e= .returned (.int .i64 (-1))∧Below w.heap.size w w':=by
 by_cases h1:r=65533
 · subst h1;exact Zft w
 cases hv:Lib.validRune r with
 | false=>exact(Zdr r w h0 h1 hv).mono fun e w' h=>⟨h.1,h.2▸Below.refl _ _⟩
 | true=>
  obtain⟨n,hn,hk,c,hc,hc1⟩:=Zta r h0 hv
  rcases hk with rfl | rfl | rfl
  · exact ZfI r w h0 h1 hv _ rfl hn c hc hc1
  · exact ZfH r w h0 h1 hv _ rfl hn c hc hc1
  · exact ZfG r w h0 h1 hv _ rfl hn c hc hc1
set_option maxHeartbeats 1000000 in
set_option maxRecDepth 1000000 in
theorem ZdM (r:Int) (w:World) (h0:128≤r):Calls prog 266 #[.string dots,.int .i32 r] w fun e w'=>e= .returned (.bool false)∧Below w.heap.size w w':=by
 obtain⟨s,hs⟩:∃ s,dots=s:=⟨_,rfl⟩
 have hI:=ZhE r w h0
 rw[hs]at hI ⊢
 clear hs
 go_enter Tryz.func266,Tryz.ntmps266
 go_wp2_with (go_at_call 268;refine hI.mono ?_;rintro e w' ⟨rfl,hb⟩)
 go_ret
 exact⟨rfl,hb⟩
def ZnR (x:Nat):Bool:=!(((decide (97≤x∧x≤122)||decide (65≤x∧x≤90))||decide (48≤x∧x≤57))|| (decide (x<128)&&dots.data.toList.contains x.toUInt8))
set_option maxHeartbeats 4000000 in
set_option maxRecDepth 1000000 in
theorem Znn (x:Nat) (w:World):Calls prog 265 #[.int .i32 (x:Int)] w fun e w'=>e= .returned (.bool (ZnR x))∧Below w.heap.size w w':=by
 have hC:∃ b,(x<128→b=dots.data.toList.contains x.toUInt8)∧(128≤x→b=false)∧∀ w,Calls prog 266 #[.string ⟨#[45,95,46,63]⟩,.int .i32 (x:Int)] w fun e w'=>e= .returned (.bool b)∧Below w.heap.size w w':=by
  by_cases h:x<128
  · refine⟨dots.data.toList.contains x.toUInt8,fun _=>rfl,fun h'=>by omega,fun w=>?_⟩
    have:=Tryz.strings_ContainsRune_ascii dots (x:Int) w oz oz
    rw[show((x:Int)).toNat.toUInt8=x.toUInt8 by simp,←Lib.contains_iff_indexByte]at this
    exact this.mono fun e w' h=>⟨h.1,h.2▸Below.refl _ _⟩
  · exact⟨false,fun h'=>absurd h' h,fun _=>rfl,fun w=>ZdM x w oz⟩
 obtain⟨b,hb1,hb2,hC⟩:=hC
 have hspec:ZnR x= !(((decide (97≤x∧x≤122)||decide (65≤x∧x≤90))||decide (48≤x∧x≤57))||b):=by
  unfold ZnR
  by_cases h:x<128
  · rw[hb1 h];simp[h]
  · rw[hb2 oz];simp[h]
 rw[hspec]
 clear hspec hb1 hb2
 have HC:=hC w
 clear hC
 go_enter Tryz.func265,Tryz.ntmps265
 by_cases c1:97≤x<;>by_cases c2:x≤122<;>by_cases c3:65≤x<;>by_cases c4:x≤90<;>by_cases c5:48≤x<;>by_cases c6:x≤57
 all_goals first | (exfalso;omega) | skip
 all_goals
  go_wp2_with (go_at_call 266;refine HC.mono ?_;rintro e w' ⟨rfl,hb⟩)
  go_ret
  exact⟨by first | (simp[c1,c2,c3,c4,c5,c6];done) | (simp[c1,c2,c3,c4,c5,c6];omega),by first | exact hb | exact Below.refl _ _⟩
end Go.Proofs.YtdfadihhfppjaaaGreatDoor
namespace Go.Proofs.YtdfadihhfppjaaaGreatDoor
open Go.RowKit Go.Shelf Go.Lib
theorem Zmy {x:Nat} (h:128≤x):ZnR x=true:=by
 simp[ZnR,show ¬ x<128 by omega,show ¬ x≤122 by omega,show ¬ x≤90 by omega,show ¬ x≤57 by omega]
def Zul (c:UInt8):Bool:=(!decide ((c.toNat:Int)=(63:Int)))&&Zx5 c
theorem Zuk:∀ n:Fin 256,ZnR (UInt8.ofNat n).toNat=Zul (UInt8.ofNat n):=by decide+kernel
theorem Zjk (c:UInt8):ZnR c.toNat=Zul c:=by
 have:=Zuk ⟨c.toNat,c.toNat_lt⟩
 simpa using this
theorem ZsH {s:BA} {k:Nat} (hk:k<s.size):ZiI (s.extract k (k+1))= !Zx5 (bt s k):=by
 have hl:(s.extract k (k+1)).data.toList=[bt s k]:=by
  rw[ByteArray.data_extract,Array.toList_extract]
  have h1:k<s.data.toList.length:=by rw[Zby];exact hk
  rw[List.extract_eq_take_drop,show k+1-k=1 by omega,List.drop_eq_getElem_cons h1,List.take_succ_cons,List.take_zero,bt,Yj h1]
 have hz:(s.extract k (k+1)).size=1:=by rw[←Zby,hl];rfl
 have hne:¬ s.extract k (k+1)=⟨#[]⟩:=fun e=>by rw[e]at hz;exact absurd hz dz
 unfold ZiI
 rw[hl,hz]
 simp[hne]
theorem Zjl {s:BA} {k:Nat} (hk:k<s.size):badP s k=Zul (bt s k):=by
 rw[badP,ZsH hk,Bool.not_not,Zul]
theorem Zvf {s:BA} {k:Nat} (hk:k<s.size):s[k]'hk=bt s k:=by
 have h1:k<s.data.toList.length:=by rw[Zby];exact hk
 rw[bt,Yj h1]
 rfl
theorem ZnF (s:BA) (k:Nat) (hk:k<s.size) (h:128≤(s[k]'hk).toNat):128≤(Utf8.decode s k).1:=by
 have h0:(s.get! (k+0)).toNat=(s[k]'hk).toNat:=by
  rw[show s.get! (k+0)=s[k]'hk by show s.get! k=_;simp[ByteArray.get!,getElem!_pos,hk];rfl]
 unfold Utf8.decode
 simp only[Utf8.runeError]
 rw[if_neg oz]
 repeat' split
 all_goals first | (simp;done) | (simp_all;done) | (simp_all;omega)
theorem Ze8 {s:BA} {l:Array UInt8}:decide (s=⟨l⟩)=decide (s.toList=l.toList):=by
 rw[Bool.eq_iff_iff,decide_eq_true_eq,decide_eq_true_eq,ByteArray.toList_eq]
 exact⟨fun h=>by rw[h],fun h=>ByteArray.ext (Array.toList_inj.1 h)⟩
theorem ZiN (s:BA):∀(f pos:Nat),s.size≤pos+f→(0≤Lib.idxFuncFrom ZnR true s f pos↔ ∃ k,pos≤k∧k<s.size∧Zul (bt s k)=true)
 | 0,pos,h=>by
  simp only[Lib.idxFuncFrom]
  constructor
  · intro h;omega
  · rintro⟨k,h1,h2,_⟩;omega
 | f+1,pos,h=>by
  simp only[Lib.idxFuncFrom]
  by_cases hp:pos<s.size
  · rw[if_pos hp]
    by_cases ha:(s[pos]'hp).toNat<128
    · rw[decode_ascii s pos hp ha]
      have e:ZnR (s[pos]'hp).toNat=Zul (bt s pos):=by rw[Zjk,Zvf hp]
      simp only[e]
      by_cases hb:Zul (bt s pos)=true
      · rw[if_pos hb]
        exact⟨fun _=>⟨pos,Nat.le_refl _,hp,hb⟩,fun _=>Int.natCast_nonneg _⟩
      · rw[if_neg hb,ZiN s f (pos+1) oz]
        constructor
        · rintro⟨k,h1,h2,h3⟩;exact⟨k,oz,h2,h3⟩
        · rintro⟨k,h1,h2,h3⟩
          refine⟨k,?_,h2,h3⟩
          by_cases e:k=pos
          · subst e;exact absurd h3 hb
          · omega
    · have e:Zul (bt s pos)=true:=by
       rw[←Zjk,←Zvf hp];exact Zmy oz
      rw[if_pos (Zmy (ZnF s pos hp oz))]
      exact⟨fun _=>⟨pos,Nat.le_refl _,hp,e⟩,fun _=>Int.natCast_nonneg _⟩
  · rw[if_neg hp]
    constructor
    · intro h;omega
    · rintro⟨k,h1,h2,_⟩;omega
theorem ZpW (s:BA):(!decide (0≤Lib.idxFunc ZnR true s))=(List.range s.size).all fun k=>!badP s k:=by
 have:=ZiN s s.size 0 oz
 rw[←Lib.idxFunc]at this
 rw[Bool.eq_iff_iff,Bool.not_eq_true',decide_eq_false_iff_not,this,List.all_eq_true]
 constructor
 · intro h k hk
   have hk':k<s.size:=by simpa using hk
   rw[Zjl hk']
   cases hb:Zul (bt s k)with
   | false=>rfl
   | true=>exact absurd ⟨k,nzl,hk',hb⟩ h
 · rintro h ⟨k,_,h2,h3⟩
   have:=h k (by simpa using h2)
   rw[Zjl h2,h3]at this
   exact absurd this dz
set_option maxHeartbeats 2000000 in
set_option maxRecDepth 1000000 in
theorem Znm (s:BA) (w:World):Calls Tryz.prog 261 #[.string s] w fun e w'=>e= .returned (.bool (Qe s))∧Below w.heap.size w w':=by
 have hF:=Tryz.strings_ContainsFunc_grows 265 #[] (Zm Tryz.func265 rfl rfl) ZnR s w fun W x _ _=>Znn x W
 obtain⟨b,hb⟩:∃ b,decide (0≤Lib.idxFunc ZnR true s)=b:=⟨_,rfl⟩
 have hspec:Qe s=((decide (s.toList=[40])||decide (s.toList=[41]))|| (!b&& !decide (s.toList=[]))):=by
  rw[Qe,←ZpW,hb,Ze8,Ze8,Ze8]
 rw[hb]at hF
 rw[hspec]
 clear hspec hb
 go_enter Tryz.func261,Tryz.ntmps261
 go_wp2_with (go_at_call 264;refine hF.mono ?_;rintro e w' ⟨rfl,hb⟩)
 all_goals
  go_ret
  exact⟨by simp_all,by first | exact hb | exact Below.refl _ _⟩
end Go.Proofs.YtdfadihhfppjaaaGreatDoor
namespace Go.Proofs.YtdfadihhfppjaaaGreatDoor
open Go.RowKit
structure Tbl (P:Program) where
 one:Nat→Bool
 agg:Nat→Nat
 fld:Nat→Nat→Option Nat
 h1:∀ t,one t=true→XA P t
 h2:∀ t k,agg t=k+1→Xl P t (k+1)
 h3:∀ s f d,fld s f=some d→ZW P s f d
 mix:P.follows .mixedOrders=true
def Zjg:AV→Bool
 | .rd (.lit (.bool b))=>b
 | _=>false
def ZpV:AV→Bool
 | .rd (.lit (.bool _))=>true
 | _=>false
theorem ZiM:∀ {x:AV},ZpV x=true→x= .bool (Zjg x)
 | .rd (.lit (.bool _)),_=>rfl
def litA:AV→Bool
 | .rd (.lit _)=>true
 | _=>false
theorem ZpH:∀ {x:AV},litA x=true→∃ v,x= .lit v
 | .rd (.lit v),_=>⟨v,rfl⟩
def gA (l:List AV):Nat→AV:=fun i=>l.getD i .any
def Zaz (l:List Oper) (i:Nat):Option (Nat×Bool):=(l[i]?).bind (·.guard)
def Zrj (l:List Oper) (avs:Nat→AV):Nat→Nat→Bool
 | 0,_=>true
 | f+1,i=>match Zaz l i with
  | none=>true
  | some q=>Zrj l avs f q.1&& (Zjg (avs q.1)==q.2)
def cnd (l:List Oper) (avs:Nat→AV) (i:Nat):Bool:=Zrj l avs (i+1) i
def gch (l:List Oper):Nat→Nat→List (Nat×Bool)
 | 0,_=>[]
 | f+1,i=>match Zaz l i with
  | none=>[]
  | some q=>q::gch l f q.1
def Zns (l:List Oper):Bool:=l.zipIdx.all fun x=>match x.1.guard with | none=>true | some q=>Nat.blt q.1 x.2
theorem Zgd {l:List Oper} (h:Zns l=true) {i:Nat} {q:Nat×Bool} (hq:Zaz l i=some q):q.1<i:=by
 unfold Zaz at hq
 cases hi:l[i]? with
 | none=>rw[hi]at hq;cases hq
 | some o=>
  rw[hi]at hq
  have hg:o.guard=some q:=hq
  have:=List.all_eq_true.1 h (o,i) (by rw[List.mem_zipIdx_iff_getElem?];simpa using hi)
  simp only[hg]at this
  exact of_eq_true (Nat.blt_eq▸eq_true this)
theorem Zqz {l:List Oper} (h:Zns l=true) (avs:Nat→AV):∀ i f,i+1≤f→Zrj l avs f i=Zrj l avs (i+1) i:=by
 intro i
 induction i using Nat.strongRecOn with
 | ind i ih=>
  intro f hf
  obtain⟨f,rfl⟩:∃ f',f=f'+1:=⟨f-1,oz⟩
  unfold Zrj
  cases hg:Zaz l i with
  | none=>rfl
  | some q=>
   have hq:=Zgd h hg
   simp only
   rw[ih q.1 hq f oz,ih q.1 hq i oz]
theorem cnd_eq {l:List Oper} (h:Zns l=true) (avs:Nat→AV) {i:Nat} {q:Nat×Bool} (hq:Zaz l i=some q):cnd l avs i=(cnd l avs q.1&& (Zjg (avs q.1)==q.2)):=by
 have hlt:=Zgd h hq
 rw[cnd,Zrj,hq]
 simp only
 rw[Zqz h avs q.1 i oz]
 rfl
theorem Ztf {l:List Oper} (avs:Nat→AV) {i:Nat} (hq:Zaz l i=none):cnd l avs i=true:=by
 rw[cnd,Zrj,hq]
theorem Zhi {l:List Oper} {avs:Nat→AV}:∀ f i,Zrj l avs f i=true↔ ∀ q∈gch l f i,(Zjg (avs q.1)==q.2)=true
 | 0,i=>by simp[Zrj,gch]
 | f+1,i=>by
  rw[Zrj,gch]
  cases Zaz l i with
  | none=>simp
  | some q=>
   simp only[Bool.and_eq_true,List.mem_cons,forall_eq_or_imp]
   rw[Zhi f q.1]
   exact And.comm
def ZvT (q r:Nat×Bool):Bool:=Nat.beq q.1 r.1&&cond q.2 r.2 (!r.2)
theorem Zm0 {q r:Nat×Bool} (h:ZvT q r=true):q=r:=by
 obtain⟨a,b⟩:=q
 obtain⟨c,d⟩:=r
 simp only[ZvT,Bool.and_eq_true]at h
 obtain rfl:=Nat.eq_of_beq_eq_true h.1
 cases b<;>cases d<;>simp_all
def imp (l:List Oper) (ex:List (Nat×Bool)) (i j:Nat):Bool:=(gch l (j+1) j).all fun q=>(ex++gch l (i+1) i).any fun r=>ZvT q r
theorem ZsM {l:List Oper} {avs:Nat→AV} {ex:List (Nat×Bool)} {i j:Nat} (h:imp l ex i j=true) (hc:cnd l avs i=true) (hex:∀ q∈ex,(Zjg (avs q.1)==q.2)=true):cnd l avs j=true:=by
 refine(Zhi _ _).2 fun q hq=>?_
 obtain⟨r,hr,he⟩:=List.any_eq_true.1 (List.all_eq_true.1 h q hq)
 rw[Zm0 he]
 rcases List.mem_append.1 hr with hr | hr
 · exact hex r hr
 · exact(Zhi _ _).1 hc r hr
def Zfx (s:Nat):List Oper→Nat→Nat→Option Nat
 | [],_,_=>none
 | _::_,_,0=>none
 | o::r,k,n+1=>match o.dst with
  | some d=>cond (Nat.beq d s) (some k) (Zfx s r (k+1) n)
  | none=>Zfx s r (k+1) n
theorem Zf1 {s:Nat}:∀ {l:List Oper} {k n j:Nat},Zfx s l k n=some j→∃ o,k≤j∧l[j-k]?=some o∧o.dst=some s
 | [],_,_,_,h=>by cases h
 | _::_,_,0,_,h=>by cases h
 | o::r,k,n+1,j,h=>by
  rw[Zfx]at h
  have key:Zfx s r (k+1) n=some j→∃ o',k≤j∧(o::r)[j-k]?=some o'∧o'.dst=some s:=fun h=>by
   obtain⟨o',h1,h2,h3⟩:=Zf1 h
   exact⟨o',oz,by rw[show j-k=j-(k+1)+1 by omega];exact h2,h3⟩
  split at h
  · rename_i d hd
    cases hb:Nat.beq d s with
    | true=>
     rw[hb]at h
     simp only[cond_true,Option.some.injEq]at h
     subst h
     exact⟨o,Nat.le_refl _,by simp,by rw[hd,Nat.eq_of_beq_eq_true hb]⟩
    | false=>
     rw[hb]at h
     exact key h
  · exact key h
def Znl:List (Nat×AV)→Nat→Option AV
 | [],_=>none
 | (k,x)::r,s=>cond (Nat.beq k s) (some x) (Znl r s)
theorem Zdi:∀ {env:List (Nat×AV)} {s:Nat} {av:AV},Znl env s=some av→∃ m:Nat,env[m]?=some (s,av)
 | [],_,_,h=>by cases h
 | (q,x)::r,s,av,h=>by
  rw[Znl]at h
  cases hb:Nat.beq q s with
  | true=>
   rw[hb]at h
   simp only[cond_true,Option.some.injEq]at h
   exact⟨0,by rw[←h,←Nat.eq_of_beq_eq_true hb];rfl⟩
  | false=>
   rw[hb]at h
   obtain⟨m,hm⟩:=Zdi h
   exact⟨m+1,by simpa using hm⟩
def lavA:Value→Option AV
 | .string s=>cond (Nat.ble s.size maxLen) (some (.str s)) none
 | .agg _=>none
 | .tuple _=>none
 | v=>some (.lit v)
theorem ZiH {S:Nat→Prop} {w:World} {v:Value} {av:AV} (h:lavA v=some av):Rel S w av v:=by
 unfold lavA at h
 split at h
 · rename_i s
   cases hb:Nat.ble s.size maxLen with
   | true=>
    rw[hb]at h
    simp only[cond_true,Option.some.injEq]at h
    rw[←h]
    exact Rel.of_lit _ (Nat.le_of_ble_eq_true hb)
   | false=>rw[hb]at h;cases h
 · cases h
 · cases h
 · rename_i h1 h2 h3
   cases h
   refine Rel.of_lit _ ?_
   cases v<;>first | exact True.intro | exact(h1 _ rfl).elim | exact(h2 _ rfl).elim | exact(h3 _ rfl).elim
def nthA:List AV→Nat→Option AV
 | [],_=>none
 | x::_,0=>some x
 | _::r,n+1=>nthA r n
theorem Zj8:∀ {l:List AV} {n:Nat} {x:AV},nthA l n=some x→gA l n=x
 | [],_,_,h=>by cases h
 | x::_,0,_,h=>by cases h;rfl
 | _::r,n+1,x,h=>by
  have:=Zj8 (l:=r) (n:=n) (x:=x) h
  simpa [gA]using this
def rdv (env:List (Nat×AV)) (l:List Oper) (avs:Nat→AV) (ex:List (Nat×Bool)) (i:Nat) (dp:List Nat):Operand→Option AV
 | .const v=>lavA v
 | .func f=>some (.fn f [])
 | .tmp s=>match Zfx s l 0 i with
  | some j=>cond (dp.contains j&&imp l ex i j) (some (avs j)) none
  | none=>cond (ZiT l i s) (Znl env s) none
 | _=>none
def rdvL (env:List (Nat×AV)) (l:List Oper) (al:List AV) (ex:List (Nat×Bool)) (i:Nat) (dp:List Nat):Operand→Option AV
 | .const v=>lavA v
 | .func f=>some (.fn f [])
 | .tmp s=>match Zfx s l 0 i with
  | some j=>cond (dp.contains j&&imp l ex i j) (nthA al j) none
  | none=>cond (ZiT l i s) (Znl env s) none
 | _=>none
theorem ZjY {env:List (Nat×AV)} {l:List Oper} {al:List AV} {ex:List (Nat×Bool)} {i:Nat} {dp:List Nat} {x:Operand} {av:AV} (h:rdvL env l al ex i dp x=some av):rdv env l (gA al) ex i dp x=some av:=by
 unfold rdvL at h
 unfold rdv
 split at h
 · exact h
 · exact h
 · split at h
   · rename_i j hj
     cases hb:(dp.contains j&&imp l ex i j)with
     | false=>rw[hb]at h;cases h
     | true=>rw[hb]at h;exact congrArg some (Zj8 h)
   · exact h
 · cases h
section
variable {n:Rn} {P:Program} {K S1 S:Nat→Prop} {w0:World} {N:Nat} {env:List (Nat×AV)} {X:WP} {l:List Oper} {avs:Nat→AV} {a:Act} {w:World} {o:Oper} {i:Nat}
theorem ZjX {ex:List (Nat×Bool)} (hl:Look S w env l avs (cnd l avs) i a) (hi:l[i]?=some o) (hc:cnd l avs i=true) (hex:∀ q∈ex,(Zjg (avs q.1)==q.2)=true) {x:Operand} {av:AV} (h:rdv env l avs ex i (ZL o) x=some av):Rel S w av (a.eval x):=by
 unfold rdv at h
 split at h
 · exact ZiH h
 · cases h
   exact Qt _
 · rename_i s
   split at h
   · rename_i j hj
     obtain⟨p,_,hp,hd⟩:=Zf1 hj
     cases hb:((ZL o).contains j&&imp l ex i j)with
     | false=>rw[hb]at h;cases h
     | true=>
      rw[hb]at h
      simp only[cond_true,Option.some.injEq]at h
      rw[Bool.and_eq_true]at hb
      rw[←h]
      exact hl.dep j s p (by simpa using hp) hd (by rw[hi];exact hb.1) (ZsM hb.2 hc hex)
   · cases hb:ZiT l i s with
     | false=>rw[hb]at h;cases h
     | true=>
      rw[hb]at h
      obtain⟨m,hm⟩:=Zdi h
      exact hl.env m s av hm hb
 · cases h
def cavA:CD→AV
 | .ptr cs=>.ptr cs
 | c=>.rd c
def isPtrC:CD→Bool
 | .ptr _=>true
 | _=>false
def ptrA:CD→Option AV
 | .ptr cs=>some (.ptr cs)
 | _=>none
def lodA (c:CD):Option AV:=cond (isPtrC c) (ptrA c) (some (.rd c))
theorem ZwE (c:CD):lodA c=some (cavA c):=by cases c<;>rfl
def drpA:Nat→List CD→Option AV
 | 0,cs=>some (.ptr cs)
 | d+1,_::cs=>drpA d cs
 | _+1,[]=>none
theorem Zqr:∀ {d:Nat} {cs:List CD} {av:AV},drpA d cs=some av→av= .ptr (cs.drop d)
 | 0,_,_,h=>by cases h;rfl
 | d+1,_::cs,_,h=>by rw[List.drop_succ_cons];exact Zqr (d:=d) (cs:=cs) h
 | _+1,[],_,h=>by cases h
def tkA (k:Nat) (cs:List CD):Option AV:=cond (Nat.beq cs.length k) (some (.agg cs)) (cond (Nat.ble k cs.length) (some (.agg (cs.take k))) none)
theorem tkA_eq {k:Nat} {cs:List CD} {av:AV} (h:tkA k cs=some av):k≤cs.length∧av= .agg (cs.take k):=by
 unfold tkA at h
 cases hb:Nat.beq cs.length k with
 | true=>
  rw[hb]at h
  cases h
  have:=Nat.eq_of_beq_eq_true hb
  exact⟨Nat.le_of_eq this.symm,by rw[←this,List.take_length]⟩
 | false=>
  rw[hb]at h
  cases hc:Nat.ble k cs.length with
  | false=>rw[hc]at h;cases h
  | true=>rw[hc]at h;cases h;exact⟨Nat.le_of_ble_eq_true hc,rfl⟩
def cmpI (i j:Int):BinOp→Option AV
 | .lss=>some (.bool (decide (i<j)))
 | .leq=>some (.bool (decide (i≤j)))
 | .gtr=>some (.bool (decide (j<i)))
 | .geq=>some (.bool (decide (j≤i)))
 | .eql=>some (.bool (decide (i=j)))
 | .neq=>some (.bool (!decide (i=j)))
 | _=>none
def cmpS (i j:BA):BinOp→Option AV
 | .lss=>some (.bool (Op.bytesLess i.toList j.toList))
 | .geq=>some (.bool (!Op.bytesLess i.toList j.toList))
 | .eql=>some (.bool (decide (i=j)))
 | .neq=>some (.bool (!decide (i=j)))
 | _=>none
def cmpA (op:BinOp):Option AV→Option AV→Option AV
 | some (.rd (.lit (.int .i64 i))),some (.rd (.lit (.int .i64 j)))=>cmpI i j op
 | some (.rd (.lit (.int .u8 i))),some (.rd (.lit (.int .u8 j)))=>cmpI i j op
 | some (.rd (.lit (.string s))),some (.rd (.lit (.string t)))=>cmpS s t op
 | _,_=>none
def andA:Option AV→Option AV→Option AV
 | some (.rd (.lit (.bool g))),some (.rd (.lit (.bool b)))=>some (.bool (g&&b))
 | _,_=>none
def orA:Option AV→Option AV→Option AV
 | some (.rd (.lit (.bool g))),some (.rd (.lit (.bool b)))=>some (.bool (g||b))
 | _,_=>none
def jOf (l:List Oper) (i:Nat):Operand→Nat
 | .tmp s=>match Zfx s l 0 i with | some j=>j | none=>0
 | _=>0
def ofRow (l:List Oper) (i:Nat) (dp:List Nat):Operand→Bool
 | .tmp s=>match Zfx s l 0 i with | some j=>dp.contains j | none=>false
 | _=>false
def ev (T:Tbl P) (rd:List (Nat×Bool)→Operand→Option AV) (jo:Operand→Nat) (ro:Operand→Bool):Op→Option AV
 | .move x=>rd [] x
 | .assign x=>rd [] x
 | .nilCheck x=>match rd [] x with
  | some (.ptr cs)=>some (.ptr cs)
  | _=>none
 | .fieldAddr t x f=>match rd [] x with
  | some (.ptr cs)=>match T.fld t f with
   | some d=>drpA d cs
   | none=>none
  | _=>none
 | .load t x=>match rd [] x with
  | some (.ptr cs)=>match T.one t with
   | true=>match cs with
    | c::_=>lodA c
    | []=>none
   | false=>match T.agg t with
    | 0=>none
    | k+1=>tkA (k+1) cs
  | _=>none
 | .extract x k=>match rd [] x with
  | some (.tup l)=>l[k]?
  | _=>none
 | .unOp .not _ x=>match rd [] x with
  | some (.rd (.lit (.bool g)))=>some (.bool (!g))
  | _=>none
 | .binOp op _ x y _=>cmpA op (rd [] x) (rd [] y)
 | .pick z x (.const (.bool false))=>cond (ro z) (andA (rd [] z) (rd [(jo z,true)] x)) none
 | .pick z (.const (.bool true)) y=>cond (ro z) (orA (rd [] z) (rd [(jo z,false)] y)) none
 | _=>none
def evO (T:Tbl P) (env:List (Nat×AV)) (l:List Oper) (al:List AV) (i:Nat) (o:Oper):Option AV:=ev T (fun ex x=>rdvL env l al ex i (ZL o) x) (jOf l i) (ofRow l i (ZL o)) o.op
theorem Zxm {c:CD} {v:Value} (h:Rel S w (.rd c) v):Rel S w (cavA c) v:=by
 cases c with
 | lit u=>exact h
 | sl r=>exact h
 | ptr cs=>exact ptr_rd.1 h
theorem cmp_ok {op:BinOp} {x y:Operand} {t u:TypeId} {a1 a2:Option AV} {av:AV} (hop:o.op= .binOp op t x y u) (h:cmpA op a1 a2=some av) (h1:∀ b,a1=some b→Rel S w b (a.eval x)) (h2:∀ b,a2=some b→Rel S w b (a.eval y)) (hx:X w):Does n P o a w (YC S X av w):=by
 unfold cmpA at h
 split at h
 · have g1:=h1 _ rfl
   have g2:=h2 _ rfl
   cases op<;>simp only[cmpI,Option.some.injEq,reduceCtorEq]at h<;>subst h
   all_goals first | exact Zv3 hop g1 g2 hx | exact r_leq hop g1 g2 hx | exact r_gtr hop g1 g2 hx | exact r_geq hop g1 g2 hx | exact r_eql hop g1 g2 hx | exact r_neq hop g1 g2 hx
 · have g1:=h1 _ rfl
   have g2:=h2 _ rfl
   cases op<;>simp only[cmpI,Option.some.injEq,reduceCtorEq]at h<;>subst h
   all_goals first | exact Zv3 hop g1 g2 hx | exact r_leq hop g1 g2 hx | exact r_gtr hop g1 g2 hx | exact r_geq hop g1 g2 hx | exact r_eql hop g1 g2 hx | exact r_neq hop g1 g2 hx
 · have g1:=h1 _ rfl
   have g2:=h2 _ rfl
   cases op<;>simp only[cmpS,Option.some.injEq,reduceCtorEq]at h<;>subst h
   all_goals first | exact r_lssS hop g1 g2 hx | exact r_geqS hop g1 g2 hx | exact r_eqlS hop g1 g2 hx | exact r_neqS hop g1 g2 hx
 · cases h
theorem ev_ok (T:Tbl P) {rd:List (Nat×Bool)→Operand→Option AV} {jo:Operand→Nat} {ro:Operand→Bool} {av:AV} (h:ev T rd jo ro o.op=some av) (hr:∀ x b,rd [] x=some b→Rel S w b (a.eval x))
 (hj:∀ z g,ro z=true→rd [] z=some (.bool g)→∀ x b,rd [(jo z,g)] x=some b→Rel S w b (a.eval x)) (hx:X w):Does n P o a w (YC S X av w):=by
 generalize hop:o.op=p at h
 unfold ev at h
 split at h
 · exact ZV hop (hr _ _ h) hx
 · exact YA hop (hr _ _ h) hx
 · split at h
   · rename_i g;cases h;exact YE hop (hr _ _ g) hx
   · cases h
 · split at h
   · rename_i g
     split at h
     · rename_i g2;rw[Zqr h];exact ZG (T.h3 _ _ _ g2) hop (hr _ _ g) hx
     · cases h
   · cases h
 · split at h
   · rename_i g
     split at h
     · rename_i g1
       split at h
       · rw[ZwE]at h
         cases h
         exact Zl (ZB (T.h1 _ g1) hop (hr _ _ g) hx) fun _ _ hp=>⟨Zxm hp.1,hp.2⟩
       · cases h
     · split at h
       · cases h
       · rename_i k g2
         obtain⟨h1,rfl⟩:=tkA_eq h
         exact QG (T.h2 _ _ g2) hop (hr _ _ g) h1 hx
   · cases h
 · split at h
   · rename_i g;exact Yx hop (hr _ _ g) h hx
   · cases h
 · split at h
   · rename_i g;cases h;exact Zv2 hop (hr _ _ g) hx
   · cases h
 · exact cmp_ok hop h (fun b hb=>hr _ _ hb) (fun b hb=>hr _ _ hb) hx
 · rename_i z x
   cases hb:ro z with
   | false=>rw[hb]at h;cases h
   | true=>
    rw[hb]at h
    simp only[cond_true]at h
    unfold andA at h
    split at h
    · rename_i g b e1 e2
      cases h
      refine r_and hop (hr _ _ e1) (fun hg=>?_) hx
      subst hg
      exact hj z true hb e1 _ _ e2
    · cases h
 · rename_i z y _
   cases hb:ro z with
   | false=>rw[hb]at h;cases h
   | true=>
    rw[hb]at h
    simp only[cond_true]at h
    unfold orA at h
    split at h
    · rename_i g b e1 e2
      cases h
      refine r_or hop (hr _ _ e1) (fun hg=>?_) hx
      subst hg
      exact hj z false hb e1 _ _ e2
    · cases h
 · cases h
theorem evO_ok (T:Tbl P) {al:List AV} {av:AV} (h:evO T env l al i o=some av) (hl:Look S w env l (gA al) (cnd l (gA al)) i a) (hi:l[i]?=some o) (hc:cnd l (gA al) i=true) (hx:X w):Does n P o a w (YC S X av w):=by
 refine ev_ok T h (fun x b hb=>ZjX hl hi hc (fun q hq=>by cases hq) (ZjY hb)) (fun z g hz hg x b hb=>ZjX hl hi hc (fun q hq=>?_) (ZjY hb)) hx
 obtain rfl:q=(jOf l i z,g):=by simpa using hq
 cases z with
 | tmp s=>
  simp only[ofRow]at hz
  replace hg:=ZjY hg
  simp only[rdv]at hg
  cases hp:Zfx s l 0 i with
  | none=>rw[hp]at hz;cases hz
  | some j=>
   rw[hp]at hg
   simp only at hg
   cases hb2:((ZL o).contains j&&imp l [] i j)with
   | false=>rw[hb2]at hg;cases hg
   | true=>
    rw[hb2]at hg
    simp only[cond_true,Option.some.injEq]at hg
    simp[jOf,hp,hg,Zjg]
 | _=>cases hz
end
def ZwN:List Nat→Nat→Bool
 | [],_=>false
 | k::r,i=>cond (Nat.beq k i) true (ZwN r i)
def evL {P:Program} (T:Tbl P) (env:List (Nat×AV)) (l:List Oper) (al:List AV) (hs:List Nat):Nat→List Oper→List (Option AV)
 | _,[]=>[]
 | i,o::r=>cond (ZwN hs i) (nthA al i) (evO T env l al i o)::evL T env l al hs (i+1) r
def tgL:List AV→List (Option AV)
 | []=>[]
 | x::r=>some x::tgL r
def gok1 (l:List Oper) (avs:Nat→AV) (o:Oper):Bool:=match o.guard with
 | none=>true
 | some q=>(match l[q.1]? with | some p=>p.dst.isSome | none=>false)&&ZpV (avs q.1)&& (ZL o).contains q.1
def Zjx (l:List Oper) (avs:Nat→AV):List Oper→Bool
 | []=>true
 | o::r=>gok1 l avs o&&Zjx l avs r
def Zju (p:Nat→Oper→Prop) (hs:List Nat):Nat→List Oper→Prop
 | _,[]=>True
 | i,o::r=>match ZwN hs i with
  | true=>p i o∧Zju p hs (i+1) r
  | false=>Zju p hs (i+1) r
def ObX (n:Rn) (P:Program) (K S:Nat→Prop) (w0:World) (env:List (Nat×AV)) (X:WP) (l:List Oper) (avs:Nat→AV) (i:Nat) (o:Oper):Prop:=
 ∀ a w,Keeps K w0 w→X w→Look S w env l avs (cnd l avs) i a→cnd l avs i=true→Does n P o a w (YC S X (avs i) w)
def Zmb (l:List Oper) (N:Nat):Bool:=Y4 l&&Q9 l N&&Zbm l&&Zns l
def ZjQ (b:Bool) (env:List (Nat×AV)) (l:List Oper) (al:List AV) (c:Nat):Option (Nat×AV):=
 match Nat.ble 1000 c with
 | false=>match env[c]? with
  | some (s,av)=>cond (l.all fun o=>o.dst !=some s) (some (s,av)) none
  | none=>none
 | true=>match(l[c-1000]?).bind (·.dst)with
  | some s=>cond (cnd l (gA al) (c-1000)&& (!b||litA (gA al (c-1000)))) (match nthA al (c-1000)with | some x=>some (s,x) | none=>none) none
  | none=>none
section
variable {n:Rn} {P:Program} {K S1 S:Nat→Prop} {w0:World} {N:Nat} {env env':List (Nat×AV)} {X:WP} {l:List Oper}
theorem Zgc {avs:Nat→AV} {i:Nat} {o:Oper} (hg:gok1 l avs o=true) (hb:Zns l=true) (hi:l[i]?=some o):Zae l avs (cnd l avs) i o:=by
 unfold Zae
 unfold gok1 at hg
 have hq:Zaz l i=o.guard:=by unfold Zaz;rw[hi];rfl
 split
 · rename_i h
   rw[h]at hq
   exact Ztf avs hq
 · rename_i j pol h
   rw[h]at hq hg
   simp only[Bool.and_eq_true]at hg
   obtain⟨⟨g1,g2⟩,g3⟩:=hg
   cases hj:l[j]? with
   | none=>rw[hj]at g1;cases g1
   | some p=>
    rw[hj]at g1
    obtain⟨d,hd⟩:=Option.isSome_iff_exists.1 g1
    exact⟨Zjg (avs j),p,d,rfl,hd,ZiM g2,cnd_eq hb avs hq,g3⟩
theorem Zpu (T:Tbl P) {al:List AV} {hs:List Nat} (hb:Zns l=true):∀(r:List Oper) (k:Nat) (ar:List AV),(∀ i o,r[i]?=some o→l[k+i]?=some o)→(∀ i,gA ar i=gA al (k+i))→evL T env l al hs k r=tgL ar→Zjx l (gA al) r=true→Zju (ObX n P K S w0 env X l (gA al)) hs k r→
 Obs (Ob n P K S w0 env X l (gA al) (cnd l (gA al))) k r
 | [],_,_,_,_,_,_,_=>trivial
 | o::r,_,[],_,_,he,_,_=>by simp[evL,tgL]at he
 | o::r,k,x::ar,hl,ha,he,hg,ho=>by
  have hi:l[k]?=some o:=by simpa using hl 0 o rfl
  simp only[evL,tgL,List.cons.injEq]at he
  simp only[Zjx,Bool.and_eq_true]at hg
  rw[Zju]at ho
  have hrest:∀ i o',r[i]?=some o'→l[k+1+i]?=some o':=fun i o' h=>by rw[show k+1+i=k+(i+1) by omega];exact hl (i+1) o' (by simpa using h)
  have har:∀ i,gA ar i=gA al (k+1+i):=fun i=>by rw[show k+1+i=k+(i+1) by omega,←ha (i+1)];simp[gA]
  have hx:gA al k=x:=by have:=ha 0;simpa [gA]using this.symm
  cases hh:ZwN hs k with
  | true=>
   rw[hh]at ho
   exact⟨⟨Zgc hg.1 hb hi,ho.1⟩,Zpu T hb r (k+1) ar hrest har he.2 hg.2 ho.2⟩
  | false=>
   rw[hh]at ho he
   exact⟨⟨Zgc hg.1 hb hi,fun a w _ hxx hlk hc=>by rw[hx];exact evO_ok T he.1 hlk hi hc hxx⟩,Zpu T hb r (k+1) ar hrest har he.2 hg.2 ho⟩
theorem ZlW {b:Bool} {al:List AV} (hb:b=false→∀ k,S k→S1 k):∀(ks:List Nat) (env':List (Nat×AV)),ks.map (ZjQ b env l al)=env'.map some→Froms S1 S env l (gA al) (cnd l (gA al)) env'
 | [],[],_=>trivial
 | [],_::_,h=>by cases h
 | _::_,[],h=>by cases h
 | c::ks,p::env',h=>by
  simp only[List.map_cons,List.cons.injEq]at h
  refine⟨?_,ZlW hb ks env' h.2⟩
  have h1:=h.1
  unfold ZjQ at h1
  split at h1
  · split at h1
    · rename_i s av hq
      cases hx:(l.all fun o=>o.dst !=some s)with
      | false=>rw[hx]at h1;cases h1
      | true=>rw[hx]at h1;cases h1;exact .old c _ _ hq hx
    · cases h1
  · split at h1
    · rename_i s hs
      cases hx:(cnd l (gA al) (c-1000)&& (!b||litA (gA al (c-1000))))with
      | false=>rw[hx]at h1;cases h1
      | true=>
       rw[hx]at h1
       simp only[cond_true]at h1
       split at h1
       · rename_i x hn
         obtain rfl:=Zj8 hn
         cases h1
         rw[Bool.and_eq_true]at hx
         refine .new (c-1000) _ _ hs hx.1 rfl ?_
         cases b with
         | false=>exact .inr (hb rfl)
         | true=>exact .inl (ZpH (by simpa using hx.2))
       · cases h1
    · cases h1
theorem rg0 {b:Bool} {id:Nat} {draw:Bool} {Q:Exit→Act→WP} (T:Tbl P) (ks:List Nat) (avl:List AV) (hs:List Nat) (env':List (Nat×AV)) (hf:ks.map (ZjQ b env l avl)=env'.map some) (hk:Zmb l N=true) (he:evL T env l avl hs 0 l=tgL avl) (hg:Zjx l (gA avl) l=true)
 (hsub:∀ k,S1 k→S k) (hb:b=false→∀ k,S k→S1 k) (hx:∀ w,X w→X w.drew) (ob:Zju (ObX n P K S w0 env X l (gA avl)) hs 0 l) (hq:∀ a w,St K S1 w0 N env' X a w→Q .normal a w):Tr n P (St K S1 w0 N env X) (.region id l.toArray draw) Q:=fun a w h=>by
 simp only[Zmb,Bool.and_eq_true]at hk
 exact Zlh (gA avl) (cnd l (gA avl)) env' h hsub T.mix hk.1.1.1 hk.1.1.2 hk.1.2 hx (Zpu T hk.2 l 0 avl (fun i o h=>by simpa using h) (fun i=>by rw[Nat.zero_add]) he hg ob) (ZlW hb ks env' hf) hq
theorem rg {id:Nat} {draw:Bool} {Q:Exit→Act→WP} (T:Tbl P) (hJ:Stab X) (ks:List Nat) (avl:List AV) (hs:List Nat) (env':List (Nat×AV)) (hf:ks.map (ZjQ false env l avl)=env'.map some) (hk:Zmb l N=true) (he:evL T env l avl hs 0 l=tgL avl) (hg:Zjx l (gA avl) l=true)
 (ob:Zju (ObX n P K S w0 env X l (gA avl)) hs 0 l) (hq:∀ a w,St K S w0 N env' X a w→Q .normal a w):Tr n P (St K S w0 N env X) (.region id l.toArray draw) Q:=
 rg0 T ks avl hs env' hf hk he hg (fun _ h=>h) (fun _ _ h=>h) hJ.drew ob hq
theorem rgo {J:WP} {lo:Nat} {O:List OB} {id:Nat} {draw:Bool} {Q:Exit→Act→WP} (T:Tbl P) (hJ:Stab J) (ks:List Nat) (avl:List AV) (hs:List Nat) (env':List (Nat×AV)) (hf:ks.map (ZjQ false env l avl)=env'.map some) (hk:Zmb l N=true) (he:evL T env l avl hs 0 l=tgL avl) (hg:Zjx l (gA avl) l=true)
 (ob:Zju (ObX n P K (SO S O) w0 env (XO J S lo O) l (gA avl)) hs 0 l) (hq:∀ a w,St K (SO S O) w0 N env' (XO J S lo O) a w→Q .normal a w):Tr n P (St K (SO S O) w0 N env (XO J S lo O)) (.region id l.toArray draw) Q:=
 rg0 T ks avl hs env' hf hk he hg (fun _ h=>h) (fun _ _ h=>h) (Yw hJ).drew ob hq
theorem rgr {J:WP} {lo:Nat} {O:List OB} {id:Nat} {draw:Bool} {Q:Exit→Act→WP} (T:Tbl P) (hJ:Stab J) (ks:List Nat) (avl:List AV) (hs:List Nat) (env':List (Nat×AV)) (hf:ks.map (ZjQ true env l avl)=env'.map some) (hk:Zmb l N=true) (he:evL T env l avl hs 0 l=tgL avl) (hg:Zjx l (gA avl) l=true)
 (ob:Zju (ObX n P K S w0 env (XO J S lo O) l (gA avl)) hs 0 l) (hq:∀ a w,St K (SO S O) w0 N env' (XO J S lo O) a w→Q .normal a w):Tr n P (St K (SO S O) w0 N env (XO J S lo O)) (.region id l.toArray draw) Q:=
 rg0 (b:=true) T ks avl hs env' hf hk he hg (fun _ h=>h.1) (fun e=>by cases e) (Yw hJ).drew ob hq
theorem lb {m k:Nat} (h:Nat.ble m k=true):m≤k:=Nat.le_of_ble_eq_true h
theorem mo {α:Type} {l:List α} {x:α} (i:Nat) (h:l[i]?=some x):x∈l:=List.mem_of_getElem? h
theorem nx {A:Act→WP} {c:Code} {Q:Exit→Act→WP} (h:Tr n P A c Q):∀ a w,A a w→c.wpIn n.F n.d P Q a w:=h
end

theorem ZlT:∀ {l:List Nat} {i:Nat},ZwN l i=true→i∈l
 | [],_,h=>by cases h
 | k::r,i,h=>by
  rw[ZwN]at h
  cases hb:Nat.beq k i with
  | true=>rw[Nat.eq_of_beq_eq_true hb];exact List.mem_cons_self ..
  | false=>rw[hb]at h;exact List.mem_cons_of_mem _ (ZlT h)
def lk1:List (Nat×Nat)→Nat→Nat
 | [],_=>0
 | p::r,t=>cond (Nat.beq p.1 t) p.2 (lk1 r t)
theorem ZpG:∀ {l:List (Nat×Nat)} {t k:Nat},lk1 l t=k+1→(t,k+1)∈l
 | [],_,_,h=>by cases h
 | p::r,t,k,h=>by
  rw[lk1]at h
  cases hb:Nat.beq p.1 t with
  | true=>
   rw[hb]at h
   simp only[cond_true]at h
   rw[←Nat.eq_of_beq_eq_true hb,←h]
   exact List.mem_cons_self ..
  | false=>rw[hb]at h;exact List.mem_cons_of_mem _ (ZpG h)
def lk2:List (Nat×Nat×Nat)→Nat→Nat→Option Nat
 | [],_,_=>none
 | p::r,s,f=>cond (Nat.beq p.1 s&&Nat.beq p.2.1 f) (some p.2.2) (lk2 r s f)
theorem ZpF:∀ {l:List (Nat×Nat×Nat)} {s f d:Nat},lk2 l s f=some d→(s,f,d)∈l
 | [],_,_,_,h=>by cases h
 | p::r,s,f,d,h=>by
  rw[lk2]at h
  cases hb:(Nat.beq p.1 s&&Nat.beq p.2.1 f)with
  | true=>
   rw[hb]at h
   simp only[cond_true,Option.some.injEq]at h
   rw[Bool.and_eq_true]at hb
   rw[←Nat.eq_of_beq_eq_true hb.1,←Nat.eq_of_beq_eq_true hb.2,←h]
   exact List.mem_cons_self ..
  | false=>rw[hb]at h;exact List.mem_cons_of_mem _ (ZpF h)
end Go.Proofs.YtdfadihhfppjaaaGreatDoor
