/-
  CONTRACTS: strings.IndexRune at a rune beyond ASCII in a text of ASCII bytes.
  WHAT A RIGHT DATABASE IS, IN PLAIN LEAN: labels, symbols, formulas, hypotheses, frames.
  CONTRACTS: whether a word can stand in a proof (layout.isProof), over runes; the plain law: over bytes.
  WHAT A RIGHT DATABASE IS, IN PLAIN LEAN: the errors of hypotheses, of frames, of a database.
-/
import Derived.Test.YtdgbcfloaenhbaaGreatDoorXN
import Derived.Laws.Runes
import Derived.Laws.RangeString
import Derived.Laws.Strings3
import Derived.Deep.LoopGhost
import Derived.Lib.IndexAny
import Derived.Deep.QuietTactic
import Derived.WalkMore
import Derived.Test.YtdgbcfloaenhbaaGreatDoorXI
namespace Go.Proofs.YtdgbcfloaenhbaaGreatDoor
open Go.RowKit Go.Shelf Go.Lib
def dots:ByteArray:=⟨#[45,95,46,63]⟩
theorem Zba:∀ b∈dots.data.toList,b.toNat<128:=by decide
theorem Ze2 (i:Nat) (h:i<dots.size):(dots[i]'h).toNat<128:=Zba _ (Array.getElem_mem_toList (xs:=dots.data) h)
set_option maxHeartbeats 2000000 in
set_option maxRecDepth 1000000 in
theorem ZdO (w:World):Calls Tryz.prog 138 #[.string dots,.int .i32 65533] w fun e w'=>e= .returned (.int .i64 (-1))∧Below w.heap.size w w':=by
 obtain⟨s,hs⟩:∃ s,dots=s:=⟨_,rfl⟩
 have HA:Hid (∀(i:Nat) (h:i<s.size),(s[i]'h).toNat<128):=by rw[←hs];exact Ze2
 rw[hs]
 clear hs
 go_enter Tryz.func138,Tryz.ntmps138
 go_wp2
 go_loopg [5,6] s.size (fun g _ _ wx=>∃ i:Nat,i+g=s.size∧wx=w.iter s i)
 case atStart=>exact⟨0,by omega,rfl⟩
 case round=>
  obtain⟨i,hig,rfl⟩:=hrel
  cases gk with
  | zero=>
   obtain rfl:i=s.size:=by omega
   have hnx:=run_next_end (P:=Tryz.prog) w s s.size
   go_wp2
   go_ret
   exact⟨rfl,(Below.refl _ _).alloc (Nat.le_refl _) _⟩
  | succ g=>
   have hi:i<s.size:=by omega
   obtain⟨x,hx⟩:∃ x:UInt8,s[i]'hi=x:=⟨_,rfl⟩
   have hx128:x.toNat<128:=by rw[←hx];exact HA.out i hi
   have hnx:=fun ty=>run_next_ascii (P:=Tryz.prog) w s i ty hi (by rw[hx];exact hx128)
   rw[hx]at hnx
   clear hx
   have hne:¬ ((x.toNat:Int)=65533):=by omega
   go_wp2
   go_roundg g
   case measure=>omega
   case rel=>exact⟨i+1,by omega,rfl⟩
set_option maxHeartbeats 2000000 in
set_option maxRecDepth 1000000 in
theorem Zci (r:Int) (w:World) (h0:128≤r) (h1:¬ r=65533) (hv:Lib.validRune r=false):Calls Tryz.prog 138 #[.string dots,.int .i32 r] w fun e w'=>e= .returned (.int .i64 (-1))∧w'=w:=by
 obtain⟨s,hs⟩:∃ s,dots=s:=⟨_,rfl⟩
 rw[hs]
 clear hs
 have h2:¬ r<128:=by omega
 have h3:(0:Int)≤r:=by omega
 go_enter Tryz.func138,Tryz.ntmps138
 go_wp2_with (go_at_call 144;refine(Tryz.utf8_ValidRune _ _).mono ?_;rintro e w' ⟨rfl,hw⟩;rw[hw,hv])
 go_ret
 exact⟨rfl,rfl⟩
theorem ZeY {l:List UInt8} {c:UInt8} (hs:∀ b∈l,b.toNat<128) (hc:128≤c.toNat):Lib.indexByte l c<0:=by
 have:=Lib.contains_iff_indexByte l c
 have h2:l.contains c=false:=by
  rw[←Bool.not_eq_true,List.contains_iff_mem]
  intro h
  have:=hs c h
  omega
 rw[h2]at this
 have:=of_decide_eq_false this.symm
 omega
theorem Zox (r:Int) (h0:128≤r) (hv:Lib.validRune r=true):∃ n:Nat,(Utf8.encode r).size=n+1∧(n=1∨n=2∨n=3)∧∃ c:UInt8,(∀ h:n< (Utf8.encode r).size,(Utf8.encode r)[n]'h=c)∧128≤c.toNat:=by
 obtain⟨e1,e2,e3⟩:=encode_facts r (by rw[validRune_eq];exact hv) h0
 exact⟨(Utf8.encode r).size-1,by omega,by omega,_,fun _=>rfl,e3 (by omega)⟩
set_option maxHeartbeats 4000000 in
set_option maxRecDepth 1000000 in
theorem Zd5 (r:Int) (w:World) (h0:128≤r) (h1:¬ r=65533) (hv:Lib.validRune r=true) (t:ByteArray) (ht:Utf8.encode r=t) (hk:t.size=2) (c:UInt8) (hc:∀ h:1<t.size,t[1]'h=c) (hc1:128≤c.toNat):Calls Tryz.prog 138 #[.string dots,.int .i32 r] w fun e w'=>e= .returned (.int .i64 (-1))∧Below w.heap.size w w':=by
 obtain⟨s,hs⟩:∃ s,dots=s:=⟨_,rfl⟩
 have hsz:s.size=4:=by rw[←hs];rfl
 obtain⟨x,hx⟩:∃ x,s[1]'(by omega)=x:=⟨_,rfl⟩
 have hx1:x.toNat<128:=by subst hs;rw[←hx];exact Ze2 1 (by decide)
 have hIB:∃ m:Int,m<0∧∀ w,Calls Tryz.prog 143 #[.string (s.extract 2 4),.int .u8 (c.toNat:Int)] w fun e w'=>e= .returned (.int .i64 m)∧w'=w:=by
  refine⟨_,ZeY (l:=(s.extract 2 4).data.toList) (fun b hb=>?_) hc1,fun w=>?_⟩
  · rw[←hs]at hb;exact Zba b (mem_extract hb)
  · have:=Tryz.strings_IndexByte (s.extract 2 4) (c.toNat:Int) w
    rwa [show((c.toNat:Int)).toNat.toUInt8=c by simp]at this
 obtain⟨m,hm,hIB⟩:=hIB
 have hcc:=hc (by omega)
 rw[hs]
 clear hs hc
 have h2:¬ r<128:=by omega
 have h3:(0:Int)≤r:=by omega
 have hne:((x.toNat:Int)!= (c.toNat:Int))=true:=by simp;omega
 go_enter Tryz.func138,Tryz.ntmps138
 go_wp2_with (go_at_call 144;refine(Tryz.utf8_ValidRune _ _).mono ?_;rintro e w' ⟨rfl,hw⟩;rw[hw,hv])
 go_step3
 go_wp2
 go_loopg [9,10] 1 (fun _ x9 _ wx=>x9= .int .i64 1∧wx=w)
 case atStart=>exact⟨rfl,rfl⟩
 case round=>
  obtain⟨rfl,rfl⟩:=hrel
  go_wp2
  go_step3
  go_wp2
  go_quiet (fail)
  go_wp2
  have hwr:IntKind.i64.wrap 2=2:=by decide
  go_quiet (exact(hIB _).mono fun e w' h=>⟨h.1,_,h.2⟩)
  go_wp2
  simp only[Exit.noGoto_ret,Exit.inBlock,Exit.then]
  go_ret
  exact⟨rfl,below_drewNg _ _⟩
set_option maxHeartbeats 4000000 in
set_option maxRecDepth 1000000 in
theorem Zd4 (r:Int) (w:World) (h0:128≤r) (h1:¬ r=65533) (hv:Lib.validRune r=true) (t:ByteArray) (ht:Utf8.encode r=t) (hk:t.size=3) (c:UInt8) (hc:∀ h:2<t.size,t[2]'h=c) (hc1:128≤c.toNat):Calls Tryz.prog 138 #[.string dots,.int .i32 r] w fun e w'=>e= .returned (.int .i64 (-1))∧Below w.heap.size w w':=by
 obtain⟨s,hs⟩:∃ s,dots=s:=⟨_,rfl⟩
 have hsz:s.size=4:=by rw[←hs];rfl
 obtain⟨x,hx⟩:∃ x,s[2]'(by omega)=x:=⟨_,rfl⟩
 have hx1:x.toNat<128:=by subst hs;rw[←hx];exact Ze2 2 (by decide)
 have hIB:∃ m:Int,m<0∧∀ w,Calls Tryz.prog 143 #[.string (s.extract 3 4),.int .u8 (c.toNat:Int)] w fun e w'=>e= .returned (.int .i64 m)∧w'=w:=by
  refine⟨_,ZeY (l:=(s.extract 3 4).data.toList) (fun b hb=>?_) hc1,fun w=>?_⟩
  · rw[←hs]at hb;exact Zba b (mem_extract hb)
  · have:=Tryz.strings_IndexByte (s.extract 3 4) (c.toNat:Int) w
    rwa [show((c.toNat:Int)).toNat.toUInt8=c by simp]at this
 obtain⟨m,hm,hIB⟩:=hIB
 have hcc:=hc (by omega)
 rw[hs]
 clear hs hc
 have h2:¬ r<128:=by omega
 have h3:(0:Int)≤r:=by omega
 have hne:((x.toNat:Int)!= (c.toNat:Int))=true:=by simp;omega
 go_enter Tryz.func138,Tryz.ntmps138
 go_wp2_with (go_at_call 144;refine(Tryz.utf8_ValidRune _ _).mono ?_;rintro e w' ⟨rfl,hw⟩;rw[hw,hv])
 go_step3
 go_wp2
 go_loopg [9,10] 1 (fun _ x9 _ wx=>x9= .int .i64 2∧wx=w)
 case atStart=>exact⟨rfl,rfl⟩
 case round=>
  obtain⟨rfl,rfl⟩:=hrel
  go_wp2
  go_step3
  go_wp2
  go_quiet (fail)
  go_wp2
  have hwr:IntKind.i64.wrap 3=3:=by decide
  go_quiet (exact(hIB _).mono fun e w' h=>⟨h.1,_,h.2⟩)
  go_wp2
  simp only[Exit.noGoto_ret,Exit.inBlock,Exit.then]
  go_ret
  exact⟨rfl,below_drewNg _ _⟩
set_option maxHeartbeats 4000000 in
set_option maxRecDepth 1000000 in
theorem Zd3 (r:Int) (w:World) (h0:128≤r) (h1:¬ r=65533) (hv:Lib.validRune r=true) (t:ByteArray) (ht:Utf8.encode r=t) (hk:t.size=4) (c:UInt8) (hc:∀ h:3<t.size,t[3]'h=c) (hc1:128≤c.toNat):Calls Tryz.prog 138 #[.string dots,.int .i32 r] w fun e w'=>e= .returned (.int .i64 (-1))∧Below w.heap.size w w':=by
 obtain⟨s,hs⟩:∃ s,dots=s:=⟨_,rfl⟩
 have hsz:s.size=4:=by rw[←hs];rfl
 obtain⟨x,hx⟩:∃ x,s[3]'(by omega)=x:=⟨_,rfl⟩
 have hx1:x.toNat<128:=by subst hs;rw[←hx];exact Ze2 3 (by decide)
 have hIB:∃ m:Int,m<0∧∀ w,Calls Tryz.prog 143 #[.string (s.extract 4 4),.int .u8 (c.toNat:Int)] w fun e w'=>e= .returned (.int .i64 m)∧w'=w:=by
  refine⟨_,ZeY (l:=(s.extract 4 4).data.toList) (fun b hb=>?_) hc1,fun w=>?_⟩
  · rw[←hs]at hb;exact Zba b (mem_extract hb)
  · have:=Tryz.strings_IndexByte (s.extract 4 4) (c.toNat:Int) w
    rwa [show((c.toNat:Int)).toNat.toUInt8=c by simp]at this
 obtain⟨m,hm,hIB⟩:=hIB
 have hIB2:=hIB
 rw[show s.extract 4 4=ByteArray.empty by simp]at hIB2
 have hcc:=hc (by omega)
 rw[hs]
 clear hs hc
 have h2:¬ r<128:=by omega
 have h3:(0:Int)≤r:=by omega
 have hne:((x.toNat:Int)!= (c.toNat:Int))=true:=by simp;omega
 go_enter Tryz.func138,Tryz.ntmps138
 go_wp2_with (go_at_call 144;refine(Tryz.utf8_ValidRune _ _).mono ?_;rintro e w' ⟨rfl,hw⟩;rw[hw,hv])
 go_step3
 go_wp2
 go_loopg [9,10] 1 (fun _ x9 _ wx=>x9= .int .i64 3∧wx=w)
 case atStart=>exact⟨rfl,rfl⟩
 case round=>
  obtain⟨rfl,rfl⟩:=hrel
  go_wp2
  go_step3
  go_wp2
  go_quiet (fail)
  go_wp2
  have hwr:IntKind.i64.wrap 4=4:=by decide
  go_quiet (exact(hIB2 _).mono fun e w' h=>⟨h.1,_,h.2⟩)
  go_wp2
  simp only[Exit.noGoto_ret,Exit.inBlock,Exit.then]
  go_ret
  exact⟨rfl,below_drewNg _ _⟩
theorem Zfo (r:Int) (w:World) (h0:128≤r):Calls Tryz.prog 138 #[.string dots,.int .i32 r] w fun e w'=>e= .returned (.int .i64 (-1))∧Below w.heap.size w w':=by
 by_cases h1:r=65533
 · subst h1;exact ZdO w
 cases hv:Lib.validRune r with
 | false=>exact(Zci r w h0 h1 hv).mono fun e w' h=>⟨h.1,h.2▸Below.refl _ _⟩
 | true=>
  obtain⟨n,hn,hk,c,hc,hc1⟩:=Zox r h0 hv
  rcases hk with rfl | rfl | rfl
  · exact Zd5 r w h0 h1 hv _ rfl hn c hc hc1
  · exact Zd4 r w h0 h1 hv _ rfl hn c hc hc1
  · exact Zd3 r w h0 h1 hv _ rfl hn c hc hc1
set_option maxHeartbeats 1000000 in
set_option maxRecDepth 1000000 in
theorem ZcL (r:Int) (w:World) (h0:128≤r):Calls Tryz.prog 128 #[.string dots,.int .i32 r] w fun e w'=>e= .returned (.bool false)∧Below w.heap.size w w':=by
 obtain⟨s,hs⟩:∃ s,dots=s:=⟨_,rfl⟩
 have hI:=Zfo r w h0
 rw[hs]at hI ⊢
 clear hs
 go_enter Tryz.func128,Tryz.ntmps128
 go_wp2_with (go_at_call 138;refine hI.mono ?_;rintro e w' ⟨rfl,hb⟩)
 go_ret
 exact⟨rfl,hb⟩
def Zj8 (x:Nat):Bool:=!(((decide (97≤x∧x≤122)||decide (65≤x∧x≤90))||decide (48≤x∧x≤57))|| (decide (x<128)&&dots.data.toList.contains x.toUInt8))
set_option maxHeartbeats 4000000 in
set_option maxRecDepth 1000000 in
theorem ZjA (x:Nat) (w:World):Calls Tryz.prog 127 #[.int .i32 (x:Int)] w fun e w'=>e= .returned (.bool (Zj8 x))∧Below w.heap.size w w':=by
 have hC:∃ b,(x<128→b=dots.data.toList.contains x.toUInt8)∧(128≤x→b=false)∧∀ w,Calls Tryz.prog 128 #[.string ⟨#[45,95,46,63]⟩,.int .i32 (x:Int)] w fun e w'=>e= .returned (.bool b)∧Below w.heap.size w w':=by
  by_cases h:x<128
  · refine⟨dots.data.toList.contains x.toUInt8,fun _=>rfl,fun h'=>by omega,fun w=>?_⟩
    have:=Tryz.strings_ContainsRune_ascii dots (x:Int) w (by omega) (by omega)
    rw[show((x:Int)).toNat.toUInt8=x.toUInt8 by simp,←Lib.contains_iff_indexByte]at this
    exact this.mono fun e w' h=>⟨h.1,h.2▸Below.refl _ _⟩
  · exact⟨false,fun h'=>absurd h' h,fun _=>rfl,fun w=>ZcL x w (by omega)⟩
 obtain⟨b,hb1,hb2,hC⟩:=hC
 have hspec:Zj8 x= !(((decide (97≤x∧x≤122)||decide (65≤x∧x≤90))||decide (48≤x∧x≤57))||b):=by
  unfold Zj8
  by_cases h:x<128
  · rw[hb1 h];simp[h]
  · rw[hb2 (by omega)];simp[h]
 rw[hspec]
 clear hspec hb1 hb2
 have HC:=hC w
 clear hC
 go_enter Tryz.func127,Tryz.ntmps127
 by_cases c1:97≤x<;>by_cases c2:x≤122<;>by_cases c3:65≤x<;>by_cases c4:x≤90<;>by_cases c5:48≤x<;>by_cases c6:x≤57
 all_goals first | (exfalso;omega) | skip
 all_goals
  go_wp2_with (go_at_call 128;refine HC.mono ?_;rintro e w' ⟨rfl,hb⟩)
  go_ret
  exact⟨by first | (simp[c1,c2,c3,c4,c5,c6];done) | (simp[c1,c2,c3,c4,c5,c6];omega),by first | exact hb | exact Below.refl _ _⟩
end Go.Proofs.YtdgbcfloaenhbaaGreatDoor
namespace Go.Proofs.YtdgbcfloaenhbaaGreatDoor
abbrev bt (s:ByteArray) (k:Nat):UInt8:=ge s.data.toList k
theorem ZaN (s:ByteArray):s.data.toList.length=s.size:=by simp
def Zei (c:UInt8):Bool:=(decide ((33:Int)≤(c.toNat:Int)))&& (decide ((c.toNat:Int)≤(126:Int)))
def Zj9 (c:UInt8):Bool:=((((!(((decide ((97:Int)≤(c.toNat:Int)))&& (decide ((c.toNat:Int)≤(122:Int))))|| ((decide ((65:Int)≤(c.toNat:Int)))&& (decide ((c.toNat:Int)≤(90:Int))))))&& ((decide ((c.toNat:Int)< (48:Int)))|| (decide ((57:Int)< (c.toNat:Int)))))&& (!decide ((c.toNat:Int)=(45:Int))))&& (!decide ((c.toNat:Int)=(95:Int))))&& (!decide ((c.toNat:Int)=(46:Int)))
def wordB (s:ByteArray):Bool:=s.data.toList.all Zei&& !decide (s=⟨#[]⟩)
def Zj7 (s:ByteArray):Bool:=s.data.toList.all (fun c=>!decide ((c.toNat:Int)=36))&& (wordB s&&decide ((s.size:Int)≤60))
def QN (s:ByteArray):Bool:=s.data.toList.all (fun c=>!Zj9 c)&& (!decide (s=⟨#[]⟩)&&decide ((s.size:Int)≤60))
theorem ZmS {α:Type} [Inhabited α] {p:α→Bool} {xs:List α} (h:∀ j,j<xs.length→p (ge xs j)=true):xs.all p=true:=by
 rw[List.all_eq_true]
 intro x hx
 obtain⟨k,hk,rfl⟩:=XT hx
 exact h k hk
theorem Za3 {α:Type} [Inhabited α] {p:α→Bool} {xs:List α} {k:Nat} (hk:k<xs.length) (h:p (ge xs k)=false):xs.all p=false:=by
 rw[List.all_eq_false]
 exact⟨ge xs k,ZM hk,by simp[h]⟩
theorem ZiR {p:UInt8→Bool} {s:ByteArray} (h:∀ j,j<s.size→p (bt s j)=true):s.data.toList.all p=true:=ZmS fun j hj=>h j (by rwa [ZaN]at hj)
theorem Za4 {p:UInt8→Bool} {s:ByteArray} {k:Nat} (hk:k<s.size) (h:p (bt s k)=false):s.data.toList.all p=false:=Za3 (by rwa [ZaN]) h
theorem Zra {s:ByteArray} {k:Nat} (hk:k<s.size) (h:Zj9 (bt s k)=true):QN s=false:=by rw[QN,Za4 (p:=fun c=>!Zj9 c) hk (by simpa using h)];rfl
theorem Zog {s:ByteArray} (h:∀ j,j<s.size→Zj9 (bt s j)=false):QN s=(!decide (s=⟨#[]⟩)&&decide ((s.size:Int)≤60)):=by rw[QN,ZiR (p:=fun c=>!Zj9 c) (fun j hj=>by simpa using h j hj)];rfl
theorem ZZ {p:Nat→Prop} {k:Nat} (h:∀ j,j<k→p j) (hk:p k):∀ j,j<k+1→p j:=fun j hj=>by
 by_cases e:j=k
 · subst e;exact hk
 · exact h j (by omega)
def ZeB (d:Db) (s:ByteArray):Bool:=decide (s∈d.consts)||decide (s∈d.vars)
def badP (s:ByteArray) (k:Nat):Bool:=(!decide (((ge s.data.toList k).toNat:Int)=(63:Int)))&& (!QN (s.extract k (k+1)))
def XR (s:ByteArray):Bool:=(decide (s=⟨#[40]⟩)||decide (s=⟨#[41]⟩))|| ((List.range s.size).all (fun k=>!badP s k)&& !decide (s=⟨#[]⟩))
def ofB (h:Hy) (vs:List ByteArray):Bool:=(h.floating&&decide ((h.text.length:Int)=(2:Int)))&&decide (ge h.text 1∈vs)
def Zl2 (d:Db) (l:List ByteArray):Bool:=decide (ge l 0∈d.consts)&& (List.range l.length).all (fun j=>decide (j=0)||ZeB d (ge l j))
def Zbu (d:Db) (l:List ByteArray):Int:=if Zl2 d l then 0 else 12
theorem Zrl {d:Db} {l:List ByteArray} (h:¬ ge l 0∈d.consts):Zbu d l=12:=by simp[Zbu,Zl2,h]
theorem Zou {d:Db} {l:List ByteArray} {j:Nat} (h0:0<j) (hj:j<l.length) (h:ZeB d (ge l j)=false):Zbu d l=12:=by
 have:(List.range l.length).all (fun j=>decide (j=0)||ZeB d (ge l j))=false:=by
  rw[List.all_eq_false]
  exact⟨j,by simpa using hj,by simp[h,Nat.ne_of_gt h0]⟩
 simp[Zbu,Zl2,this]
theorem Zot {d:Db} {l:List ByteArray} (h0:ge l 0∈d.consts) (h:∀ j,0<j→j<l.length→ZeB d (ge l j)=true):Zbu d l=0:=by
 have:(List.range l.length).all (fun j=>decide (j=0)||ZeB d (ge l j))=true:=by
  rw[List.all_eq_true]
  intro k hk
  rcases Nat.eq_zero_or_pos k with h | h'
  · simp[h]
  · simp[h k h' (by simpa using hk)]
 simp[Zbu,Zl2,h0,this]
def Ze4:List ByteArray→List ByteArray→Nat
 | x::xs,y::ys=>if x=y then Ze4 xs ys+1 else 0
 | _,_=>0
theorem Zmi:∀(xs ys:List ByteArray) (n:Nat),n≤xs.length→n≤ys.length→(∀ j,j<n→ge xs j=ge ys j)→¬ (n<xs.length∧n<ys.length∧ge xs n=ge ys n)→n=Ze4 xs ys
 | [],ys,n,h1,_,_,_=>by simp at h1;simp[Ze4,h1]
 | x::xs,[],n,_,h2,_,_=>by simp at h2;simp[Ze4,h2]
 | x::xs,y::ys,n,h1,h2,h3,h4=>by
  simp only[Ze4]
  by_cases e:x=y
  · rw[if_pos e]
    obtain⟨m,rfl⟩:∃ m,n=m+1:=by
     cases n with
     | zero=>exact absurd ⟨by simp,by simp,by simpa [ge]using e⟩ h4
     | succ m=>exact⟨m,rfl⟩
    rw[←Zmi xs ys m (by simpa using h1) (by simpa using h2) (fun j hj=>by simpa [ge]using h3 (j+1) (by omega)) (fun⟨a,b,c⟩=>h4 ⟨by simpa using a,by simpa using b,by simpa [ge]using c⟩)]
  · rw[if_neg e]
    cases n with
    | zero=>rfl
    | succ m=>exact absurd (by simpa [ge]using h3 0 (by omega)) e
def inV (vs:List ByteArray) (p:Pr):Bool:=decide (p.a∈vs)&&decide (p.b∈vs)
theorem YY {α:Type} [Inhabited α] {p:α→Bool} {xs:List α} {k:Nat} (h:k<xs.length):(xs.take (k+1)).filter p=(xs.take k).filter p++(if p (ge xs k)then [ge xs k]else []):=by
 rw[ZU h,List.filter_append]
 by_cases hp:p (ge xs k)=true<;>simp[hp]
theorem ZJ {α:Type} {xs:List α} {k:Nat} (h:xs.length≤k):xs.take k=xs:=List.take_of_length_le h
def Zbj (vs:List ByteArray) (ws:List ByteArray):List ByteArray:=ws.foldl (fun out s=>if decide (s∈vs)&& !decide (s∈out)then out++[s]else out) []
theorem Zdi (vs ws:List ByteArray) (s:ByteArray):Zbj vs (ws++[s])=if decide (s∈vs)&& !decide (s∈Zbj vs ws)then Zbj vs ws++[s]else Zbj vs ws:=by simp[Zbj]
theorem Zlp (vs ws:List ByteArray):(Zbj vs ws).Nodup∧(∀ x,x∈Zbj vs ws↔x∈ws∧x∈vs):=by
 have key:∀(r pre:List ByteArray),(Zbj vs pre).Nodup∧(∀ x,x∈Zbj vs pre↔x∈pre∧x∈vs)→(Zbj vs (pre++r)).Nodup∧(∀ x,x∈Zbj vs (pre++r)↔x∈pre++r∧x∈vs):=by
  intro r
  induction r with
  | nil=>intro pre h;simpa using h
  | cons s r ih=>
   intro pre h
   have:=ih (pre++[s]) (by
    rw[Zdi]
    obtain⟨h1,h2⟩:=h
    by_cases hs:s∈vs
    · by_cases ho:s∈Zbj vs pre
      · simp only[hs,ho,decide_true,Bool.not_true,Bool.and_false,Bool.false_eq_true,if_false]
        refine⟨h1,fun x=>?_⟩
        rw[h2]
        have:=(h2 s).1 ho
        grind
      · simp only[hs,ho,decide_true,decide_false,Bool.not_false,Bool.and_self,if_true]
        refine⟨?_,fun x=>?_⟩
        · rw[List.nodup_append]
          exact⟨h1,by simp,fun a ha b hb=>by simp at hb;subst hb;intro e;subst e;exact ho ha⟩
        · have:=h2 x
          grind
    · simp only[hs,decide_false,Bool.false_and,Bool.false_eq_true,if_false]
      refine⟨h1,fun x=>?_⟩
      have:=h2 x
      grind)
   simpa using this
 simpa using key ws [] ⟨by simp[Zbj],by simp[Zbj]⟩
theorem ZbN:∀ {xs ys:List ByteArray},xs.Nodup→(∀ x∈xs,x∈ys)→xs.length≤ys.length
 | [],_,_,_=>by simp
 | x::xs,ys,h,hs=>by
  have h1:=List.nodup_cons.1 h
  have h2:=ZbN (xs:=xs) (ys:=ys.erase x) h1.2 fun z hz=>by
   have hne:z≠x:=fun e=>h1.1 (e▸hz)
   exact(List.mem_erase_of_ne hne).2 (hs z (by simp[hz]))
  have h3:=List.length_erase_of_mem (hs x (by simp))
  have h4:0<ys.length:=List.length_pos_of_mem (hs x (by simp))
  simp only[List.length_cons]
  omega
def Qf (hs:List Hy):List Hy:=hs.filter fun h=>!h.floating
def hysF (fs:List Fr):List Hy:=fs.flatMap fun f=>f.hyps++f.dummies
theorem Zak {α β:Type} [Inhabited α] {f:α→β} {xs:List α} {k:Nat} (h:k<xs.length):(xs.take (k+1)).map f=(xs.take k).map f++[f (ge xs k)]:=by rw[ZU h,List.map_append];rfl
end Go.Proofs.YtdgbcfloaenhbaaGreatDoor
namespace Go.Proofs.YtdgbcfloaenhbaaGreatDoor
open Go.RowKit Go.Shelf Go.Lib
theorem ZiQ {x:Nat} (h:128≤x):Zj8 x=true:=by
 simp[Zj8,show ¬ x<128 by omega,show ¬ x≤122 by omega,show ¬ x≤90 by omega,show ¬ x≤57 by omega]
def Zpa (c:UInt8):Bool:=(!decide ((c.toNat:Int)=(63:Int)))&&Zj9 c
theorem Zo9:∀ n:Fin 256,Zj8 (UInt8.ofNat n).toNat=Zpa (UInt8.ofNat n):=by decide+kernel
theorem ZgI (c:UInt8):Zj8 c.toNat=Zpa c:=by
 have:=Zo9 ⟨c.toNat,c.toNat_lt⟩
 simpa using this
theorem Zof {s:ByteArray} {k:Nat} (hk:k<s.size):QN (s.extract k (k+1))= !Zj9 (bt s k):=by
 have hl:(s.extract k (k+1)).data.toList=[bt s k]:=by
  rw[ByteArray.data_extract,Array.toList_extract]
  have h1:k<s.data.toList.length:=by rw[ZaN];exact hk
  rw[List.extract_eq_take_drop,show k+1-k=1 by omega,List.drop_eq_getElem_cons h1,List.take_succ_cons,List.take_zero,bt,Y6 h1]
 have hz:(s.extract k (k+1)).size=1:=by rw[←ZaN,hl];rfl
 have hne:¬ s.extract k (k+1)=⟨#[]⟩:=fun e=>by rw[e]at hz;exact absurd hz (by decide)
 unfold QN
 rw[hl,hz]
 simp[hne]
theorem ZgJ {s:ByteArray} {k:Nat} (hk:k<s.size):badP s k=Zpa (bt s k):=by
 rw[badP,Zof hk,Bool.not_not,Zpa]
theorem ZpT {s:ByteArray} {k:Nat} (hk:k<s.size):s[k]'hk=bt s k:=by
 have h1:k<s.data.toList.length:=by rw[ZaN];exact hk
 rw[bt,Y6 h1]
 rfl
theorem ZjV (s:ByteArray) (k:Nat) (hk:k<s.size) (h:128≤(s[k]'hk).toNat):128≤(Utf8.decode s k).1:=by
 have h0:(s.get! (k+0)).toNat=(s[k]'hk).toNat:=by
  rw[show s.get! (k+0)=s[k]'hk by show s.get! k=_;simp[ByteArray.get!,getElem!_pos,hk];rfl]
 unfold Utf8.decode
 simp only[Utf8.runeError]
 rw[if_neg (by omega)]
 repeat' split
 all_goals first | (simp;done) | (simp_all;done) | (simp_all;omega)
theorem ZdA {s:ByteArray} {l:Array UInt8}:decide (s=⟨l⟩)=decide (s.toList=l.toList):=by
 rw[Bool.eq_iff_iff,decide_eq_true_eq,decide_eq_true_eq,ByteArray.toList_eq]
 exact⟨fun h=>by rw[h],fun h=>ByteArray.ext (Array.toList_inj.1 h)⟩
theorem Zgg (s:ByteArray):∀(f pos:Nat),s.size≤pos+f→(0≤Lib.idxFuncFrom Zj8 true s f pos↔ ∃ k,pos≤k∧k<s.size∧Zpa (bt s k)=true)
 | 0,pos,h=>by
  simp only[Lib.idxFuncFrom]
  constructor
  · intro h;omega
  · rintro⟨k,h1,h2,_⟩;omega
 | f+1,pos,h=>by
  simp only[Lib.idxFuncFrom]
  by_cases hp:pos<s.size
  · rw[if_pos hp]
    by_cases ha:(s[pos]'hp).toNat<128
    · rw[decode_ascii s pos hp ha]
      have e:Zj8 (s[pos]'hp).toNat=Zpa (bt s pos):=by rw[ZgI,ZpT hp]
      simp only[e]
      by_cases hb:Zpa (bt s pos)=true
      · rw[if_pos hb]
        exact⟨fun _=>⟨pos,Nat.le_refl _,hp,hb⟩,fun _=>Int.natCast_nonneg _⟩
      · rw[if_neg hb,Zgg s f (pos+1) (by omega)]
        constructor
        · rintro⟨k,h1,h2,h3⟩;exact⟨k,by omega,h2,h3⟩
        · rintro⟨k,h1,h2,h3⟩
          refine⟨k,?_,h2,h3⟩
          by_cases e:k=pos
          · subst e;exact absurd h3 hb
          · omega
    · have e:Zpa (bt s pos)=true:=by
       rw[←ZgI,←ZpT hp];exact ZiQ (by omega)
      rw[if_pos (ZiQ (ZjV s pos hp (by omega)))]
      exact⟨fun _=>⟨pos,Nat.le_refl _,hp,e⟩,fun _=>Int.natCast_nonneg _⟩
  · rw[if_neg hp]
    constructor
    · intro h;omega
    · rintro⟨k,h1,h2,_⟩;omega
theorem ZlS (s:ByteArray):(!decide (0≤Lib.idxFunc Zj8 true s))=(List.range s.size).all fun k=>!badP s k:=by
 have:=Zgg s s.size 0 (by omega)
 rw[←Lib.idxFunc]at this
 rw[Bool.eq_iff_iff,Bool.not_eq_true',decide_eq_false_iff_not,this,List.all_eq_true]
 constructor
 · intro h k hk
   have hk':k<s.size:=by simpa using hk
   rw[ZgJ hk']
   cases hb:Zpa (bt s k)with
   | false=>rfl
   | true=>exact absurd ⟨k,Nat.zero_le _,hk',hb⟩ h
 · rintro h ⟨k,_,h2,h3⟩
   have:=h k (by simpa using h2)
   rw[ZgJ h2,h3]at this
   exact absurd this (by decide)
set_option maxHeartbeats 2000000 in
set_option maxRecDepth 1000000 in
theorem Zjz (s:ByteArray) (w:World):Calls Tryz.prog 117 #[.string s] w fun e w'=>e= .returned (.bool (XR s))∧Below w.heap.size w w':=by
 have hF:=Tryz.strings_ContainsFunc_grows 127 #[] (Zt Tryz.func127 rfl rfl) Zj8 s w fun W x _ _=>ZjA x W
 obtain⟨b,hb⟩:∃ b,decide (0≤Lib.idxFunc Zj8 true s)=b:=⟨_,rfl⟩
 have hspec:XR s=((decide (s.toList=[40])||decide (s.toList=[41]))|| (!b&& !decide (s.toList=[]))):=by
  rw[XR,←ZlS,hb,ZdA,ZdA,ZdA]
 rw[hb]at hF
 rw[hspec]
 clear hspec hb
 go_enter Tryz.func117,Tryz.ntmps117
 go_wp2_with (go_at_call 126;refine hF.mono ?_;rintro e w' ⟨rfl,hb⟩)
 all_goals
  go_ret
  exact⟨by simp_all,by first | exact hb | exact Below.refl _ _⟩
end Go.Proofs.YtdgbcfloaenhbaaGreatDoor
namespace Go.Proofs.YtdgbcfloaenhbaaGreatDoor
theorem Zfk {α:Type} [Inhabited α] {p:α→Bool} {xs:List α} {k:Nat} (h:k<xs.length):(xs.take (k+1)).any p=((xs.take k).any p||p (ge xs k)):=by
 rw[ZU h,List.any_append];simp
theorem ZbX {α:Type} [Inhabited α] {p:α→Bool} {xs:List α} {k:Nat} (h:k<xs.length):(xs.take (k+1)).all p=((xs.take k).all p&&p (ge xs k)):=by
 rw[ZU h,List.all_append];simp
def frL (d:Db) (n:Nat) (s:ByteArray):Bool:=(d.frames.take n).any fun f=>decide (f.label=s)
def hyL (d:Db) (n:Nat) (s:ByteArray):Bool:=(d.frames.take n).any fun f=>(f.hyps++f.dummies).any fun h=>decide (h.label=s)
def oth (d:Db) (k:Nat):List Hy:=hysF (d.frames.take k)
theorem Zig (d:Db):oth d 0=[]:=rfl
theorem ZcS {d:Db} {k:Nat} (h:k<d.frames.length):oth d (k+1)=oth d k++((ge d.frames k).hyps++(ge d.frames k).dummies):=by
 simp[oth,hysF,ZU h]
def Q1 (y:Hy) (dm:Bool):Bool:=((!QN y.label|| (dm&& !y.floating))|| (y.floating&& !decide (((y.text.length:Nat):Int)=2)))|| (!y.floating&& (decide (((y.text.length:Nat):Int)=0)||decide (200< ((y.text.length:Nat):Int))))
theorem Yv {y:Hy} {dm:Bool} (h:Q1 y dm=false) (hf:y.floating=true):y.text.length=2:=by
 simp[Q1,hf]at h;omega
theorem ZlW {y:Hy} {dm:Bool} (h:Q1 y dm=false):0<y.text.length:=by
 cases hf:y.floating with
 | true=>have:=Yv h hf;omega
 | false=>simp[Q1,hf]at h;exact List.length_pos_iff.2 (by grind)
def Zgk (d:Db) (y:Hy):Bool:=y.floating&& (!decide (ge y.text 0∈d.consts)|| !decide (ge y.text 1∈d.vars))
def ZpL (y x:Hy):Bool:=decide (x.label=y.label)
def hOf (y x:Hy):Bool:=ofB x (y.text.drop 1)
def Zrh (y x:Hy):Bool:=ofB x (y.text.drop 1)&& !decide (ge x.text 0=ge y.text 0)
def Zri (y x:Hy):Bool:=decide (x.label=y.label)&& !ZpJ x y
def Zop (d:Db) (k:Nat) (y:Hy) (bs:List Hy) (dm:Bool):Int:=
 if Q1 y dm then 2 else if frL d (k+1) y.label||ZeB d y.label then 6 else if bs.any (ZpL y)then 6
 else if Zgk d y then 12 else if !y.floating&& !decide (Zbu d y.text=0)then Zbu d y.text
 else if y.floating&& (oth d k++bs).any (Zrh y)then 11 else if y.floating&&bs.any (hOf y)then 6
 else if(oth d k).any (Zri y)then 6 else 0
def Xo (n:Nat) (g:Nat→Int):Int:=match(List.range n).find? (fun i=>!decide (g i=0))with | some i=>g i | none=>0
theorem Q5 {n:Nat} {g:Nat→Int} (h:∀ j,j<n→g j=0):Xo n g=0:=by
 have:(List.range n).find? (fun i=>!decide (g i=0))=none:=by
  rw[List.find?_eq_none]
  intro x hx
  simp[h x (by simpa using hx)]
 rw[Xo,this]
theorem Qq {n k:Nat} {g:Nat→Int} (hk:k<n) (h:∀ j,j<k→g j=0) (hg:g k≠0):Xo n g=g k:=by
 have:(List.range n).find? (fun i=>!decide (g i=0))=some k:=by
  rw[List.find?_eq_some_iff_getElem]
  refine⟨by simp[hg],k,by simpa using hk,by simp,fun j hj=>?_⟩
  simp[h j hj]
 rw[Xo,this]
theorem Q6 {n:Nat} {g:Nat→Int} (h:Xo n g=0):∀ j,j<n→g j=0:=by
 intro j hj
 rw[Xo]at h
 split at h
 · rename_i i hi
   have:=List.find?_some hi
   simp[h]at this
 · rename_i hi
   rw[List.find?_eq_none]at hi
   simpa using hi j (by simpa using hj)
def ltP (x y:Pr):Bool:=Op.bytesLess x.a.toList y.a.toList|| (decide (x.a=y.a)&&Op.bytesLess x.b.toList y.b.toList)
def Zjp:List Pr→Pr→List Pr
 | [],p=>[p]
 | x::xs,p=>if ltP x p then x::Zjp xs p else if ZmY x p then x::xs else p::x::xs
def Zok (w z:List Pr):List Pr:=(w++z).foldl Zjp []
theorem Zdu {α β:Type} [Inhabited α] {f:β→α→β} {a:β} {xs:List α} {k:Nat} (h:k<xs.length):(xs.take (k+1)).foldl f a=f ((xs.take k).foldl f a) (ge xs k):=by
 rw[ZU h,List.foldl_append];rfl
def Zcc (d:Db) (f:Fr):List ByteArray:=Zbj d.vars (f.text::(Qf f.hyps).map Hy.text).flatten
def Zfv (hs:List Hy):List ByteArray:=(hs.filter fun h=>h.floating).map fun h=>ge h.text 1
def hIn (m:List ByteArray) (h:Hy):Bool:=!h.floating||ofB h m
def badW (d:Db) (p:Pr):Bool:=(!Op.bytesLess p.a.toList p.b.toList|| !decide (p.a∈d.vars))|| !decide (p.b∈d.vars)
def Zsv (d:Db) (f:Fr):Bool:=
 ((f.hyps.all (hIn (Zcc d f))&& (Zcc d f).all fun s=>decide (s∈Zfv f.hyps))&& !f.wide.any (badW d))&& (decide (f.wide=Zok f.wide [])&&decide (f.apart=f.wide.filter (inV (Zcc d f))))
def befL (d:Db) (k:Nat):List ByteArray:=if k=0 then []else(Qf (ge d.frames (k-1)).hyps).map Hy.label
def ZpF (d:Db) (k i:Nat):Int:=Zop d k (ge ((ge d.frames k).hyps++(ge d.frames k).dummies) i) (((ge d.frames k).hyps++(ge d.frames k).dummies).take i) (decide ((((ge d.frames k).hyps.length:Nat):Int)≤((i:Nat):Int)))
def Zq3 (d:Db) (k:Nat):Int:=Xo ((ge d.frames k).hyps++(ge d.frames k).dummies).length (ZpF d k)
theorem ZbP {d:Db} {k:Nat} {y:Hy} {bs:List Hy} {dm:Bool} (h:Zop d k y bs dm=0):Q1 y dm=false:=by
 cases hf:Q1 y dm with
 | false=>rfl
 | true=>simp[Zop,hf]at h
theorem Zmh:∀(xs ys:List ByteArray),Ze4 xs ys≤ys.length
 | [],_=>by simp[Ze4]
 | _::_,[]=>by simp[Ze4]
 | x::xs,y::ys=>by
  simp only[Ze4,List.length_cons]
  have:=Zmh xs ys
  split<;>omega
def ordB (d:Db) (k:Nat) (f:Fr):Bool:=(((Qf f.hyps).map Hy.label).drop (Ze4 (befL d k) ((Qf f.hyps).map Hy.label))).any (hyL d k)
theorem ZqZ {p:Prop} [Decidable p] (h:(!decide p)=true):¬ p:=by simpa using h
theorem Zq0 {p:Prop} [Decidable p] (h:(!decide p)=false):p:=by simpa using h
def frmE (d:Db) (k:Nat) (f:Fr):Int:=
 if !QN f.label then 2 else if(frL d k f.label||hyL d k f.label)||ZeB d f.label then 6
 else if decide (40< ((f.hyps.length:Nat):Int))||decide (40< ((f.dummies.length:Nat):Int))then 4
 else if !decide (Zq3 d k=0)then Zq3 d k
 else if decide (((f.text.length:Nat):Int)=0)||decide (200< ((f.text.length:Nat):Int))then 2
 else if !decide (Zbu d f.text=0)then Zbu d f.text
 else if !Zsv d f then 70
 else if(decide (0< ((f.proof.length:Nat):Int))&& !f.thm)||decide (8000< ((f.proof.length:Nat):Int))then 2
 else if !f.proof.all XR then 2
 else if ordB d k f then 7 else 0
def frE (d:Db) (k:Nat):Int:=frmE d k (ge d.frames k)
theorem Ziw {d:Db} {k:Nat} (h:frE d k=0):(ge d.frames k).hyps.length≤40∧(ge d.frames k).dummies.length≤40:=by
 rw[frE,frmE]at h
 split at h
 · simp at h
 split at h
 · simp at h
 split at h
 · simp at h
 rename_i h0
 simp at h0
 omega
def ZiB (d:Db) (i:Nat):Int:=if !Zj7 (ge d.consts i)then 2 else if decide (ge d.consts i∈d.consts.take i)then 6 else 0
def Zj6 (d:Db) (i:Nat):Int:=if !Zj7 (ge d.vars i)then 2 else if decide (ge d.vars i∈d.consts)||decide (ge d.vars i∈d.vars.take i)then 6 else 0
def ZdU (d:Db):Int:=if !decide (Xo d.consts.length (ZiB d)=0)then Xo d.consts.length (ZiB d)else Xo d.vars.length (Zj6 d)
def Zd1 (d:Db):Int:=
 if(decide (400< ((d.frames.length:Nat):Int))||decide (8000< ((d.consts.length:Nat):Int)))||decide (8000< ((d.vars.length:Nat):Int))then 8
 else if !decide (ZdU d=0)then ZdU d else Xo d.frames.length (frE d)
end Go.Proofs.YtdgbcfloaenhbaaGreatDoor
