/-
  CONTRACTS: strings.IndexRune at a rune beyond ASCII in a text of ASCII bytes.
  WHAT A RIGHT DATABASE IS, IN PLAIN LEAN: labels, symbols, formulas, hypotheses, frames.
  CONTRACTS: whether a word can stand in a proof (layout.isProof), over runes; the plain law: over bytes.
  WHAT A RIGHT DATABASE IS, IN PLAIN LEAN: the errors of hypotheses, of frames, of a database.
  WHAT USES WHAT, IN PLAIN LEAN.
-/
import Derived.Test.YtapelgeodldlcaaGreatDoorXM
import Derived.Laws.Runes
import Derived.Laws.RangeString
import Derived.Laws.Strings3
import Derived.Deep.LoopGhost
import Derived.Lib.IndexAny
import Derived.Deep.QuietTactic
import Derived.WalkMore
import Derived.Test.YtapelgeodldlcaaGreatDoorXH
namespace Go.Proofs.YtapelgeodldlcaaGreatDoor
open Go.RowKit Go.Shelf Go.Lib
def dots:ByteArray:=⟨#[45,95,46,63]⟩
theorem Zbn:∀ b∈dots.data.toList,b.toNat<128:=by decide
theorem ZfC (i:Nat) (h:i<dots.size):(dots[i]'h).toNat<128:=Zbn _ (Array.getElem_mem_toList (xs:=dots.data) h)
set_option maxHeartbeats 2000000 in
set_option maxRecDepth 1000000 in
theorem Zek (w:World):Calls Tryz.prog 148 #[.string dots,.int .i32 65533] w fun e w'=>e= .returned (.int .i64 (-1))∧Below w.heap.size w w':=by
 obtain⟨s,hs⟩:∃ s,dots=s:=⟨_,rfl⟩
 have HA:Hid (∀(i:Nat) (h:i<s.size),(s[i]'h).toNat<128):=by rw[←hs];exact ZfC
 rw[hs]
 clear hs
 go_enter Tryz.func148,Tryz.ntmps148
 go_wp2
 go_loopg [5,6] s.size (fun g _ _ wx=>∃ i:Nat,i+g=s.size∧wx=w.iter s i)
 case atStart=>exact⟨0,by omega,rfl⟩
 case round=>
  obtain⟨i,hig,rfl⟩:=hrel
  cases gk with
  | zero=>
   obtain rfl:i=s.size:=by omega
   have hnx:=run_next_end (P:=Tryz.prog) w s s.size
   go_wp2
   go_ret
   exact⟨rfl,(Below.refl _ _).alloc (Nat.le_refl _) _⟩
  | succ g=>
   have hi:i<s.size:=by omega
   obtain⟨x,hx⟩:∃ x:UInt8,s[i]'hi=x:=⟨_,rfl⟩
   have hx128:x.toNat<128:=by rw[←hx];exact HA.out i hi
   have hnx:=fun ty=>run_next_ascii (P:=Tryz.prog) w s i ty hi (by rw[hx];exact hx128)
   rw[hx]at hnx
   clear hx
   have hne:¬ ((x.toNat:Int)=65533):=by omega
   go_wp2
   go_roundg g
   case measure=>omega
   case rel=>exact⟨i+1,by omega,rfl⟩
set_option maxHeartbeats 2000000 in
set_option maxRecDepth 1000000 in
theorem ZcG (r:Int) (w:World) (h0:128≤r) (h1:¬ r=65533) (hv:Lib.validRune r=false):Calls Tryz.prog 148 #[.string dots,.int .i32 r] w fun e w'=>e= .returned (.int .i64 (-1))∧w'=w:=by
 obtain⟨s,hs⟩:∃ s,dots=s:=⟨_,rfl⟩
 rw[hs]
 clear hs
 have h2:¬ r<128:=by omega
 have h3:(0:Int)≤r:=by omega
 go_enter Tryz.func148,Tryz.ntmps148
 go_wp2_with (go_at_call 162;refine(Tryz.utf8_ValidRune _ _).mono ?_;rintro e w' ⟨rfl,hw⟩;rw[hw,hv])
 go_ret
 exact⟨rfl,rfl⟩
theorem Zfx {l:List UInt8} {c:UInt8} (hs:∀ b∈l,b.toNat<128) (hc:128≤c.toNat):Lib.indexByte l c<0:=by
 have:=Lib.contains_iff_indexByte l c
 have h2:l.contains c=false:=by
  rw[←Bool.not_eq_true,List.contains_iff_mem]
  intro h
  have:=hs c h
  omega
 rw[h2]at this
 have:=of_decide_eq_false this.symm
 omega
theorem Zqf (r:Int) (h0:128≤r) (hv:Lib.validRune r=true):∃ n:Nat,(Utf8.encode r).size=n+1∧(n=1∨n=2∨n=3)∧∃ c:UInt8,(∀ h:n< (Utf8.encode r).size,(Utf8.encode r)[n]'h=c)∧128≤c.toNat:=by
 obtain⟨e1,e2,e3⟩:=encode_facts r (by rw[validRune_eq];exact hv) h0
 exact⟨(Utf8.encode r).size-1,by omega,by omega,_,fun _=>rfl,e3 (by omega)⟩
set_option maxHeartbeats 4000000 in
set_option maxRecDepth 1000000 in
theorem ZeC (r:Int) (w:World) (h0:128≤r) (h1:¬ r=65533) (hv:Lib.validRune r=true) (t:ByteArray) (ht:Utf8.encode r=t) (hk:t.size=2) (c:UInt8) (hc:∀ h:1<t.size,t[1]'h=c) (hc1:128≤c.toNat):Calls Tryz.prog 148 #[.string dots,.int .i32 r] w fun e w'=>e= .returned (.int .i64 (-1))∧Below w.heap.size w w':=by
 obtain⟨s,hs⟩:∃ s,dots=s:=⟨_,rfl⟩
 have hsz:s.size=4:=by rw[←hs];rfl
 obtain⟨x,hx⟩:∃ x,s[1]'(by omega)=x:=⟨_,rfl⟩
 have hx1:x.toNat<128:=by subst hs;rw[←hx];exact ZfC 1 (by decide)
 have hIB:∃ m:Int,m<0∧∀ w,Calls Tryz.prog 161 #[.string (s.extract 2 4),.int .u8 (c.toNat:Int)] w fun e w'=>e= .returned (.int .i64 m)∧w'=w:=by
  refine⟨_,Zfx (l:=(s.extract 2 4).data.toList) (fun b hb=>?_) hc1,fun w=>?_⟩
  · rw[←hs]at hb;exact Zbn b (mem_extract hb)
  · have:=Tryz.strings_IndexByte (s.extract 2 4) (c.toNat:Int) w
    rwa [show((c.toNat:Int)).toNat.toUInt8=c by simp]at this
 obtain⟨m,hm,hIB⟩:=hIB
 have hcc:=hc (by omega)
 rw[hs]
 clear hs hc
 have h2:¬ r<128:=by omega
 have h3:(0:Int)≤r:=by omega
 have hne:((x.toNat:Int)!= (c.toNat:Int))=true:=by simp;omega
 go_enter Tryz.func148,Tryz.ntmps148
 go_wp2_with (go_at_call 162;refine(Tryz.utf8_ValidRune _ _).mono ?_;rintro e w' ⟨rfl,hw⟩;rw[hw,hv])
 go_step3
 go_wp2
 go_loopg [9,10] 1 (fun _ x9 _ wx=>x9= .int .i64 1∧wx=w)
 case atStart=>exact⟨rfl,rfl⟩
 case round=>
  obtain⟨rfl,rfl⟩:=hrel
  go_wp2
  go_step3
  go_wp2
  go_quiet (fail)
  go_wp2
  have hwr:IntKind.i64.wrap 2=2:=by decide
  go_quiet (exact(hIB _).mono fun e w' h=>⟨h.1,_,h.2⟩)
  go_wp2
  simp only[Exit.noGoto_ret,Exit.inBlock,Exit.then]
  go_ret
  exact⟨rfl,below_drewNg _ _⟩
set_option maxHeartbeats 4000000 in
set_option maxRecDepth 1000000 in
theorem ZeB (r:Int) (w:World) (h0:128≤r) (h1:¬ r=65533) (hv:Lib.validRune r=true) (t:ByteArray) (ht:Utf8.encode r=t) (hk:t.size=3) (c:UInt8) (hc:∀ h:2<t.size,t[2]'h=c) (hc1:128≤c.toNat):Calls Tryz.prog 148 #[.string dots,.int .i32 r] w fun e w'=>e= .returned (.int .i64 (-1))∧Below w.heap.size w w':=by
 obtain⟨s,hs⟩:∃ s,dots=s:=⟨_,rfl⟩
 have hsz:s.size=4:=by rw[←hs];rfl
 obtain⟨x,hx⟩:∃ x,s[2]'(by omega)=x:=⟨_,rfl⟩
 have hx1:x.toNat<128:=by subst hs;rw[←hx];exact ZfC 2 (by decide)
 have hIB:∃ m:Int,m<0∧∀ w,Calls Tryz.prog 161 #[.string (s.extract 3 4),.int .u8 (c.toNat:Int)] w fun e w'=>e= .returned (.int .i64 m)∧w'=w:=by
  refine⟨_,Zfx (l:=(s.extract 3 4).data.toList) (fun b hb=>?_) hc1,fun w=>?_⟩
  · rw[←hs]at hb;exact Zbn b (mem_extract hb)
  · have:=Tryz.strings_IndexByte (s.extract 3 4) (c.toNat:Int) w
    rwa [show((c.toNat:Int)).toNat.toUInt8=c by simp]at this
 obtain⟨m,hm,hIB⟩:=hIB
 have hcc:=hc (by omega)
 rw[hs]
 clear hs hc
 have h2:¬ r<128:=by omega
 have h3:(0:Int)≤r:=by omega
 have hne:((x.toNat:Int)!= (c.toNat:Int))=true:=by simp;omega
 go_enter Tryz.func148,Tryz.ntmps148
 go_wp2_with (go_at_call 162;refine(Tryz.utf8_ValidRune _ _).mono ?_;rintro e w' ⟨rfl,hw⟩;rw[hw,hv])
 go_step3
 go_wp2
 go_loopg [9,10] 1 (fun _ x9 _ wx=>x9= .int .i64 2∧wx=w)
 case atStart=>exact⟨rfl,rfl⟩
 case round=>
  obtain⟨rfl,rfl⟩:=hrel
  go_wp2
  go_step3
  go_wp2
  go_quiet (fail)
  go_wp2
  have hwr:IntKind.i64.wrap 3=3:=by decide
  go_quiet (exact(hIB _).mono fun e w' h=>⟨h.1,_,h.2⟩)
  go_wp2
  simp only[Exit.noGoto_ret,Exit.inBlock,Exit.then]
  go_ret
  exact⟨rfl,below_drewNg _ _⟩
set_option maxHeartbeats 4000000 in
set_option maxRecDepth 1000000 in
theorem ZeA (r:Int) (w:World) (h0:128≤r) (h1:¬ r=65533) (hv:Lib.validRune r=true) (t:ByteArray) (ht:Utf8.encode r=t) (hk:t.size=4) (c:UInt8) (hc:∀ h:3<t.size,t[3]'h=c) (hc1:128≤c.toNat):Calls Tryz.prog 148 #[.string dots,.int .i32 r] w fun e w'=>e= .returned (.int .i64 (-1))∧Below w.heap.size w w':=by
 obtain⟨s,hs⟩:∃ s,dots=s:=⟨_,rfl⟩
 have hsz:s.size=4:=by rw[←hs];rfl
 obtain⟨x,hx⟩:∃ x,s[3]'(by omega)=x:=⟨_,rfl⟩
 have hx1:x.toNat<128:=by subst hs;rw[←hx];exact ZfC 3 (by decide)
 have hIB:∃ m:Int,m<0∧∀ w,Calls Tryz.prog 161 #[.string (s.extract 4 4),.int .u8 (c.toNat:Int)] w fun e w'=>e= .returned (.int .i64 m)∧w'=w:=by
  refine⟨_,Zfx (l:=(s.extract 4 4).data.toList) (fun b hb=>?_) hc1,fun w=>?_⟩
  · rw[←hs]at hb;exact Zbn b (mem_extract hb)
  · have:=Tryz.strings_IndexByte (s.extract 4 4) (c.toNat:Int) w
    rwa [show((c.toNat:Int)).toNat.toUInt8=c by simp]at this
 obtain⟨m,hm,hIB⟩:=hIB
 have hIB2:=hIB
 rw[show s.extract 4 4=ByteArray.empty by simp]at hIB2
 have hcc:=hc (by omega)
 rw[hs]
 clear hs hc
 have h2:¬ r<128:=by omega
 have h3:(0:Int)≤r:=by omega
 have hne:((x.toNat:Int)!= (c.toNat:Int))=true:=by simp;omega
 go_enter Tryz.func148,Tryz.ntmps148
 go_wp2_with (go_at_call 162;refine(Tryz.utf8_ValidRune _ _).mono ?_;rintro e w' ⟨rfl,hw⟩;rw[hw,hv])
 go_step3
 go_wp2
 go_loopg [9,10] 1 (fun _ x9 _ wx=>x9= .int .i64 3∧wx=w)
 case atStart=>exact⟨rfl,rfl⟩
 case round=>
  obtain⟨rfl,rfl⟩:=hrel
  go_wp2
  go_step3
  go_wp2
  go_quiet (fail)
  go_wp2
  have hwr:IntKind.i64.wrap 4=4:=by decide
  go_quiet (exact(hIB2 _).mono fun e w' h=>⟨h.1,_,h.2⟩)
  go_wp2
  simp only[Exit.noGoto_ret,Exit.inBlock,Exit.then]
  go_ret
  exact⟨rfl,below_drewNg _ _⟩
theorem ZfY (r:Int) (w:World) (h0:128≤r):Calls Tryz.prog 148 #[.string dots,.int .i32 r] w fun e w'=>e= .returned (.int .i64 (-1))∧Below w.heap.size w w':=by
 by_cases h1:r=65533
 · subst h1;exact Zek w
 cases hv:Lib.validRune r with
 | false=>exact(ZcG r w h0 h1 hv).mono fun e w' h=>⟨h.1,h.2▸Below.refl _ _⟩
 | true=>
  obtain⟨n,hn,hk,c,hc,hc1⟩:=Zqf r h0 hv
  rcases hk with rfl | rfl | rfl
  · exact ZeC r w h0 h1 hv _ rfl hn c hc hc1
  · exact ZeB r w h0 h1 hv _ rfl hn c hc hc1
  · exact ZeA r w h0 h1 hv _ rfl hn c hc hc1
set_option maxHeartbeats 1000000 in
set_option maxRecDepth 1000000 in
theorem Zc5 (r:Int) (w:World) (h0:128≤r):Calls Tryz.prog 132 #[.string dots,.int .i32 r] w fun e w'=>e= .returned (.bool false)∧Below w.heap.size w w':=by
 obtain⟨s,hs⟩:∃ s,dots=s:=⟨_,rfl⟩
 have hI:=ZfY r w h0
 rw[hs]at hI ⊢
 clear hs
 go_enter Tryz.func132,Tryz.ntmps132
 go_wp2_with (go_at_call 148;refine hI.mono ?_;rintro e w' ⟨rfl,hb⟩)
 go_ret
 exact⟨rfl,hb⟩
def Zlg (x:Nat):Bool:=!(((decide (97≤x∧x≤122)||decide (65≤x∧x≤90))||decide (48≤x∧x≤57))|| (decide (x<128)&&dots.data.toList.contains x.toUInt8))
set_option maxHeartbeats 4000000 in
set_option maxRecDepth 1000000 in
theorem ZkI (x:Nat) (w:World):Calls Tryz.prog 131 #[.int .i32 (x:Int)] w fun e w'=>e= .returned (.bool (Zlg x))∧Below w.heap.size w w':=by
 have hC:∃ b,(x<128→b=dots.data.toList.contains x.toUInt8)∧(128≤x→b=false)∧∀ w,Calls Tryz.prog 132 #[.string ⟨#[45,95,46,63]⟩,.int .i32 (x:Int)] w fun e w'=>e= .returned (.bool b)∧Below w.heap.size w w':=by
  by_cases h:x<128
  · refine⟨dots.data.toList.contains x.toUInt8,fun _=>rfl,fun h'=>by omega,fun w=>?_⟩
    have:=Tryz.strings_ContainsRune_ascii dots (x:Int) w (by omega) (by omega)
    rw[show((x:Int)).toNat.toUInt8=x.toUInt8 by simp,←Lib.contains_iff_indexByte]at this
    exact this.mono fun e w' h=>⟨h.1,h.2▸Below.refl _ _⟩
  · exact⟨false,fun h'=>absurd h' h,fun _=>rfl,fun w=>Zc5 x w (by omega)⟩
 obtain⟨b,hb1,hb2,hC⟩:=hC
 have hspec:Zlg x= !(((decide (97≤x∧x≤122)||decide (65≤x∧x≤90))||decide (48≤x∧x≤57))||b):=by
  unfold Zlg
  by_cases h:x<128
  · rw[hb1 h];simp[h]
  · rw[hb2 (by omega)];simp[h]
 rw[hspec]
 clear hspec hb1 hb2
 have HC:=hC w
 clear hC
 go_enter Tryz.func131,Tryz.ntmps131
 by_cases c1:97≤x<;>by_cases c2:x≤122<;>by_cases c3:65≤x<;>by_cases c4:x≤90<;>by_cases c5:48≤x<;>by_cases c6:x≤57
 all_goals first | (exfalso;omega) | skip
 all_goals
  go_wp2_with (go_at_call 132;refine HC.mono ?_;rintro e w' ⟨rfl,hb⟩)
  go_ret
  exact⟨by first | (simp[c1,c2,c3,c4,c5,c6];done) | (simp[c1,c2,c3,c4,c5,c6];omega),by first | exact hb | exact Below.refl _ _⟩
end Go.Proofs.YtapelgeodldlcaaGreatDoor
namespace Go.Proofs.YtapelgeodldlcaaGreatDoor
abbrev bt (s:ByteArray) (k:Nat):UInt8:=ge s.data.toList k
theorem ZaZ (s:ByteArray):s.data.toList.length=s.size:=by simp
def ZeU (c:UInt8):Bool:=(decide ((33:Int)≤(c.toNat:Int)))&& (decide ((c.toNat:Int)≤(126:Int)))
def ZuS (c:UInt8):Bool:=((((!(((decide ((97:Int)≤(c.toNat:Int)))&& (decide ((c.toNat:Int)≤(122:Int))))|| ((decide ((65:Int)≤(c.toNat:Int)))&& (decide ((c.toNat:Int)≤(90:Int))))))&& ((decide ((c.toNat:Int)< (48:Int)))|| (decide ((57:Int)< (c.toNat:Int)))))&& (!decide ((c.toNat:Int)=(45:Int))))&& (!decide ((c.toNat:Int)=(95:Int))))&& (!decide ((c.toNat:Int)=(46:Int)))
def wordB (s:ByteArray):Bool:=s.data.toList.all ZeU&& !decide (s=⟨#[]⟩)
def Zlf (s:ByteArray):Bool:=s.data.toList.all (fun c=>!decide ((c.toNat:Int)=36))&& (wordB s&&decide ((s.size:Int)≤60))
def Zc3 (s:ByteArray):Bool:=s.data.toList.all (fun c=>!ZuS c)&& (!decide (s=⟨#[]⟩)&&decide ((s.size:Int)≤60))
theorem all_ge {α:Type} [Inhabited α] {p:α→Bool} {xs:List α} (h:∀ j,j<xs.length→p (ge xs j)=true):xs.all p=true:=by
 rw[List.all_eq_true]
 intro x hx
 obtain⟨k,hk,rfl⟩:=XQ hx
 exact h k hk
theorem ZeX {α:Type} [Inhabited α] {p:α→Bool} {xs:List α} {k:Nat} (hk:k<xs.length) (h:p (ge xs k)=false):xs.all p=false:=by
 rw[List.all_eq_false]
 exact⟨ge xs k,ZF hk,by simp[h]⟩
theorem Zoh {p:UInt8→Bool} {s:ByteArray} (h:∀ j,j<s.size→p (bt s j)=true):s.data.toList.all p=true:=all_ge fun j hj=>h j (by rwa [ZaZ]at hj)
theorem Zcy {p:UInt8→Bool} {s:ByteArray} {k:Nat} (hk:k<s.size) (h:p (bt s k)=false):s.data.toList.all p=false:=ZeX (by rwa [ZaZ]) h
theorem ZZ {p:Nat→Prop} {k:Nat} (h:∀ j,j<k→p j) (hk:p k):∀ j,j<k+1→p j:=fun j hj=>by
 by_cases e:j=k
 · subst e;exact hk
 · exact h j (by omega)
def Zer (d:Db) (s:ByteArray):Bool:=decide (s∈d.consts)||decide (s∈d.vars)
def badP (s:ByteArray) (k:Nat):Bool:=(!decide (((ge s.data.toList k).toNat:Int)=(63:Int)))&& (!Zc3 (s.extract k (k+1)))
def XY (s:ByteArray):Bool:=(decide (s=⟨#[40]⟩)||decide (s=⟨#[41]⟩))|| ((List.range s.size).all (fun k=>!badP s k)&& !decide (s=⟨#[]⟩))
def ofB (h:Hy) (vs:List ByteArray):Bool:=(h.floating&&decide ((h.text.length:Int)=(2:Int)))&&decide (ge h.text 1∈vs)
def Znv (d:Db) (l:List ByteArray):Bool:=decide (ge l 0∈d.consts)&& (List.range l.length).all (fun j=>decide (j=0)||Zer d (ge l j))
def Zbw (d:Db) (l:List ByteArray):Int:=if Znv d l then 0 else 12
theorem Ztz {d:Db} {l:List ByteArray} (h:¬ ge l 0∈d.consts):Zbw d l=12:=by simp[Zbw,Znv,h]
theorem Zqb {d:Db} {l:List ByteArray} {j:Nat} (h0:0<j) (hj:j<l.length) (h:Zer d (ge l j)=false):Zbw d l=12:=by
 have:(List.range l.length).all (fun j=>decide (j=0)||Zer d (ge l j))=false:=by
  rw[List.all_eq_false]
  exact⟨j,by simpa using hj,by simp[h,Nat.ne_of_gt h0]⟩
 simp[Zbw,Znv,this]
theorem Zqa {d:Db} {l:List ByteArray} (h0:ge l 0∈d.consts) (h:∀ j,0<j→j<l.length→Zer d (ge l j)=true):Zbw d l=0:=by
 have:(List.range l.length).all (fun j=>decide (j=0)||Zer d (ge l j))=true:=by
  rw[List.all_eq_true]
  intro k hk
  rcases Nat.eq_zero_or_pos k with h | h'
  · simp[h]
  · simp[h k h' (by simpa using hk)]
 simp[Zbw,Znv,h0,this]
def ZfE:List ByteArray→List ByteArray→Nat
 | x::xs,y::ys=>if x=y then ZfE xs ys+1 else 0
 | _,_=>0
theorem ZnK:∀(xs ys:List ByteArray) (n:Nat),n≤xs.length→n≤ys.length→(∀ j,j<n→ge xs j=ge ys j)→¬ (n<xs.length∧n<ys.length∧ge xs n=ge ys n)→n=ZfE xs ys
 | [],ys,n,h1,_,_,_=>by simp at h1;simp[ZfE,h1]
 | x::xs,[],n,_,h2,_,_=>by simp at h2;simp[ZfE,h2]
 | x::xs,y::ys,n,h1,h2,h3,h4=>by
  simp only[ZfE]
  by_cases e:x=y
  · rw[if_pos e]
    obtain⟨m,rfl⟩:∃ m,n=m+1:=by
     cases n with
     | zero=>exact absurd ⟨by simp,by simp,by simpa [ge]using e⟩ h4
     | succ m=>exact⟨m,rfl⟩
    rw[←ZnK xs ys m (by simpa using h1) (by simpa using h2) (fun j hj=>by simpa [ge]using h3 (j+1) (by omega)) (fun⟨a,b,c⟩=>h4 ⟨by simpa using a,by simpa using b,by simpa [ge]using c⟩)]
  · rw[if_neg e]
    cases n with
    | zero=>rfl
    | succ m=>exact absurd (by simpa [ge]using h3 0 (by omega)) e
def inV (vs:List ByteArray) (p:Pr):Bool:=decide (p.a∈vs)&&decide (p.b∈vs)
theorem Yo {α:Type} [Inhabited α] {p:α→Bool} {xs:List α} {k:Nat} (h:k<xs.length):(xs.take (k+1)).filter p=(xs.take k).filter p++(if p (ge xs k)then [ge xs k]else []):=by
 rw[ZO h,List.filter_append]
 by_cases hp:p (ge xs k)=true<;>simp[hp]
theorem ZC {α:Type} {xs:List α} {k:Nat} (h:xs.length≤k):xs.take k=xs:=List.take_of_length_le h
def ZbB (vs:List ByteArray) (ws:List ByteArray):List ByteArray:=ws.foldl (fun out s=>if decide (s∈vs)&& !decide (s∈out)then out++[s]else out) []
theorem ZdP (vs ws:List ByteArray) (s:ByteArray):ZbB vs (ws++[s])=if decide (s∈vs)&& !decide (s∈ZbB vs ws)then ZbB vs ws++[s]else ZbB vs ws:=by simp[ZbB]
theorem ZmS (vs ws:List ByteArray):(ZbB vs ws).Nodup∧(∀ x,x∈ZbB vs ws↔x∈ws∧x∈vs):=by
 have key:∀(r pre:List ByteArray),(ZbB vs pre).Nodup∧(∀ x,x∈ZbB vs pre↔x∈pre∧x∈vs)→(ZbB vs (pre++r)).Nodup∧(∀ x,x∈ZbB vs (pre++r)↔x∈pre++r∧x∈vs):=by
  intro r
  induction r with
  | nil=>intro pre h;simpa using h
  | cons s r ih=>
   intro pre h
   have:=ih (pre++[s]) (by
    rw[ZdP]
    obtain⟨h1,h2⟩:=h
    by_cases hs:s∈vs
    · by_cases ho:s∈ZbB vs pre
      · simp only[hs,ho,decide_true,Bool.not_true,Bool.and_false,Bool.false_eq_true,if_false]
        refine⟨h1,fun x=>?_⟩
        rw[h2]
        have:=(h2 s).1 ho
        grind
      · simp only[hs,ho,decide_true,decide_false,Bool.not_false,Bool.and_self,if_true]
        refine⟨?_,fun x=>?_⟩
        · rw[List.nodup_append]
          exact⟨h1,by simp,fun a ha b hb=>by simp at hb;subst hb;intro e;subst e;exact ho ha⟩
        · have:=h2 x
          grind
    · simp only[hs,decide_false,Bool.false_and,Bool.false_eq_true,if_false]
      refine⟨h1,fun x=>?_⟩
      have:=h2 x
      grind)
   simpa using this
 simpa using key ws [] ⟨by simp[ZbB],by simp[ZbB]⟩
theorem Zb9:∀ {xs ys:List ByteArray},xs.Nodup→(∀ x∈xs,x∈ys)→xs.length≤ys.length
 | [],_,_,_=>by simp
 | x::xs,ys,h,hs=>by
  have h1:=List.nodup_cons.1 h
  have h2:=Zb9 (xs:=xs) (ys:=ys.erase x) h1.2 fun z hz=>by
   have hne:z≠x:=fun e=>h1.1 (e▸hz)
   exact(List.mem_erase_of_ne hne).2 (hs z (by simp[hz]))
  have h3:=List.length_erase_of_mem (hs x (by simp))
  have h4:0<ys.length:=List.length_pos_of_mem (hs x (by simp))
  simp only[List.length_cons]
  omega
def Qq (hs:List Hy):List Hy:=hs.filter fun h=>!h.floating
def hysF (fs:List Fr):List Hy:=fs.flatMap fun f=>f.hyps++f.dummies
theorem Zau {α β:Type} [Inhabited α] {f:α→β} {xs:List α} {k:Nat} (h:k<xs.length):(xs.take (k+1)).map f=(xs.take k).map f++[f (ge xs k)]:=by rw[ZO h,List.map_append];rfl
end Go.Proofs.YtapelgeodldlcaaGreatDoor
namespace Go.Proofs.YtapelgeodldlcaaGreatDoor
open Go.RowKit Go.Shelf Go.Lib
theorem ZjW {x:Nat} (h:128≤x):Zlg x=true:=by
 simp[Zlg,show ¬ x<128 by omega,show ¬ x≤122 by omega,show ¬ x≤90 by omega,show ¬ x≤57 by omega]
def ZqQ (c:UInt8):Bool:=(!decide ((c.toNat:Int)=(63:Int)))&&ZuS c
theorem ZqP:∀ n:Fin 256,Zlg (UInt8.ofNat n).toNat=ZqQ (UInt8.ofNat n):=by decide+kernel
theorem Zhi (c:UInt8):Zlg c.toNat=ZqQ c:=by
 have:=ZqP ⟨c.toNat,c.toNat_lt⟩
 simpa using this
theorem ZpY {s:ByteArray} {k:Nat} (hk:k<s.size):Zc3 (s.extract k (k+1))= !ZuS (bt s k):=by
 have hl:(s.extract k (k+1)).data.toList=[bt s k]:=by
  rw[ByteArray.data_extract,Array.toList_extract]
  have h1:k<s.data.toList.length:=by rw[ZaZ];exact hk
  rw[List.extract_eq_take_drop,show k+1-k=1 by omega,List.drop_eq_getElem_cons h1,List.take_succ_cons,List.take_zero,bt,Xc h1]
 have hz:(s.extract k (k+1)).size=1:=by rw[←ZaZ,hl];rfl
 have hne:¬ s.extract k (k+1)=⟨#[]⟩:=fun e=>by rw[e]at hz;exact absurd hz (by decide)
 unfold Zc3
 rw[hl,hz]
 simp[hne]
theorem Zhj {s:ByteArray} {k:Nat} (hk:k<s.size):badP s k=ZqQ (bt s k):=by
 rw[badP,ZpY hk,Bool.not_not,ZqQ]
theorem ZrT {s:ByteArray} {k:Nat} (hk:k<s.size):s[k]'hk=bt s k:=by
 have h1:k<s.data.toList.length:=by rw[ZaZ];exact hk
 rw[bt,Xc h1]
 rfl
theorem Zk0 (s:ByteArray) (k:Nat) (hk:k<s.size) (h:128≤(s[k]'hk).toNat):128≤(Utf8.decode s k).1:=by
 have h0:(s.get! (k+0)).toNat=(s[k]'hk).toNat:=by
  rw[show s.get! (k+0)=s[k]'hk by show s.get! k=_;simp[ByteArray.get!,getElem!_pos,hk];rfl]
 unfold Utf8.decode
 simp only[Utf8.runeError]
 rw[if_neg (by omega)]
 repeat' split
 all_goals first | (simp;done) | (simp_all;done) | (simp_all;omega)
theorem Zd6 {s:ByteArray} {l:Array UInt8}:decide (s=⟨l⟩)=decide (s.toList=l.toList):=by
 rw[Bool.eq_iff_iff,decide_eq_true_eq,decide_eq_true_eq,ByteArray.toList_eq]
 exact⟨fun h=>by rw[h],fun h=>ByteArray.ext (Array.toList_inj.1 h)⟩
theorem ZgT (s:ByteArray):∀(f pos:Nat),s.size≤pos+f→(0≤Lib.idxFuncFrom Zlg true s f pos↔ ∃ k,pos≤k∧k<s.size∧ZqQ (bt s k)=true)
 | 0,pos,h=>by
  simp only[Lib.idxFuncFrom]
  constructor
  · intro h;omega
  · rintro⟨k,h1,h2,_⟩;omega
 | f+1,pos,h=>by
  simp only[Lib.idxFuncFrom]
  by_cases hp:pos<s.size
  · rw[if_pos hp]
    by_cases ha:(s[pos]'hp).toNat<128
    · rw[decode_ascii s pos hp ha]
      have e:Zlg (s[pos]'hp).toNat=ZqQ (bt s pos):=by rw[Zhi,ZrT hp]
      simp only[e]
      by_cases hb:ZqQ (bt s pos)=true
      · rw[if_pos hb]
        exact⟨fun _=>⟨pos,Nat.le_refl _,hp,hb⟩,fun _=>Int.natCast_nonneg _⟩
      · rw[if_neg hb,ZgT s f (pos+1) (by omega)]
        constructor
        · rintro⟨k,h1,h2,h3⟩;exact⟨k,by omega,h2,h3⟩
        · rintro⟨k,h1,h2,h3⟩
          refine⟨k,?_,h2,h3⟩
          by_cases e:k=pos
          · subst e;exact absurd h3 hb
          · omega
    · have e:ZqQ (bt s pos)=true:=by
       rw[←Zhi,←ZrT hp];exact ZjW (by omega)
      rw[if_pos (ZjW (Zk0 s pos hp (by omega)))]
      exact⟨fun _=>⟨pos,Nat.le_refl _,hp,e⟩,fun _=>Int.natCast_nonneg _⟩
  · rw[if_neg hp]
    constructor
    · intro h;omega
    · rintro⟨k,h1,h2,_⟩;omega
theorem Znm (s:ByteArray):(!decide (0≤Lib.idxFunc Zlg true s))=(List.range s.size).all fun k=>!badP s k:=by
 have:=ZgT s s.size 0 (by omega)
 rw[←Lib.idxFunc]at this
 rw[Bool.eq_iff_iff,Bool.not_eq_true',decide_eq_false_iff_not,this,List.all_eq_true]
 constructor
 · intro h k hk
   have hk':k<s.size:=by simpa using hk
   rw[Zhj hk']
   cases hb:ZqQ (bt s k)with
   | false=>rfl
   | true=>exact absurd ⟨k,Nat.zero_le _,hk',hb⟩ h
 · rintro h ⟨k,_,h2,h3⟩
   have:=h k (by simpa using h2)
   rw[Zhj h2,h3]at this
   exact absurd this (by decide)
set_option maxHeartbeats 2000000 in
set_option maxRecDepth 1000000 in
theorem ZkH (s:ByteArray) (w:World):Calls Tryz.prog 102 #[.string s] w fun e w'=>e= .returned (.bool (XY s))∧Below w.heap.size w w':=by
 have hF:=Tryz.strings_ContainsFunc_grows 131 #[] (Zs Tryz.func131 rfl rfl) Zlg s w fun W x _ _=>ZkI x W
 obtain⟨b,hb⟩:∃ b,decide (0≤Lib.idxFunc Zlg true s)=b:=⟨_,rfl⟩
 have hspec:XY s=((decide (s.toList=[40])||decide (s.toList=[41]))|| (!b&& !decide (s.toList=[]))):=by
  rw[XY,←Znm,hb,Zd6,Zd6,Zd6]
 rw[hb]at hF
 rw[hspec]
 clear hspec hb
 go_enter Tryz.func102,Tryz.ntmps102
 go_wp2_with (go_at_call 130;refine hF.mono ?_;rintro e w' ⟨rfl,hb⟩)
 all_goals
  go_ret
  exact⟨by simp_all,by first | exact hb | exact Below.refl _ _⟩
end Go.Proofs.YtapelgeodldlcaaGreatDoor
namespace Go.Proofs.YtapelgeodldlcaaGreatDoor
theorem Zcn {α:Type} [Inhabited α] {p:α→Bool} {xs:List α} {k:Nat} (h:k<xs.length):(xs.take (k+1)).any p=((xs.take k).any p||p (ge xs k)):=by
 rw[ZO h,List.any_append];simp
theorem Zco {α:Type} [Inhabited α] {p:α→Bool} {xs:List α} {k:Nat} (h:k<xs.length):(xs.take (k+1)).all p=((xs.take k).all p&&p (ge xs k)):=by
 rw[ZO h,List.all_append];simp
theorem ZuM {α:Type} [Inhabited α] {p:α→Bool} {xs:List α} {k:Nat} (h:k<xs.length) (hp:p (ge xs k)=true):xs.any p=true:=List.any_eq_true.2 ⟨_,ZF h,hp⟩
theorem ZqW {α:Type} [Inhabited α] {p:α→Bool} {xs:List α} {k:Nat} (h:(xs.take k).any p=false) (hk:xs.length≤k):xs.any p=false:=by rwa [ZC hk]at h
theorem ZqX {α:Type} [Inhabited α] {p:α→Bool} {xs:List α} {k:Nat} (h:k<xs.length) (h0:(xs.take k).any p=false) (hp:p (ge xs k)=false):(xs.take (k+1)).any p=false:=by rw[Zcn h,h0,hp];rfl
def frL (d:Db) (n:Nat) (s:ByteArray):Bool:=(d.frames.take n).any fun f=>decide (f.label=s)
def hyL (d:Db) (n:Nat) (s:ByteArray):Bool:=(d.frames.take n).any fun f=>(f.hyps++f.dummies).any fun h=>decide (h.label=s)
def oth (d:Db) (k:Nat):List Hy:=hysF (d.frames.take k)
theorem Zje (d:Db):oth d 0=[]:=rfl
theorem Zdg {d:Db} {k:Nat} (h:k<d.frames.length):oth d (k+1)=oth d k++((ge d.frames k).hyps++(ge d.frames k).dummies):=by
 simp[oth,hysF,ZO h]
def Zab (y:Hy) (dm:Bool):Bool:=((!Zc3 y.label|| (dm&& !y.floating))|| (y.floating&& !decide (((y.text.length:Nat):Int)=2)))|| (!y.floating&& (decide (((y.text.length:Nat):Int)=0)||decide (200< ((y.text.length:Nat):Int))))
theorem YC {y:Hy} {dm:Bool} (h:Zab y dm=false) (hf:y.floating=true):y.text.length=2:=by
 simp[Zab,hf]at h;omega
theorem Znq {y:Hy} {dm:Bool} (h:Zab y dm=false):0<y.text.length:=by
 cases hf:y.floating with
 | true=>have:=YC h hf;omega
 | false=>simp[Zab,hf]at h;exact List.length_pos_iff.2 (by grind)
def ZgX (d:Db) (y:Hy):Bool:=y.floating&& (!decide (ge y.text 0∈d.consts)|| !decide (ge y.text 1∈d.vars))
def ZrJ (y x:Hy):Bool:=decide (x.label=y.label)
def hOf (y x:Hy):Bool:=ofB x (y.text.drop 1)
def Ztr (y x:Hy):Bool:=ofB x (y.text.drop 1)&& !decide (ge x.text 0=ge y.text 0)
def Zts (y x:Hy):Bool:=decide (x.label=y.label)&& !ZrH x y
def Zp6 (d:Db) (k:Nat) (y:Hy) (bs:List Hy) (dm:Bool):Int:=
 if Zab y dm then 2 else if frL d (k+1) y.label||Zer d y.label then 6 else if bs.any (ZrJ y)then 6
 else if ZgX d y then 12 else if !y.floating&& !decide (Zbw d y.text=0)then Zbw d y.text
 else if y.floating&& (oth d k++bs).any (Ztr y)then 11 else if y.floating&&bs.any (hOf y)then 6
 else if(oth d k).any (Zts y)then 6 else 0
def XC (n:Nat) (g:Nat→Int):Int:=match(List.range n).find? (fun i=>!decide (g i=0))with | some i=>g i | none=>0
theorem Zae {n:Nat} {g:Nat→Int} (h:∀ j,j<n→g j=0):XC n g=0:=by
 have:(List.range n).find? (fun i=>!decide (g i=0))=none:=by
  rw[List.find?_eq_none]
  intro x hx
  simp[h x (by simpa using hx)]
 rw[XC,this]
theorem QA {n k:Nat} {g:Nat→Int} (hk:k<n) (h:∀ j,j<k→g j=0) (hg:g k≠0):XC n g=g k:=by
 have:(List.range n).find? (fun i=>!decide (g i=0))=some k:=by
  rw[List.find?_eq_some_iff_getElem]
  refine⟨by simp[hg],k,by simpa using hk,by simp,fun j hj=>?_⟩
  simp[h j hj]
 rw[XC,this]
theorem Qz {n:Nat} {g:Nat→Int} (h:XC n g=0):∀ j,j<n→g j=0:=by
 intro j hj
 rw[XC]at h
 split at h
 · rename_i i hi
   have:=List.find?_some hi
   simp[h]at this
 · rename_i hi
   rw[List.find?_eq_none]at hi
   simpa using hi j (by simpa using hj)
def ltP (x y:Pr):Bool:=Op.bytesLess x.a.toList y.a.toList|| (decide (x.a=y.a)&&Op.bytesLess x.b.toList y.b.toList)
def Zkz:List Pr→Pr→List Pr
 | [],p=>[p]
 | x::xs,p=>if ltP x p then x::Zkz xs p else if Zor x p then x::xs else p::x::xs
def Zp3 (w z:List Pr):List Pr:=(w++z).foldl Zkz []
def Zcz (d:Db) (f:Fr):List ByteArray:=ZbB d.vars (f.text::(Qq f.hyps).map Hy.text).flatten
def Zf2 (hs:List Hy):List ByteArray:=(hs.filter fun h=>h.floating).map fun h=>ge h.text 1
def hIn (m:List ByteArray) (h:Hy):Bool:=!h.floating||ofB h m
def badW (d:Db) (p:Pr):Bool:=(!Op.bytesLess p.a.toList p.b.toList|| !decide (p.a∈d.vars))|| !decide (p.b∈d.vars)
def Zso (d:Db) (f:Fr):Bool:=
 ((f.hyps.all (hIn (Zcz d f))&& (Zcz d f).all fun s=>decide (s∈Zf2 f.hyps))&& !f.wide.any (badW d))&& (decide (f.wide=Zp3 f.wide [])&&decide (f.apart=f.wide.filter (inV (Zcz d f))))
def befL (d:Db) (k:Nat):List ByteArray:=if k=0 then []else(Qq (ge d.frames (k-1)).hyps).map Hy.label
def ZrB (d:Db) (k i:Nat):Int:=Zp6 d k (ge ((ge d.frames k).hyps++(ge d.frames k).dummies) i) (((ge d.frames k).hyps++(ge d.frames k).dummies).take i) (decide ((((ge d.frames k).hyps.length:Nat):Int)≤((i:Nat):Int)))
def ZrC (d:Db) (k:Nat):Int:=XC ((ge d.frames k).hyps++(ge d.frames k).dummies).length (ZrB d k)
theorem Zcc {d:Db} {k:Nat} {y:Hy} {bs:List Hy} {dm:Bool} (h:Zp6 d k y bs dm=0):Zab y dm=false:=by
 cases hf:Zab y dm with
 | false=>rfl
 | true=>simp[Zp6,hf]at h
theorem ZnJ:∀(xs ys:List ByteArray),ZfE xs ys≤ys.length
 | [],_=>by simp[ZfE]
 | _::_,[]=>by simp[ZfE]
 | x::xs,y::ys=>by
  simp only[ZfE,List.length_cons]
  have:=ZnJ xs ys
  split<;>omega
def ordB (d:Db) (k:Nat) (f:Fr):Bool:=(((Qq f.hyps).map Hy.label).drop (ZfE (befL d k) ((Qq f.hyps).map Hy.label))).any (hyL d k)
theorem Zji {p:Prop} [Decidable p] (h:(!decide p)=true):¬ p:=by simpa using h
theorem ZhW {p:Prop} [Decidable p] (h:(!decide p)=false):p:=by simpa using h
def Ztv (d:Db) (k:Nat) (f:Fr):Int:=
 if !Zc3 f.label then 2 else if(frL d k f.label||hyL d k f.label)||Zer d f.label then 6
 else if decide (40< ((f.hyps.length:Nat):Int))||decide (40< ((f.dummies.length:Nat):Int))then 4
 else if !decide (ZrC d k=0)then ZrC d k
 else if decide (((f.text.length:Nat):Int)=0)||decide (200< ((f.text.length:Nat):Int))then 2
 else if !decide (Zbw d f.text=0)then Zbw d f.text
 else if !Zso d f then 70
 else if(decide (0< ((f.proof.length:Nat):Int))&& !f.thm)||decide (8000< ((f.proof.length:Nat):Int))then 2
 else if !f.proof.all XY then 2
 else if ordB d k f then 7 else 0
def frE (d:Db) (k:Nat):Int:=Ztv d k (ge d.frames k)
theorem ZjC {d:Db} {k:Nat} (h:frE d k=0):(ge d.frames k).hyps.length≤40∧(ge d.frames k).dummies.length≤40:=by
 rw[frE,Ztv]at h
 split at h
 · simp at h
 split at h
 · simp at h
 split at h
 · simp at h
 rename_i h0
 simp at h0
 omega
def ZjI (d:Db) (i:Nat):Int:=if !Zlf (ge d.consts i)then 2 else if decide (ge d.consts i∈d.consts.take i)then 6 else 0
def Zle (d:Db) (i:Nat):Int:=if !Zlf (ge d.vars i)then 2 else if decide (ge d.vars i∈d.consts)||decide (ge d.vars i∈d.vars.take i)then 6 else 0
def Zeq (d:Db):Int:=if !decide (XC d.consts.length (ZjI d)=0)then XC d.consts.length (ZjI d)else XC d.vars.length (Zle d)
def Qf (d:Db):Int:=
 if(decide (400< ((d.frames.length:Nat):Int))||decide (8000< ((d.consts.length:Nat):Int)))||decide (8000< ((d.vars.length:Nat):Int))then 8
 else if !decide (Zeq d=0)then Zeq d else XC d.frames.length (frE d)
def Zas (l:List ByteArray):List ByteArray:=if decide (0<l.length)&&decide (ge l 0=⟨#[40]⟩)then(l.drop 1).takeWhile (fun s=>!decide (s=⟨#[41]⟩))else l
theorem ZaR {α:Type} [Inhabited α] {p:α→Bool}:∀ {l:List α} {n:Nat},n≤l.length→(∀ j,j<n→p (ge l j)=true)→¬ (n<l.length∧p (ge l n)=true)→l.take n=l.takeWhile p
 | [],n,h,_,_=>by simp
 | x::xs,0,_,_,h3=>by
  have:p x=false:=by simpa [ge]using h3
  simp[this]
 | x::xs,n+1,h1,h2,h3=>by
  have h0:p x=true:=by simpa [ge]using h2 0 (by omega)
  rw[List.take_succ_cons,List.takeWhile_cons_of_pos h0,ZaR (p:=p) (l:=xs) (n:=n) (by simpa using h1) (fun j hj=>by simpa [ge]using h2 (j+1) (by omega)) (fun hab=>h3 ⟨by simpa using hab.1,by simpa [ge]using hab.2⟩)]
theorem ZjA {l:List ByteArray} {j:Nat}:ge (l.drop 1) j=ge l (j+1):=by simp[ge,List.getD_eq_getElem?_getD]
theorem Zm0 {l:List ByteArray} {n:Nat} (h0:0<l.length∧ge l 0=⟨#[40]⟩) (h1:1≤n) (h2:n≤l.length) (h3:∀ j,1≤j→j<n→ge l j≠⟨#[41]⟩) (h4:n<l.length→ge l n=⟨#[41]⟩):(l.take n).drop 1=Zas l:=by
 rw[Zas,if_pos (by simp[h0.1,h0.2]),List.drop_take]
 refine ZaR (by simp;omega) (fun j hj=>?_) fun⟨a,b⟩=>?_
 · rw[ZjA];simpa using h3 (j+1) (by omega) (by omega)
 · rw[ZjA,show n-1+1=n by omega]at b
   simp only[List.length_drop]at a
   simp[h4 (by omega)]at b
theorem Zbh {l:List ByteArray} (h:0<l.length→¬ ge l 0=⟨#[40]⟩):l=Zas l:=by
 rw[Zas,if_neg (by simpa using h)]
def Zj8 (d:Db) (ws:List ByteArray) (k:Nat):List Int:=((List.range k).filter fun q=>decide ((ge d.frames q).label∈ws)).map fun(q:Nat)=>(q:Int)
theorem ZoE {d:Db} {ws:List ByteArray} {k:Nat} {x:Int} (h:x∈Zj8 d ws k):0≤x∧x<k:=by
 simp only[Zj8,List.mem_map,List.mem_filter,List.mem_range]at h
 obtain⟨q,⟨h1,_⟩,rfl⟩:=h
 omega
def Zhu (d:Db) (i:Nat):List Int:=if(ge d.frames i).thm then Zj8 d (Zas (ge d.frames i).proof) i else []
def ZaI (d:Db) (s:ByteArray):Int:=match d.frames.findIdx? (fun f=>decide (f.label=s))with | some i=>(i:Int) | none=> -1
def Zk2 (d:Db) (i:Int):Int:=if !decide (Qf d=0)then Qf d else if decide (i<0)||decide (((d.frames.length:Nat):Int)≤i)then 3 else 0
theorem Zk1 {d:Db} {i:Int} (h:Zk2 d i=0):Qf d=0∧0≤i∧i<d.frames.length:=by
 rw[Zk2]at h
 split at h
 · rename_i h0;simp[h]at h0
 · rename_i h0
   split at h
   · simp at h
   · rename_i h1
     simp at h0 h1
     exact⟨h0,by omega,by omega⟩
theorem Zcj {d:Db} (h:Qf d=0):d.frames.length≤400:=by
 rw[Qf]at h
 split at h
 · simp at h
 · rename_i h0
   simp at h0
   omega
end Go.Proofs.YtapelgeodldlcaaGreatDoor
