/-
  CONTRACTS: strings.IndexRune at a rune beyond ASCII in a text of ASCII bytes.
  WHAT A RIGHT DATABASE IS, IN PLAIN LEAN: labels, symbols, formulas, hypotheses, frames.
  CONTRACTS: whether a word can stand in a proof (layout.isProof), over runes; the plain law: over bytes.
  WHAT A RIGHT DATABASE IS, IN PLAIN LEAN: the errors of hypotheses, of frames, of a database.
-/
import Derived.Test.YtneapgbkkkjagaaGreatDoorYM
import Derived.Laws.Runes
import Derived.Laws.RangeString
import Derived.Laws.Strings3
import Derived.Deep.LoopGhost
import Derived.Lib.IndexAny
import Derived.Deep.QuietTactic
import Derived.WalkMore
import Derived.Test.YtneapgbkkkjagaaGreatDoorYH
namespace Go.Proofs.YtneapgbkkkjagaaGreatDoor
open Go.Proofs.Tryz (prog)
open Go.RowKit Go.Shelf Go.Lib
def dots:BA:=⟨#[45,95,46,63]⟩
theorem Zcf:∀ b∈dots.data.toList,b.toNat<128:=by decide
theorem Zhc (i:Nat) (h:i<dots.size):(dots[i]'h).toNat<128:=Zcf _ (Array.getElem_mem_toList (xs:=dots.data) h)
set_option maxHeartbeats 2000000 in
set_option maxRecDepth 1000000 in
theorem ZfD (w:World):Calls prog 206 #[.string dots,.int .i32 65533] w fun e w'=>e= .returned (.int .i64 (-1))∧Below w.heap.size w w':=by
 obtain⟨s,hs⟩:∃ s,dots=s:=⟨_,rfl⟩
 have HA:Hid (∀(i:Nat) (h:i<s.size),(s[i]'h).toNat<128):=by rw[←hs];exact Zhc
 rw[hs]
 clear hs
 go_enter Tryz.func206,Tryz.ntmps206
 go_wp2
 go_loopg [5,6] s.size (fun g _ _ wx=>∃ i:Nat,i+g=s.size∧wx=w.iter s i)
 case atStart=>exact⟨0,oz,rfl⟩
 case round=>
  obtain⟨i,hig,rfl⟩:=hrel
  cases gk with
  | zero=>
   obtain rfl:i=s.size:=by omega
   have hnx:=run_next_end (P:=prog) w s s.size
   go_wp2
   go_ret
   exact⟨rfl,(Below.refl _ _).alloc nlr _⟩
  | succ g=>
   have hi:i<s.size:=by omega
   obtain⟨x,hx⟩:∃ x:UInt8,s[i]'hi=x:=⟨_,rfl⟩
   have hx128:x.toNat<128:=by rw[←hx];exact HA.out i hi
   have hnx:=fun ty=>run_next_ascii (P:=prog) w s i ty hi (by rw[hx];exact hx128)
   rw[hx]at hnx
   clear hx
   have hne:¬ ((x.toNat:Int)=65533):=by omega
   go_wp2
   go_roundg g
   case measure=>omega
   case rel=>exact⟨i+1,oz,rfl⟩
set_option maxHeartbeats 2000000 in
set_option maxRecDepth 1000000 in
theorem ZdQ (r:Int) (w:World) (h0:128≤r) (h1:¬ r=65533) (hv:Lib.validRune r=false):Calls prog 206 #[.string dots,.int .i32 r] w fun e w'=>e= .returned (.int .i64 (-1))∧w'=w:=by
 obtain⟨s,hs⟩:∃ s,dots=s:=⟨_,rfl⟩
 rw[hs]
 clear hs
 have h2:¬ r<128:=by omega
 have h3:(0:Int)≤r:=by omega
 go_enter Tryz.func206,Tryz.ntmps206
 go_wp2_with (go_at_call 219;refine(Tryz.utf8_ValidRune _ _).mono ?_;rintro e w' ⟨rfl,hw⟩;rw[hw,hv])
 go_ret
 exact⟨rfl,rfl⟩
theorem Zg5 {l:List UInt8} {c:UInt8} (hs:∀ b∈l,b.toNat<128) (hc:128≤c.toNat):Lib.indexByte l c<0:=by
 have:=Lib.contains_iff_indexByte l c
 have h2:l.contains c=false:=by
  rw[←Bool.not_eq_true,List.contains_iff_mem]
  intro h
  have:=hs c h
  omega
 rw[h2]at this
 have:=of_decide_eq_false this.symm
 omega
theorem Zse (r:Int) (h0:128≤r) (hv:Lib.validRune r=true):∃ n:Nat,(Utf8.encode r).size=n+1∧(n=1∨n=2∨n=3)∧∃ c:UInt8,(∀ h:n< (Utf8.encode r).size,(Utf8.encode r)[n]'h=c)∧128≤c.toNat:=by
 obtain⟨e1,e2,e3⟩:=encode_facts r (by rw[validRune_eq];exact hv) h0
 exact⟨(Utf8.encode r).size-1,oz,oz,_,fun _=>rfl,e3 oz⟩
set_option maxHeartbeats 4000000 in
set_option maxRecDepth 1000000 in
theorem ZfU (r:Int) (w:World) (h0:128≤r) (h1:¬ r=65533) (hv:Lib.validRune r=true) (t:BA) (ht:Utf8.encode r=t) (hk:t.size=2) (c:UInt8) (hc:∀ h:1<t.size,t[1]'h=c) (hc1:128≤c.toNat):Calls prog 206 #[.string dots,.int .i32 r] w fun e w'=>e= .returned (.int .i64 (-1))∧Below w.heap.size w w':=by
 obtain⟨s,hs⟩:∃ s,dots=s:=⟨_,rfl⟩
 have hsz:s.size=4:=by rw[←hs];rfl
 obtain⟨x,hx⟩:∃ x,s[1]'(by omega)=x:=⟨_,rfl⟩
 have hx1:x.toNat<128:=by subst hs;rw[←hx];exact Zhc 1 dz
 have hIB:∃ m:Int,m<0∧∀ w,Calls prog 218 #[.string (s.extract 2 4),.int .u8 (c.toNat:Int)] w fun e w'=>e= .returned (.int .i64 m)∧w'=w:=by
  refine⟨_,Zg5 (l:=(s.extract 2 4).data.toList) (fun b hb=>?_) hc1,fun w=>?_⟩
  · rw[←hs]at hb;exact Zcf b (mem_extract hb)
  · have:=Tryz.strings_IndexByte (s.extract 2 4) (c.toNat:Int) w
    rwa [show((c.toNat:Int)).toNat.toUInt8=c by simp]at this
 obtain⟨m,hm,hIB⟩:=hIB
 have hcc:=hc oz
 rw[hs]
 clear hs hc
 have h2:¬ r<128:=by omega
 have h3:(0:Int)≤r:=by omega
 have hne:((x.toNat:Int)!= (c.toNat:Int))=true:=by simp;omega
 go_enter Tryz.func206,Tryz.ntmps206
 go_wp2_with (go_at_call 219;refine(Tryz.utf8_ValidRune _ _).mono ?_;rintro e w' ⟨rfl,hw⟩;rw[hw,hv])
 go_step3
 go_wp2
 go_loopg [9,10] 1 (fun _ x9 _ wx=>x9= .int .i64 1∧wx=w)
 case atStart=>exact⟨rfl,rfl⟩
 case round=>
  obtain⟨rfl,rfl⟩:=hrel
  go_wp2
  go_step3
  go_wp2
  go_quiet (fail)
  go_wp2
  have hwr:IntKind.i64.wrap 2=2:=by decide
  go_quiet (exact(hIB _).mono fun e w' h=>⟨h.1,_,h.2⟩)
  go_wp2
  simp only[Exit.noGoto_ret,Exit.inBlock,Exit.then]
  go_ret
  exact⟨rfl,below_drewNg _ _⟩
set_option maxHeartbeats 4000000 in
set_option maxRecDepth 1000000 in
theorem ZfT (r:Int) (w:World) (h0:128≤r) (h1:¬ r=65533) (hv:Lib.validRune r=true) (t:BA) (ht:Utf8.encode r=t) (hk:t.size=3) (c:UInt8) (hc:∀ h:2<t.size,t[2]'h=c) (hc1:128≤c.toNat):Calls prog 206 #[.string dots,.int .i32 r] w fun e w'=>e= .returned (.int .i64 (-1))∧Below w.heap.size w w':=by
 obtain⟨s,hs⟩:∃ s,dots=s:=⟨_,rfl⟩
 have hsz:s.size=4:=by rw[←hs];rfl
 obtain⟨x,hx⟩:∃ x,s[2]'(by omega)=x:=⟨_,rfl⟩
 have hx1:x.toNat<128:=by subst hs;rw[←hx];exact Zhc 2 dz
 have hIB:∃ m:Int,m<0∧∀ w,Calls prog 218 #[.string (s.extract 3 4),.int .u8 (c.toNat:Int)] w fun e w'=>e= .returned (.int .i64 m)∧w'=w:=by
  refine⟨_,Zg5 (l:=(s.extract 3 4).data.toList) (fun b hb=>?_) hc1,fun w=>?_⟩
  · rw[←hs]at hb;exact Zcf b (mem_extract hb)
  · have:=Tryz.strings_IndexByte (s.extract 3 4) (c.toNat:Int) w
    rwa [show((c.toNat:Int)).toNat.toUInt8=c by simp]at this
 obtain⟨m,hm,hIB⟩:=hIB
 have hcc:=hc oz
 rw[hs]
 clear hs hc
 have h2:¬ r<128:=by omega
 have h3:(0:Int)≤r:=by omega
 have hne:((x.toNat:Int)!= (c.toNat:Int))=true:=by simp;omega
 go_enter Tryz.func206,Tryz.ntmps206
 go_wp2_with (go_at_call 219;refine(Tryz.utf8_ValidRune _ _).mono ?_;rintro e w' ⟨rfl,hw⟩;rw[hw,hv])
 go_step3
 go_wp2
 go_loopg [9,10] 1 (fun _ x9 _ wx=>x9= .int .i64 2∧wx=w)
 case atStart=>exact⟨rfl,rfl⟩
 case round=>
  obtain⟨rfl,rfl⟩:=hrel
  go_wp2
  go_step3
  go_wp2
  go_quiet (fail)
  go_wp2
  have hwr:IntKind.i64.wrap 3=3:=by decide
  go_quiet (exact(hIB _).mono fun e w' h=>⟨h.1,_,h.2⟩)
  go_wp2
  simp only[Exit.noGoto_ret,Exit.inBlock,Exit.then]
  go_ret
  exact⟨rfl,below_drewNg _ _⟩
set_option maxHeartbeats 4000000 in
set_option maxRecDepth 1000000 in
theorem ZfS (r:Int) (w:World) (h0:128≤r) (h1:¬ r=65533) (hv:Lib.validRune r=true) (t:BA) (ht:Utf8.encode r=t) (hk:t.size=4) (c:UInt8) (hc:∀ h:3<t.size,t[3]'h=c) (hc1:128≤c.toNat):Calls prog 206 #[.string dots,.int .i32 r] w fun e w'=>e= .returned (.int .i64 (-1))∧Below w.heap.size w w':=by
 obtain⟨s,hs⟩:∃ s,dots=s:=⟨_,rfl⟩
 have hsz:s.size=4:=by rw[←hs];rfl
 obtain⟨x,hx⟩:∃ x,s[3]'(by omega)=x:=⟨_,rfl⟩
 have hx1:x.toNat<128:=by subst hs;rw[←hx];exact Zhc 3 dz
 have hIB:∃ m:Int,m<0∧∀ w,Calls prog 218 #[.string (s.extract 4 4),.int .u8 (c.toNat:Int)] w fun e w'=>e= .returned (.int .i64 m)∧w'=w:=by
  refine⟨_,Zg5 (l:=(s.extract 4 4).data.toList) (fun b hb=>?_) hc1,fun w=>?_⟩
  · rw[←hs]at hb;exact Zcf b (mem_extract hb)
  · have:=Tryz.strings_IndexByte (s.extract 4 4) (c.toNat:Int) w
    rwa [show((c.toNat:Int)).toNat.toUInt8=c by simp]at this
 obtain⟨m,hm,hIB⟩:=hIB
 have hIB2:=hIB
 rw[show s.extract 4 4=ByteArray.empty by simp]at hIB2
 have hcc:=hc oz
 rw[hs]
 clear hs hc
 have h2:¬ r<128:=by omega
 have h3:(0:Int)≤r:=by omega
 have hne:((x.toNat:Int)!= (c.toNat:Int))=true:=by simp;omega
 go_enter Tryz.func206,Tryz.ntmps206
 go_wp2_with (go_at_call 219;refine(Tryz.utf8_ValidRune _ _).mono ?_;rintro e w' ⟨rfl,hw⟩;rw[hw,hv])
 go_step3
 go_wp2
 go_loopg [9,10] 1 (fun _ x9 _ wx=>x9= .int .i64 3∧wx=w)
 case atStart=>exact⟨rfl,rfl⟩
 case round=>
  obtain⟨rfl,rfl⟩:=hrel
  go_wp2
  go_step3
  go_wp2
  go_quiet (fail)
  go_wp2
  have hwr:IntKind.i64.wrap 4=4:=by decide
  go_quiet (exact(hIB2 _).mono fun e w' h=>⟨h.1,_,h.2⟩)
  go_wp2
  simp only[Exit.noGoto_ret,Exit.inBlock,Exit.then]
  go_ret
  exact⟨rfl,below_drewNg _ _⟩
theorem Zhz (r:Int) (w:World) (h0:128≤r):Calls prog 206 #[.string dots,.int .i32 r] w fun e w'=>e= .returned (.int .i64 (-1))∧Below w.heap.size w w':=by
 by_cases h1:r=65533
 · subst h1;exact ZfD w
 cases hv:Lib.validRune r with
 | false=>exact(ZdQ r w h0 h1 hv).mono fun e w' h=>⟨h.1,h.2▸Below.refl _ _⟩
 | true=>
  obtain⟨n,hn,hk,c,hc,hc1⟩:=Zse r h0 hv
  rcases hk with rfl | rfl | rfl
  · exact ZfU r w h0 h1 hv _ rfl hn c hc hc1
  · exact ZfT r w h0 h1 hv _ rfl hn c hc hc1
  · exact ZfS r w h0 h1 hv _ rfl hn c hc hc1
set_option maxHeartbeats 1000000 in
set_option maxRecDepth 1000000 in
theorem Zeb (r:Int) (w:World) (h0:128≤r):Calls prog 199 #[.string dots,.int .i32 r] w fun e w'=>e= .returned (.bool false)∧Below w.heap.size w w':=by
 obtain⟨s,hs⟩:∃ s,dots=s:=⟨_,rfl⟩
 have hI:=Zhz r w h0
 rw[hs]at hI ⊢
 clear hs
 go_enter Tryz.func199,Tryz.ntmps199
 go_wp2_with (go_at_call 206;refine hI.mono ?_;rintro e w' ⟨rfl,hb⟩)
 go_ret
 exact⟨rfl,hb⟩
def ZmX (x:Nat):Bool:=!(((decide (97≤x∧x≤122)||decide (65≤x∧x≤90))||decide (48≤x∧x≤57))|| (decide (x<128)&&dots.data.toList.contains x.toUInt8))
set_option maxHeartbeats 4000000 in
set_option maxRecDepth 1000000 in
theorem Zmn (x:Nat) (w:World):Calls prog 198 #[.int .i32 (x:Int)] w fun e w'=>e= .returned (.bool (ZmX x))∧Below w.heap.size w w':=by
 have hC:∃ b,(x<128→b=dots.data.toList.contains x.toUInt8)∧(128≤x→b=false)∧∀ w,Calls prog 199 #[.string ⟨#[45,95,46,63]⟩,.int .i32 (x:Int)] w fun e w'=>e= .returned (.bool b)∧Below w.heap.size w w':=by
  by_cases h:x<128
  · refine⟨dots.data.toList.contains x.toUInt8,fun _=>rfl,fun h'=>by omega,fun w=>?_⟩
    have:=Tryz.strings_ContainsRune_ascii dots (x:Int) w oz oz
    rw[show((x:Int)).toNat.toUInt8=x.toUInt8 by simp,←Lib.contains_iff_indexByte]at this
    exact this.mono fun e w' h=>⟨h.1,h.2▸Below.refl _ _⟩
  · exact⟨false,fun h'=>absurd h' h,fun _=>rfl,fun w=>Zeb x w oz⟩
 obtain⟨b,hb1,hb2,hC⟩:=hC
 have hspec:ZmX x= !(((decide (97≤x∧x≤122)||decide (65≤x∧x≤90))||decide (48≤x∧x≤57))||b):=by
  unfold ZmX
  by_cases h:x<128
  · rw[hb1 h];simp[h]
  · rw[hb2 oz];simp[h]
 rw[hspec]
 clear hspec hb1 hb2
 have HC:=hC w
 clear hC
 go_enter Tryz.func198,Tryz.ntmps198
 by_cases c1:97≤x<;>by_cases c2:x≤122<;>by_cases c3:65≤x<;>by_cases c4:x≤90<;>by_cases c5:48≤x<;>by_cases c6:x≤57
 all_goals first | (exfalso;omega) | skip
 all_goals
  go_wp2_with (go_at_call 199;refine HC.mono ?_;rintro e w' ⟨rfl,hb⟩)
  go_ret
  exact⟨by first | (simp[c1,c2,c3,c4,c5,c6];done) | (simp[c1,c2,c3,c4,c5,c6];omega),by first | exact hb | exact Below.refl _ _⟩
end Go.Proofs.YtneapgbkkkjagaaGreatDoor
namespace Go.Proofs.YtneapgbkkkjagaaGreatDoor
abbrev bt (s:BA) (k:Nat):UInt8:=ge s.data.toList k
theorem ZbL (s:BA):s.data.toList.length=s.size:=by simp
def Zbs (c:UInt8):Bool:=(decide ((33:Int)≤(c.toNat:Int)))&& (decide ((c.toNat:Int)≤(126:Int)))
def ZmY (c:UInt8):Bool:=((((!(((decide ((97:Int)≤(c.toNat:Int)))&& (decide ((c.toNat:Int)≤(122:Int))))|| ((decide ((65:Int)≤(c.toNat:Int)))&& (decide ((c.toNat:Int)≤(90:Int))))))&& ((decide ((c.toNat:Int)< (48:Int)))|| (decide ((57:Int)< (c.toNat:Int)))))&& (!decide ((c.toNat:Int)=(45:Int))))&& (!decide ((c.toNat:Int)=(95:Int))))&& (!decide ((c.toNat:Int)=(46:Int)))
def Zgz (s:BA):Bool:=s.data.toList.all Zbs&& !decide (s=⟨#[]⟩)
def ZgH (s:BA):Bool:=s.data.toList.all (fun c=>!decide ((c.toNat:Int)=36))&& (Zgz s&&decide ((s.size:Int)≤60))
def QK (s:BA):Bool:=s.data.toList.all (fun c=>!ZmY c)&& (!decide (s=⟨#[]⟩)&&decide ((s.size:Int)≤60))
theorem Zqs {α:Type} [Inhabited α] {p:α→Bool} {xs:List α} (h:∀ j,j<xs.length→p (ge xs j)=true):xs.all p=true:=by
 rw[List.all_eq_true]
 intro x hx
 obtain⟨k,hk,rfl⟩:=Xp hx
 exact h k hk
theorem QI {α:Type} [Inhabited α] {p:α→Bool} {xs:List α} {k:Nat} (hk:k<xs.length) (h:p (ge xs k)=false):xs.all p=false:=by
 rw[List.all_eq_false]
 exact⟨ge xs k,Zu hk,by simp[h]⟩
theorem Zgt {p:UInt8→Bool} {s:BA} (h:∀ j,j<s.size→p (bt s j)=true):s.data.toList.all p=true:=Zqs fun j hj=>h j (by rwa [ZbL]at hj)
theorem Zad {p:UInt8→Bool} {s:BA} {k:Nat} (hk:k<s.size) (h:p (bt s k)=false):s.data.toList.all p=false:=QI (by rwa [ZbL]) h
theorem ZqI {s:BA} {k:Nat} (hk:k<s.size) (h:Zbs (bt s k)=false):Zgz s=false:=by rw[Zgz,Zad hk h];rfl
theorem Zm3 {s:BA} (h:∀ j,j<s.size→Zbs (bt s j)=true):Zgz s= !decide (s=⟨#[]⟩):=by rw[Zgz,Zgt h];rfl
theorem ZuJ {s:BA} {k:Nat} (hk:k<s.size) (h:((bt s k).toNat:Int)=36):ZgH s=false:=by rw[ZgH,Zad (p:=fun c=>!decide ((c.toNat:Int)=36)) hk (by simpa using h)];rfl
theorem ZqU {s:BA} (h:∀ j,j<s.size→¬ ((bt s j).toNat:Int)=36):ZgH s=(Zgz s&&decide ((s.size:Int)≤60)):=by rw[ZgH,Zgt (p:=fun c=>!decide ((c.toNat:Int)=36)) (fun j hj=>by simpa using h j hj)];rfl
theorem ZvM {s:BA} {k:Nat} (hk:k<s.size) (h:ZmY (bt s k)=true):QK s=false:=by rw[QK,Zad (p:=fun c=>!ZmY c) hk (by simpa using h)];rfl
theorem Zr0 {s:BA} (h:∀ j,j<s.size→ZmY (bt s j)=false):QK s=(!decide (s=⟨#[]⟩)&&decide ((s.size:Int)≤60)):=by rw[QK,Zgt (p:=fun c=>!ZmY c) (fun j hj=>by simpa using h j hj)];rfl
theorem ZK {p:Nat→Prop} {k:Nat} (h:∀ j,j<k→p j) (hk:p k):∀ j,j<k+1→p j:=fun j hj=>by
 by_cases e:j=k
 · subst e;exact hk
 · exact h j oz
def Zdv (d:Db) (s:BA):Bool:=decide (s∈d.consts)||decide (s∈d.vars)
def ZqB (s:BA) (k:Nat):Bool:=(!decide (((ge s.data.toList k).toNat:Int)=(63:Int)))&& (!QK (s.extract k (k+1)))
def Y6 (s:BA):Bool:=(decide (s=⟨#[40]⟩)||decide (s=⟨#[41]⟩))|| ((List.range s.size).all (fun k=>!ZqB s k)&& !decide (s=⟨#[]⟩))
theorem Zl9 {s:BA} (h:s=⟨#[40]⟩∨s=⟨#[41]⟩):Y6 s=true:=by
 rcases h with h | h<;>simp[Y6,h]
theorem Zoa {s:BA} {k:Nat} (h0:¬ s=⟨#[40]⟩∧¬ s=⟨#[41]⟩) (hk:k<s.size) (h:ZqB s k=true):Y6 s=false:=by
 have:(List.range s.size).all (fun k=>!ZqB s k)=false:=by
  rw[List.all_eq_false]
  exact⟨k,by simpa using hk,by simp[h]⟩
 simp[Y6,h0.1,h0.2,this]
theorem Zma {s:BA} (h0:¬ s=⟨#[40]⟩∧¬ s=⟨#[41]⟩) (h:∀ j,j<s.size→ZqB s j=false):Y6 s= !decide (s=⟨#[]⟩):=by
 have:(List.range s.size).all (fun k=>!ZqB s k)=true:=by
  rw[List.all_eq_true]
  intro k hk
  simp[h k (by simpa using hk)]
 simp[Y6,h0.1,h0.2,this]
def ofB (h:Hy) (vs:List BA):Bool:=(h.floating&&decide ((h.text.length:Int)=(2:Int)))&&decide (ge h.text 1∈vs)
def Zpj (d:Db) (l:List BA):Bool:=decide (ge l 0∈d.consts)&& (List.range l.length).all (fun j=>decide (j=0)||Zdv d (ge l j))
def Zbu (d:Db) (l:List BA):Int:=if Zpj d l then 0 else 12
theorem Zpi {d:Db} {l:List BA} (h:¬ ge l 0∈d.consts):Zbu d l=12:=by simp[Zbu,Zpj,h]
theorem Zk8 {d:Db} {l:List BA} {j:Nat} (h0:0<j) (hj:j<l.length) (h:Zdv d (ge l j)=false):Zbu d l=12:=by
 have:(List.range l.length).all (fun j=>decide (j=0)||Zdv d (ge l j))=false:=by
  rw[List.all_eq_false]
  exact⟨j,by simpa using hj,by simp[h,Nat.ne_of_gt h0]⟩
 simp[Zbu,Zpj,this]
theorem Zk7 {d:Db} {l:List BA} (h0:ge l 0∈d.consts) (h:∀ j,0<j→j<l.length→Zdv d (ge l j)=true):Zbu d l=0:=by
 have:(List.range l.length).all (fun j=>decide (j=0)||Zdv d (ge l j))=true:=by
  rw[List.all_eq_true]
  intro k hk
  rcases Nat.eq_zero_or_pos k with h | h'
  · simp[h]
  · simp[h k h' (by simpa using hk)]
 simp[Zbu,Zpj,h0,this]
def Zen:List BA→List BA→Nat
 | x::xs,y::ys=>if x=y then Zen xs ys+1 else 0
 | _,_=>0
theorem ZjO:∀(xs ys:List BA) (n:Nat),n≤xs.length→n≤ys.length→(∀ j,j<n→ge xs j=ge ys j)→¬ (n<xs.length∧n<ys.length∧ge xs n=ge ys n)→n=Zen xs ys
 | [],ys,n,h1,_,_,_=>by simp at h1;simp[Zen,h1]
 | x::xs,[],n,_,h2,_,_=>by simp at h2;simp[Zen,h2]
 | x::xs,y::ys,n,h1,h2,h3,h4=>by
  simp only[Zen]
  by_cases e:x=y
  · rw[if_pos e]
    obtain⟨m,rfl⟩:∃ m,n=m+1:=by
     cases n with
     | zero=>exact absurd ⟨by simp,by simp,by simpa [ge]using e⟩ h4
     | succ m=>exact⟨m,rfl⟩
    rw[←ZjO xs ys m (by simpa using h1) (by simpa using h2) (fun j hj=>by simpa [ge]using h3 (j+1) oz) (fun⟨a,b,c⟩=>h4 ⟨by simpa using a,by simpa using b,by simpa [ge]using c⟩)]
  · rw[if_neg e]
    cases n with
    | zero=>rfl
    | succ m=>exact absurd (by simpa [ge]using h3 0 oz) e
def inV (vs:List BA) (p:Pr):Bool:=decide (p.a∈vs)&&decide (p.b∈vs)
theorem Z4 {α:Type} [Inhabited α] {p:α→Bool} {xs:List α} {k:Nat} (h:k<xs.length):(xs.take (k+1)).filter p=(xs.take k).filter p++(if p (ge xs k)then [ge xs k]else []):=by
 rw[ZZ h,List.filter_append]
 by_cases hp:p (ge xs k)=true<;>simp[hp]
theorem ZD {α:Type} {xs:List α} {k:Nat} (h:xs.length≤k):xs.take k=xs:=List.take_of_length_le h
def Zab (vs:List BA) (ws:List BA):List BA:=ws.foldl (fun out s=>if decide (s∈vs)&& !decide (s∈out)then out++[s]else out) []
theorem ZbJ (vs ws:List BA) (s:BA):Zab vs (ws++[s])=if decide (s∈vs)&& !decide (s∈Zab vs ws)then Zab vs ws++[s]else Zab vs ws:=by simp[Zab]
theorem ZeY (vs ws:List BA):(Zab vs ws).Nodup∧(∀ x,x∈Zab vs ws↔x∈ws∧x∈vs):=by
 have key:∀(r pre:List BA),(Zab vs pre).Nodup∧(∀ x,x∈Zab vs pre↔x∈pre∧x∈vs)→(Zab vs (pre++r)).Nodup∧(∀ x,x∈Zab vs (pre++r)↔x∈pre++r∧x∈vs):=by
  intro r
  induction r with
  | nil=>intro pre h;simpa using h
  | cons s r ih=>
   intro pre h
   have:=ih (pre++[s]) (by
    rw[ZbJ]
    obtain⟨h1,h2⟩:=h
    by_cases hs:s∈vs
    · by_cases ho:s∈Zab vs pre
      · simp only[hs,ho,decide_true,Bool.not_true,Bool.and_false,Bool.false_eq_true,if_false]
        refine⟨h1,fun x=>?_⟩
        rw[h2]
        have:=(h2 s).1 ho
        grind
      · simp only[hs,ho,decide_true,decide_false,Bool.not_false,Bool.and_self,if_true]
        refine⟨?_,fun x=>?_⟩
        · rw[List.nodup_append]
          exact⟨h1,by simp,fun a ha b hb=>by simp at hb;subst hb;intro e;subst e;exact ho ha⟩
        · have:=h2 x
          grind
    · simp only[hs,decide_false,Bool.false_and,Bool.false_eq_true,if_false]
      refine⟨h1,fun x=>?_⟩
      have:=h2 x
      grind)
   simpa using this
 simpa using key ws [] ⟨by simp[Zab],by simp[Zab]⟩
theorem Zb5:∀ {xs ys:List BA},xs.Nodup→(∀ x∈xs,x∈ys)→xs.length≤ys.length
 | [],_,_,_=>by simp
 | x::xs,ys,h,hs=>by
  have h1:=List.nodup_cons.1 h
  have h2:=Zb5 (xs:=xs) (ys:=ys.erase x) h1.2 fun z hz=>by
   have hne:z≠x:=fun e=>h1.1 (e▸hz)
   exact(List.mem_erase_of_ne hne).2 (hs z (by simp[hz]))
  have h3:=List.length_erase_of_mem (hs x yz)
  have h4:0<ys.length:=List.length_pos_of_mem (hs x yz)
  simp only[List.length_cons]
  omega
theorem ZoC (vs ws:List BA):(Zab vs ws).length≤vs.length:=Zb5 (ZeY vs ws).1 fun x hx=>((ZeY vs ws).2 x).1 hx |>.2
def YZ (hs:List Hy):List Hy:=hs.filter fun h=>!h.floating
def hysF (fs:List Fr):List Hy:=fs.flatMap fun f=>f.hyps++f.dummies
theorem Q7 {α β:Type} [Inhabited α] {f:α→β} {xs:List α} {k:Nat} (h:k<xs.length):(xs.take (k+1)).map f=(xs.take k).map f++[f (ge xs k)]:=by rw[ZZ h,List.map_append];rfl
end Go.Proofs.YtneapgbkkkjagaaGreatDoor
namespace Go.Proofs.YtneapgbkkkjagaaGreatDoor
open Go.RowKit Go.Shelf Go.Lib
theorem ZlB {x:Nat} (h:128≤x):ZmX x=true:=by
 simp[ZmX,show ¬ x<128 by omega,show ¬ x≤122 by omega,show ¬ x≤90 by omega,show ¬ x≤57 by omega]
def ZtA (c:UInt8):Bool:=(!decide ((c.toNat:Int)=(63:Int)))&&ZmY c
theorem Ztz:∀ n:Fin 256,ZmX (UInt8.ofNat n).toNat=ZtA (UInt8.ofNat n):=by decide+kernel
theorem ZiU (c:UInt8):ZmX c.toNat=ZtA c:=by
 have:=Ztz ⟨c.toNat,c.toNat_lt⟩
 simpa using this
theorem ZrZ {s:BA} {k:Nat} (hk:k<s.size):QK (s.extract k (k+1))= !ZmY (bt s k):=by
 have hl:(s.extract k (k+1)).data.toList=[bt s k]:=by
  rw[ByteArray.data_extract,Array.toList_extract]
  have h1:k<s.data.toList.length:=by rw[ZbL];exact hk
  rw[List.extract_eq_take_drop,show k+1-k=1 by omega,List.drop_eq_getElem_cons h1,List.take_succ_cons,List.take_zero,bt,Xj h1]
 have hz:(s.extract k (k+1)).size=1:=by rw[←ZbL,hl];rfl
 have hne:¬ s.extract k (k+1)=⟨#[]⟩:=fun e=>by rw[e]at hz;exact absurd hz dz
 unfold QK
 rw[hl,hz]
 simp[hne]
theorem ZiV {s:BA} {k:Nat} (hk:k<s.size):ZqB s k=ZtA (bt s k):=by
 rw[ZqB,ZrZ hk,Bool.not_not,ZtA]
theorem Zun {s:BA} {k:Nat} (hk:k<s.size):s[k]'hk=bt s k:=by
 have h1:k<s.data.toList.length:=by rw[ZbL];exact hk
 rw[bt,Xj h1]
 rfl
theorem ZmH (s:BA) (k:Nat) (hk:k<s.size) (h:128≤(s[k]'hk).toNat):128≤(Utf8.decode s k).1:=by
 have h0:(s.get! (k+0)).toNat=(s[k]'hk).toNat:=by
  rw[show s.get! (k+0)=s[k]'hk by show s.get! k=_;simp[ByteArray.get!,getElem!_pos,hk];rfl]
 unfold Utf8.decode
 simp only[Utf8.runeError]
 rw[if_neg oz]
 repeat' split
 all_goals first | (simp;done) | (simp_all;done) | (simp_all;omega)
theorem Zfi {s:BA} {l:Array UInt8}:decide (s=⟨l⟩)=decide (s.toList=l.toList):=by
 rw[Bool.eq_iff_iff,decide_eq_true_eq,decide_eq_true_eq,ByteArray.toList_eq]
 exact⟨fun h=>by rw[h],fun h=>ByteArray.ext (Array.toList_inj.1 h)⟩
theorem Zis (s:BA):∀(f pos:Nat),s.size≤pos+f→(0≤Lib.idxFuncFrom ZmX true s f pos↔ ∃ k,pos≤k∧k<s.size∧ZtA (bt s k)=true)
 | 0,pos,h=>by
  simp only[Lib.idxFuncFrom]
  constructor
  · intro h;omega
  · rintro⟨k,h1,h2,_⟩;omega
 | f+1,pos,h=>by
  simp only[Lib.idxFuncFrom]
  by_cases hp:pos<s.size
  · rw[if_pos hp]
    by_cases ha:(s[pos]'hp).toNat<128
    · rw[decode_ascii s pos hp ha]
      have e:ZmX (s[pos]'hp).toNat=ZtA (bt s pos):=by rw[ZiU,Zun hp]
      simp only[e]
      by_cases hb:ZtA (bt s pos)=true
      · rw[if_pos hb]
        exact⟨fun _=>⟨pos,Nat.le_refl _,hp,hb⟩,fun _=>Int.natCast_nonneg _⟩
      · rw[if_neg hb,Zis s f (pos+1) oz]
        constructor
        · rintro⟨k,h1,h2,h3⟩;exact⟨k,oz,h2,h3⟩
        · rintro⟨k,h1,h2,h3⟩
          refine⟨k,?_,h2,h3⟩
          by_cases e:k=pos
          · subst e;exact absurd h3 hb
          · omega
    · have e:ZtA (bt s pos)=true:=by
       rw[←ZiU,←Zun hp];exact ZlB oz
      rw[if_pos (ZlB (ZmH s pos hp oz))]
      exact⟨fun _=>⟨pos,Nat.le_refl _,hp,e⟩,fun _=>Int.natCast_nonneg _⟩
  · rw[if_neg hp]
    constructor
    · intro h;omega
    · rintro⟨k,h1,h2,_⟩;omega
theorem Zo9 (s:BA):(!decide (0≤Lib.idxFunc ZmX true s))=(List.range s.size).all fun k=>!ZqB s k:=by
 have:=Zis s s.size 0 oz
 rw[←Lib.idxFunc]at this
 rw[Bool.eq_iff_iff,Bool.not_eq_true',decide_eq_false_iff_not,this,List.all_eq_true]
 constructor
 · intro h k hk
   have hk':k<s.size:=by simpa using hk
   rw[ZiV hk']
   cases hb:ZtA (bt s k)with
   | false=>rfl
   | true=>exact absurd ⟨k,nzl,hk',hb⟩ h
 · rintro h ⟨k,_,h2,h3⟩
   have:=h k (by simpa using h2)
   rw[ZiV h2,h3]at this
   exact absurd this dz
set_option maxHeartbeats 2000000 in
set_option maxRecDepth 1000000 in
theorem Zmm (s:BA) (w:World):Calls Tryz.prog 183 #[.string s] w fun e w'=>e= .returned (.bool (Y6 s))∧Below w.heap.size w w':=by
 have hF:=Tryz.strings_ContainsFunc_grows 198 #[] (Zp Tryz.func198 rfl rfl) ZmX s w fun W x _ _=>Zmn x W
 obtain⟨b,hb⟩:∃ b,decide (0≤Lib.idxFunc ZmX true s)=b:=⟨_,rfl⟩
 have hspec:Y6 s=((decide (s.toList=[40])||decide (s.toList=[41]))|| (!b&& !decide (s.toList=[]))):=by
  rw[Y6,←Zo9,hb,Zfi,Zfi,Zfi]
 rw[hb]at hF
 rw[hspec]
 clear hspec hb
 go_enter Tryz.func183,Tryz.ntmps183
 go_wp2_with (go_at_call 197;refine hF.mono ?_;rintro e w' ⟨rfl,hb⟩)
 all_goals
  go_ret
  exact⟨by simp_all,by first | exact hb | exact Below.refl _ _⟩
end Go.Proofs.YtneapgbkkkjagaaGreatDoor
namespace Go.Proofs.YtneapgbkkkjagaaGreatDoor
theorem Qz {α:Type} [Inhabited α] {p:α→Bool} {xs:List α} {k:Nat} (h:k<xs.length):(xs.take (k+1)).any p=((xs.take k).any p||p (ge xs k)):=by
 rw[ZZ h,List.any_append];simp
theorem XX {α:Type} [Inhabited α] {p:α→Bool} {xs:List α} {k:Nat} (h:k<xs.length):(xs.take (k+1)).all p=((xs.take k).all p&&p (ge xs k)):=by
 rw[ZZ h,List.all_append];simp
theorem ZaR {α:Type} [Inhabited α] {p:α→Bool} {xs:List α} {k:Nat} (h:k<xs.length) (hp:p (ge xs k)=true):xs.any p=true:=List.any_eq_true.2 ⟨_,Zu h,hp⟩
theorem QQ {α:Type} [Inhabited α] {p:α→Bool} {xs:List α} {k:Nat} (h:(xs.take k).any p=false) (hk:xs.length≤k):xs.any p=false:=by rwa [ZD hk]at h
theorem QR {α:Type} [Inhabited α] {p:α→Bool} {xs:List α} {k:Nat} (h:k<xs.length) (h0:(xs.take k).any p=false) (hp:p (ge xs k)=false):(xs.take (k+1)).any p=false:=by rw[Qz h,h0,hp];rfl
def frL (d:Db) (n:Nat) (s:BA):Bool:=(d.frames.take n).any fun f=>decide (f.label=s)
def hyL (d:Db) (n:Nat) (s:BA):Bool:=(d.frames.take n).any fun f=>(f.hyps++f.dummies).any fun h=>decide (h.label=s)
def oth (d:Db) (k:Nat):List Hy:=hysF (d.frames.take k)
theorem ZkN (d:Db):oth d 0=[]:=rfl
theorem Zb4 {d:Db} {k:Nat} (h:k<d.frames.length):oth d (k+1)=oth d k++((ge d.frames k).hyps++(ge d.frames k).dummies):=by
 simp[oth,hysF,ZZ h]
def Zar (y:Hy) (dm:Bool):Bool:=((!QK y.label|| (dm&& !y.floating))|| (y.floating&& !decide (((y.text.length:Nat):Int)=2)))|| (!y.floating&& (decide (((y.text.length:Nat):Int)=0)||decide (200< ((y.text.length:Nat):Int))))
theorem Yv {y:Hy} {dm:Bool} (h:Zar y dm=false) (hf:y.floating=true):y.text.length=2:=by
 simp[Zar,hf]at h;omega
theorem Zix {y:Hy} {dm:Bool} (h:Zar y dm=false):0<y.text.length:=by
 cases hf:y.floating with
 | true=>have:=Yv h hf;omega
 | false=>simp[Zar,hf]at h;exact List.length_pos_iff.2 (by grind)
def Zfb (d:Db) (y:Hy):Bool:=y.floating&& (!decide (ge y.text 0∈d.consts)|| !decide (ge y.text 1∈d.vars))
def ZjA (y x:Hy):Bool:=decide (x.label=y.label)
def hOf (y x:Hy):Bool:=ofB x (y.text.drop 1)
def Ziw (y x:Hy):Bool:=ofB x (y.text.drop 1)&& !decide (ge x.text 0=ge y.text 0)
def ZdH (y x:Hy):Bool:=decide (x.label=y.label)&& !Zmr x y
theorem ZoB {x:Hy} {vs:List BA} (h:ofB x vs=true):x.text.length=2:=by
 simp[ofB]at h;omega
def Zc9 (d:Db) (k:Nat) (y:Hy) (bs:List Hy) (dm:Bool):Int:=
 if Zar y dm then 2 else if frL d (k+1) y.label||Zdv d y.label then 6 else if bs.any (ZjA y)then 6
 else if Zfb d y then 12 else if !y.floating&& !decide (Zbu d y.text=0)then Zbu d y.text
 else if y.floating&& (oth d k++bs).any (Ziw y)then 11 else if y.floating&&bs.any (hOf y)then 6
 else if(oth d k).any (ZdH y)then 6 else 0
def Xz (n:Nat) (g:Nat→Int):Int:=match(List.range n).find? (fun i=>!decide (g i=0))with | some i=>g i | none=>0
theorem X7 {n:Nat} {g:Nat→Int} (h:∀ j,j<n→g j=0):Xz n g=0:=by
 have:(List.range n).find? (fun i=>!decide (g i=0))=none:=by
  rw[List.find?_eq_none]
  intro x hx
  simp[h x (by simpa using hx)]
 rw[Xz,this]
theorem Yp {n k:Nat} {g:Nat→Int} (hk:k<n) (h:∀ j,j<k→g j=0) (hg:g k≠0):Xz n g=g k:=by
 have:(List.range n).find? (fun i=>!decide (g i=0))=some k:=by
  rw[List.find?_eq_some_iff_getElem]
  refine⟨by simp[hg],k,by simpa using hk,by simp,fun j hj=>?_⟩
  simp[h j hj]
 rw[Xz,this]
theorem Qj {n:Nat} {g:Nat→Int} (h:Xz n g=0):∀ j,j<n→g j=0:=by
 intro j hj
 rw[Xz]at h
 split at h
 · rename_i i hi
   have:=List.find?_some hi
   simp[h]at this
 · rename_i hi
   rw[List.find?_eq_none]at hi
   simpa using hi j (by simpa using hj)
def ltP (x y:Pr):Bool:=Op.bytesLess x.a.toList y.a.toList|| (decide (x.a=y.a)&&Op.bytesLess x.b.toList y.b.toList)
def Zc3:List Pr→Pr→List Pr
 | [],p=>[p]
 | x::xs,p=>if ltP x p then x::Zc3 xs p else if ZfF x p then x::xs else p::x::xs
theorem Zjk:∀(l:List Pr) (p:Pr) (k:Nat),k≤l.length→(∀ j,j<k→ltP (ge l j) p=true)→¬ (k<l.length∧ltP (ge l k) p=true)→
 Zc3 l p=if k<l.length∧ZfF (ge l k) p=true then l else l.take k++p::l.drop k
 | [],p,k,h1,_,_=>by simp at h1;subst h1;simp[Zc3]
 | x::xs,p,0,_,_,h3=>by
  have:ltP x p=false:=by simpa [ge]using h3
  simp only[Zc3,this]
  by_cases e:ZfF x p=true<;>simp[e,ge]
 | x::xs,p,k+1,h1,h2,h3=>by
  have h0:ltP x p=true:=by simpa [ge]using h2 0 oz
  have ih:=Zjk xs p k (by simpa using h1) (fun j hj=>by simpa [ge]using h2 (j+1) oz) (fun⟨a,b⟩=>h3 ⟨by simpa using a,by simpa [ge]using b⟩)
  simp only[Zc3,h0,if_true,ih]
  by_cases e:k<xs.length∧ZfF (ge xs k) p=true
  · have e':k+1< (x::xs).length∧ZfF (ge (x::xs) (k+1)) p=true:=⟨by simpa using e.1,by simpa [ge]using e.2⟩
    rw[if_pos e,if_pos e']
  · have e':¬ (k+1< (x::xs).length∧ZfF (ge (x::xs) (k+1)) p=true):=fun⟨a,b⟩=>e ⟨by simpa using a,by simpa [ge]using b⟩
    rw[if_neg e,if_neg e'];rfl
theorem ZkH (l:List Pr) (p:Pr):(Zc3 l p).length≤l.length+1:=by
 induction l with
 | nil=>simp[Zc3]
 | cons x xs ih=>simp only[Zc3];split<;>(try split)<;>simp<;>omega
def ZfP (w z:List Pr):List Pr:=(w++z).foldl Zc3 []
theorem ZbN {α β:Type} [Inhabited α] {f:β→α→β} {a:β} {xs:List α} {k:Nat} (h:k<xs.length):(xs.take (k+1)).foldl f a=f ((xs.take k).foldl f a) (ge xs k):=by
 rw[ZZ h,List.foldl_append];rfl
def QW (d:Db) (f:Fr):List BA:=Zab d.vars (f.text::(YZ f.hyps).map Hy.text).flatten
def ZdT (hs:List Hy):List BA:=(hs.filter fun h=>h.floating).map fun h=>ge h.text 1
def hIn (m:List BA) (h:Hy):Bool:=!h.floating||ofB h m
def Zw5 (d:Db) (p:Pr):Bool:=(!Op.bytesLess p.a.toList p.b.toList|| !decide (p.a∈d.vars))|| !decide (p.b∈d.vars)
def Zed (d:Db) (f:Fr):Bool:=
 ((f.hyps.all (hIn (QW d f))&& (QW d f).all fun s=>decide (s∈ZdT f.hyps))&& !f.wide.any (Zw5 d))&& (decide (f.wide=ZfP f.wide [])&&decide (f.apart=f.wide.filter (inV (QW d f))))
def Zj5 (d:Db) (k:Nat):List BA:=if k=0 then []else(YZ (ge d.frames (k-1)).hyps).map Hy.label
def Zb7 (d:Db) (k i:Nat):Int:=Zc9 d k (ge ((ge d.frames k).hyps++(ge d.frames k).dummies) i) (((ge d.frames k).hyps++(ge d.frames k).dummies).take i) (decide ((((ge d.frames k).hyps.length:Nat):Int)≤((i:Nat):Int)))
def ZmV (d:Db) (k:Nat):Int:=Xz ((ge d.frames k).hyps++(ge d.frames k).dummies).length (Zb7 d k)
theorem Za0 {d:Db} {k:Nat} {y:Hy} {bs:List Hy} {dm:Bool} (h:Zc9 d k y bs dm=0):Zar y dm=false:=by
 cases hf:Zar y dm with
 | false=>rfl
 | true=>simp[Zc9,hf]at h
theorem ZrR {d:Db} {k:Nat} (h:ZmV d k=0):∀ y∈(ge d.frames k).hyps++(ge d.frames k).dummies,y.floating=true→y.text.length=2:=fun y hy hf=>by
 obtain⟨j,hj,rfl⟩:=Xp hy
 exact Yv (Za0 (Qj h j hj)) hf
theorem Zsf {α:Type} [Inhabited α] {p:α→Bool} {xs:List α} {c i:Nat} (h1:c≤i) (h2:i<xs.length) (hp:p (ge xs i)=true):(xs.drop c).any p=true:=by
 rw[List.any_eq_true]
 refine⟨ge xs i,?_,hp⟩
 rw[List.mem_drop_iff_getElem]
 exact⟨i-c,oz,by simp[ge,List.getD_eq_getElem?_getD,Nat.add_sub_cancel' h1,List.getElem?_eq_getElem h2]⟩
theorem Zpu {α:Type} [Inhabited α] {p:α→Bool} {xs:List α} {c:Nat} (h:∀ i,c≤i→i<xs.length→p (ge xs i)=false):(xs.drop c).any p=false:=by
 rw[List.any_eq_false]
 intro x hx
 rw[List.mem_drop_iff_getElem]at hx
 obtain⟨i,hi,rfl⟩:=hx
 have:=h (c+i) oz oz
 simp only[ge,List.getD_eq_getElem?_getD,List.getElem?_eq_getElem (show c+i<xs.length by omega),Option.getD_some]at this
 simpa [Nat.add_comm]using this
theorem ZjN:∀(xs ys:List BA),Zen xs ys≤ys.length
 | [],_=>by simp[Zen]
 | _::_,[]=>by simp[Zen]
 | x::xs,y::ys=>by
  simp only[Zen,List.length_cons]
  have:=ZjN xs ys
  split<;>omega
def ordB (d:Db) (k:Nat) (f:Fr):Bool:=(((YZ f.hyps).map Hy.label).drop (Zen (Zj5 d k) ((YZ f.hyps).map Hy.label))).any (hyL d k)
theorem ZgZ {p:Prop} [Decidable p] (h:(!decide p)=true):¬ p:=by simpa using h
theorem Zt8 {p:Prop} [Decidable p] (h:(!decide p)=false):p:=by simpa using h
def Zda (d:Db) (k:Nat) (f:Fr):Int:=
 if !QK f.label then 2 else if(frL d k f.label||hyL d k f.label)||Zdv d f.label then 6
 else if decide (40< ((f.hyps.length:Nat):Int))||decide (40< ((f.dummies.length:Nat):Int))then 4
 else if !decide (ZmV d k=0)then ZmV d k
 else if decide (((f.text.length:Nat):Int)=0)||decide (200< ((f.text.length:Nat):Int))then 2
 else if !decide (Zbu d f.text=0)then Zbu d f.text
 else if !Zed d f then 70
 else if(decide (0< ((f.proof.length:Nat):Int))&& !f.thm)||decide (8000< ((f.proof.length:Nat):Int))then 2
 else if !f.proof.all Y6 then 2
 else if ordB d k f then 7 else 0
def frE (d:Db) (k:Nat):Int:=Zda d k (ge d.frames k)
theorem Zg9 {d:Db} {k:Nat} (h:frE d k=0):(ge d.frames k).hyps.length≤40∧(ge d.frames k).dummies.length≤40:=by
 rw[frE,Zda]at h
 split at h
 · simp at h
 split at h
 · simp at h
 split at h
 · simp at h
 rename_i h0
 simp at h0
 omega
def ZfQ (d:Db) (i:Nat):Int:=if !ZgH (ge d.consts i)then 2 else if decide (ge d.consts i∈d.consts.take i)then 6 else 0
def ZgC (d:Db) (i:Nat):Int:=if !ZgH (ge d.vars i)then 2 else if decide (ge d.vars i∈d.consts)||decide (ge d.vars i∈d.vars.take i)then 6 else 0
def Zbr (d:Db):Int:=if !decide (Xz d.consts.length (ZfQ d)=0)then Xz d.consts.length (ZfQ d)else Xz d.vars.length (ZgC d)
def Zaz (d:Db):Int:=
 if(decide (400< ((d.frames.length:Nat):Int))||decide (8000< ((d.consts.length:Nat):Int)))||decide (8000< ((d.vars.length:Nat):Int))then 8
 else if !decide (Zbr d=0)then Zbr d else Xz d.frames.length (frE d)
end Go.Proofs.YtneapgbkkkjagaaGreatDoor
