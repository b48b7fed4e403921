/-
  INTEGERS AND STEPS THAT LIE SOMEWHERE: their parts.
-/
import Derived.Test.YtaigaoflehfdcaaGreatDoorZGAD
import Derived.Test.YtaigaoflehfdcaaGreatDoorZGAF
import Derived.Test.YtaigaoflehfdcaaGreatDoorZGAG
import Derived.BigRegion
import Derived.BigGuard
namespace Go.Proofs.YtaigaoflehfdcaaGreatDoor
open Go.RowKit Go.Shelf
theorem IsInts.form {S:Nat→Prop} {w:World} {v:Value} {xs:List Int} (h:IsInts S w v xs):∃ a c,v= .slice a xs.length c:=by
 obtain⟨a,c,hv,_⟩:=h
 exact⟨a,c,hv⟩
theorem IsInts.at {S:Nat→Prop} {w:World} {a:Option Addr} {n c:Nat} {xs:List Int} (h:IsInts S w (.slice a n c) xs) {k:Nat} (hk:k<xs.length):∃ b off,a=some ⟨b,off,none⟩∧w.cell? ⟨b,off+k,none⟩=some (.int .i64 xs[k]):=by
 obtain⟨_,_,he,_,_,h⟩:=h
 cases he
 rcases h with⟨h,_⟩ | ⟨b,off,rfl,_,_,hc⟩
 · rw[h]at hk;simp at hk
 · exact⟨b,off,rfl,hc k hk⟩
theorem IsSteps.form {S:Nat→Prop} {w:World} {v:Value} {ss:List Stp} (h:IsSteps S w v ss):∃ a c,v= .slice a ss.length c:=by
 obtain⟨a,c,hv,_⟩:=h
 exact⟨a,c,hv⟩
theorem IsSteps.at {S:Nat→Prop} {w:World} {a:Option Addr} {n c:Nat} {ss:List Stp} (h:IsSteps S w (.slice a n c) ss) {k:Nat} (hk:k<ss.length):
 ∃ b off va,a=some ⟨b,off,none⟩∧w.cell? ⟨b,off+k*2,none⟩=some (.string ss[k].label)∧w.cell? ⟨b,off+k*2+1,none⟩=some va∧IsInts S w va ss[k].args:=by
 obtain⟨_,_,he,_,h⟩:=h
 cases he
 rcases h with⟨h,_⟩ | ⟨b,off,rfl,_,_,hc⟩
 · rw[h]at hk;simp at hk
 · obtain⟨h1,va,h2,h3⟩:=hc k hk
   exact⟨b,off,va,rfl,h1,h2,h3⟩
theorem Zdi {α:Type} [DecidableEq α] {xs ys:List α} {k:Nat} (h1:k<xs.length) (h2:k<ys.length) (h:xs.take k=ys.take k) (he:xs[k]=ys[k]):xs.take (k+1)=ys.take (k+1):=by
 rw[List.take_succ_eq_append_getElem h1,List.take_succ_eq_append_getElem h2,h,he]
theorem toListInj {a b:ByteArray}:a.toList=b.toList↔a=b:=by
 have h:=Zh9 a b
 constructor
 · intro e
   rw[e]at h
   simp at h
   exact h
 · intro e;rw[e]
theorem Stp.ext' {s t:Stp} (h1:s.label=t.label) (h2:s.args=t.args):s=t:=by
 cases s;cases t;simp_all
instance:DecidableEq Stp:=fun s t=>if h1:s.label=t.label then(if h2:s.args=t.args then .isTrue (Stp.ext' h1 h2)else .isFalse fun h=>h2 (by rw[h]))else .isFalse fun h=>h1 (by rw[h])
end Go.Proofs.YtaigaoflehfdcaaGreatDoor
