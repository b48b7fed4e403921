/-
  WHAT STAYS TRUE WHILE ALL THAT LIES IS KEPT: facts of a world that are carried on together.
-/
import Derived.Test.YtcbmljfgmeeadaaDoorBlk
namespace Go.Proofs.YtcbmljfgmeeadaaDoor
open Go.RowKit

/-- P holds from the world A on, as long as all that lies is kept. -/
def Kept (P : World → Prop) (A : World) : Prop := ∀ B, Keeps All A B → P B
theorem Kept.now {P : World → Prop} {A : World} (h : Kept P A) : P A := h A (Keeps.refl _ _)
theorem Kept.on {P : World → Prop} {A B : World} (h : Kept P A) (hk : Keeps All A B) : Kept P B := fun C hc => h C (hk.trans hc)
theorem Kept.and {P Q : World → Prop} {A : World} (h : Kept P A) (k : Kept Q A) : Kept (fun W => P W ∧ Q W) A := fun B hk => ⟨h B hk, k B hk⟩
theorem Kept.mono {P Q : World → Prop} {A : World} (h : Kept P A) (f : ∀ W, P W → Q W) : Kept Q A := fun B hk => f B (h B hk)
theorem IsRow.kept {A : World} {b : Nat} {e : TypeId} {vs : List Value} (h : IsRow A b e vs) : Kept (fun W => IsRow W b e vs) A := fun _ hk => h.keep hk trivial
theorem IsProof.kept {A : World} {v : Value} {ss : List Stp} (h : IsProof All A v ss) : Kept (fun W => IsProof All W v ss) A := fun _ hk => h.keep hk fun _ _ h => h
theorem IsSteps.kept {A : World} {v : Value} {ss : List Stp} (h : IsSteps All A v ss) : Kept (fun W => IsSteps All W v ss) A := fun _ hk => h.keep hk fun _ _ h => h
theorem IsInts.kept {A : World} {v : Value} {xs : List Int} (h : IsInts All A v xs) : Kept (fun W => IsInts All W v xs) A := fun _ hk => h.keep hk fun _ _ h => h
theorem Keeps.kept {A B : World} (h : Keeps All A B) : Kept (fun W => Keeps All A W) B := fun _ hk => h.trans hk

end Go.Proofs.YtcbmljfgmeeadaaDoor
