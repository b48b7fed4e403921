/-
  THE CARD OF MinimizeApplies: the statement MinimizeApplies returns true for every input, and each argument reads as it did. Conditions: none.
-/
import Derived.Test.YtdfadihhfppjaaaGreatDoorCards
import Derived.Test.YtdfadihhfppjaaaGreatDoorBDAD
import Derived.Stop.LaidErr
namespace Go.Proofs.YtdfadihhfppjaaaGreatDoor.minimizeApplies
open Go.ChangeShapes Go.WideShapes Go.ChangeAt Go.RowKit
theorem own:ownKnob Tryz.prog.godebug=none:=by kernel_rfl
theorem table {W:World} (h:laidMetH Tryz.prog Rows.minimizeAppliesRow.laid W):qR W:=ND h
set_option maxRecDepth 100000 in
theorem Ln (H:Type) (enc:TypeId×Value -> H) (W:World) (base:Nat) (args:Array Value) (ds gs:List (DataW H)) (before:List MemPlace)
 (ei:∀(j:Nat) t v,Tryz.f3.params[j]?=some t -> args[j]?=some v -> Value.okWide Tryz.prog W .any base t v)
 (hW:DataW.Whole enc Tryz.prog Tryz.f3.params.toList Rows.minimizeAppliesSpec.vars false W args.toList ds gs before)
 (hz:(DataW.weightsEach Tryz.prog (Tryz.f3.params.toList++[]) (ds++gs)).all (· <=reachBytes)=true) (hL:laidMetH Tryz.prog Rows.minimizeAppliesRow.laid W):
 Calls Tryz.prog 3 args W λe W'=>∃ v,e= .returned v/\ Rows.minimizeAppliesSpec.post enc Tryz.prog Tryz.f3 false true false false W args v W':=by
 have hW':=hW
 obtain⟨p,q,hA,hV,rfl,wi,d7⟩:=hW
 rw[Tryz.params3]at hA ei hz
 obtain⟨v0,XC,d0,ds0,p0,q0,hargs,rfl,rfl,h0,r0⟩:=trodAll_cons hA
 obtain⟨v1,vs1,d1,ds1,p1,q1,rfl,rfl,rfl,h1,r1⟩:=trodAll_cons r0
 obtain⟨v2,vs2,d2,WV,p2,q2,rfl,rfl,rfl,h2,r2⟩:=trodAll_cons r1
 obtain⟨v3,vs3,d3,ds3,p3,q3,rfl,rfl,rfl,h3,r3⟩:=trodAll_cons r2
 obtain⟨rfl,rfl,rfl⟩:=trodAll_nil r3
 obtain rfl:args= #[v0,v1,v2,v3]:=by cases args;simp_all
 obtain⟨rfl,rfl⟩:=trodVars_none hV
 have lq:qV 25 d0:=by
  intro x Z
  have h:=List.all_eq_true.1 hz x (by simp only[List.append_nil,DataW.weightsEach,List.mem_append];exact Or.inl Z)
  simpa using h
 obtain⟨d,mO,bv⟩:=Rk (ei 0 25 v0 rfl rfl) h0 lq
 obtain⟨n1,rfl,_,_,Xe⟩:=open_int Tryz.underlying3 (ei 1 3 v1 rfl rfl) h1
 have Ah:Rel All W (.int n1) (.int .i64 n1):=Rel.aG _
 have nT:qV 28 d2:=by
  intro x Z
  have h:=List.all_eq_true.1 hz x (by simp only[List.append_nil,DataW.weightsEach,List.mem_append];exact Or.inr (Or.inr (Or.inl Z)))
  simpa using h
 obtain⟨ss2,fb⟩:=Rl (ei 2 28 v2 rfl rfl) h2 nT
 have Px:qV 31 d3:=by
  intro x Z
  have h:=List.all_eq_true.1 hz x (by simp only[List.append_nil,DataW.weightsEach,List.mem_append];exact Or.inr (Or.inr (Or.inr (Z))))
  simpa using h
 obtain⟨c3,ed⟩:=Rj (ei 3 31 v3 rfl rfl) h3 Px
 have hw:∀ f∈d.ab,f.wide.length*32<=140737488351232:=λf hf=>(bv.frame f hf).wide.1
 have OL:=P5 NC d n1 ss2 c3 hw NB All W [v0,.int .i64 n1,v2,v3] (λ_ _=>trivial) (table hL) (aq mO (aq Ah (aq fb (aq ed aP))))
 refine OL.mono λe W' ⟨v,he,p7,hk,_⟩=>?_
 obtain rfl:=p7.lit
 subst he
 refine⟨_,rfl,P6 hW' rfl (by kernel_rfl) rfl ?_ hk⟩
 intro t ht
 rw[Tryz.params3]at ht
 have Ak:t=25∨t=3∨t=28∨t=31:=by simpa using ht
 rcases Ak with rfl | rfl | rfl | rfl
 · exact⟨by kernel_rfl,of_decide_eq_true (by kernel_rfl)⟩
 · exact⟨by kernel_rfl,of_decide_eq_true (by kernel_rfl)⟩
 · exact⟨by kernel_rfl,of_decide_eq_true (by kernel_rfl)⟩
 · exact⟨by kernel_rfl,of_decide_eq_true (by kernel_rfl)⟩
def Tg (cs:Array Value):Obj -> Obj
 | .cells _ t frozen=>.cells cs t frozen
 | o=>o
def Ue:Array Value:= #[.string ⟨#[]⟩,.bool false,.int .i64 0,.int .i64 0,.string ⟨#[36,99]⟩,.bool false,.int .i64 1,.int .i64 200,.string ⟨#[36,118]⟩,.bool false,.int .i64 1,.int .i64 200,.string ⟨#[36,102]⟩,.bool true,.int .i64 2,.int .i64 2,.string ⟨#[36,101]⟩,.bool true,.int .i64 1,.int .i64 200,.string ⟨#[36,100]⟩,.bool false,.int .i64 1,.int .i64 200,.string ⟨#[36,97]⟩,.bool true,.int .i64 1,.int .i64 200,.string ⟨#[36,112]⟩,.bool true,.int .i64 1,.int .i64 200,.string ⟨#[36,123]⟩,.bool false,.int .i64 0,.int .i64 0,.string ⟨#[36,125]⟩,.bool false,.int .i64 0,.int .i64 0]
noncomputable def P2 (os:Os):Array Obj:=(World.holding Tryz.prog os ⟨#[], #[],[]⟩).heap.modify 1 (Tg Ue)
noncomputable def Ax (os:Os):World:= { World.holding Tryz.prog os ⟨#[], #[],[]⟩with heap:=P2 os }
theorem P3 (os:Os):laidMet Tryz.prog Rows.minimizeAppliesRow.laid ((Ax os).forCall (λ_ _=>0) ⟨#[], #[.agg #[.slice none 0 0,.slice none 0 0,.slice none 0 0],.int .i64 0,.agg #[.slice none 0 0],.agg #[.int .i64 0,.int .i64 0,.string ⟨#[]⟩,.slice none 0 0,.int .i64 0,.int .i64 0]],[]⟩).memory:=
 laidMet_of_run' 80 (by kernel_rfl) (by kernel_rfl)
theorem reads (os:Os) {H:Type} (enc:TypeId×Value -> H):∃ places,DataW.whole enc Tryz.prog ((Ax os).forCall (λ_ _=>0) ⟨#[], #[.agg #[.slice none 0 0,.slice none 0 0,.slice none 0 0],.int .i64 0,.agg #[.slice none 0 0],.agg #[.int .i64 0,.int .i64 0,.string ⟨#[]⟩,.slice none 0 0,.int .i64 0,.int .i64 0]],[]⟩).memory Tryz.f3.params.toList Rows.minimizeAppliesSpec.vars false (#[.agg #[.slice none 0 0,.slice none 0 0,.slice none 0 0],.int .i64 0,.agg #[.slice none 0 0],.agg #[.int .i64 0,.int .i64 0,.string ⟨#[]⟩,.slice none 0 0,.int .i64 0,.int .i64 0]]:Array Value).toList 8=some ([.agg [.nil,.nil,.nil],.lit (.int .i64 0),.agg [.nil],.agg [.lit (.int .i64 0),.lit (.int .i64 0),.lit (.string []),.nil,.lit (.int .i64 0),.lit (.int .i64 0)]],[],places):=
 ⟨[],by kernel_rfl⟩
set_option maxRecDepth 100000 in
theorem Qb (os:Os) (started:os.Started) (H:Type) (enc:TypeId×Value -> H) (F:Stop.Interp):
 ReturnsInHanded {} Tryz.checked os 3 .any ((OpenSpec.ofChange Rows.minimizeAppliesSpec).preRow enc Tryz.prog Tryz.f3 Rows.minimizeAppliesRow.domain false Rows.minimizeAppliesRow.laid) (((OpenSpec.ofChange Rows.minimizeAppliesSpec).at F).post enc Tryz.prog Tryz.f3 false true false false):=by
 obtain⟨places,Z⟩:=reads os enc
 refine returnsInHanded_of_row (C:=Tryz.checked) (s:=OpenSpec.ofChange Rows.minimizeAppliesSpec) own started (by kernel_rfl) Tryz.func3
  (witness_row_at (enc:=enc) (C:=Tryz.checked) false (Ax os) #[.agg #[.slice none 0 0,.slice none 0 0,.slice none 0 0],.int .i64 0,.agg #[.slice none 0 0],.agg #[.int .i64 0,.int .i64 0,.string ⟨#[]⟩,.slice none 0 0,.int .i64 0,.int .i64 0]] rfl (by kernel_rfl) (by kernel_rfl) (by kernel_rfl)
   (OpenSpec.preRow_of_cond 8 Z (by kernel_rfl) (λk hk=>by cases hk) (by kernel_rfl) (P3 os))) ?_
 intro W base args ds gs before ei hW _ _ hz hL _ _
 exact Ln H enc W base args ds gs before ei hW hz hL
set_option maxHeartbeats 4000000 in
theorem facts:joinedFacts Tryz.pinned.checked.prog 3 Tryz.f3 (OpenSpec.ofChange Rows.minimizeAppliesSpec).bare Rows.minimizeAppliesRow=true:=by
 unfold joinedFacts
 simp only[Bool.and_eq_true]
 repeat' apply And.intro
 all_goals (as_aux_lemma=>kernel_rfl)
theorem Ut:Rows.MinimizeAppliesSaid:=
 OpenClaim.holds_of_cond 3 Tryz.f3 rfl rfl rfl rfl rfl rfl rfl ⟨rfl,rfl,rfl,rfl,rfl⟩ rfl rfl rfl rfl rfl (by as_aux_lemma=>kernel_rfl) Tryz.func3 facts
  (of_decide_eq_true (by as_aux_lemma=>kernel_rfl)) (by unfold Func.isWrapper;first | (rw[if_pos (by decide+kernel)];kernel_rfl) | (rw[if_neg (by decide+kernel)];exact⟨rfl,rfl⟩))
  (λos started H enc _ F=>by rw[OpenClaim.pre_eq_preRow];exact Qb os started H enc F)
theorem plain (f:FuncId) (fn:Func) (hf:Tryz.pinned.checked.prog.funcNamed "apodixis/apodixislaw24.MinimizeApplies" =some f) (hfn:Tryz.pinned.checked.prog.funcs[f]?=some fn):
 false=Tryz.pinned.checked.prog.looks []/\ ∀(j:Nat) t,fn.params[j]?=some t -> Tryz.pinned.checked.prog.wantsStandIn t=false:=by
 obtain rfl:f=3:=Option.some.inj ((show Tryz.prog.funcNamed "apodixis/apodixislaw24.MinimizeApplies" =some 3 by kernel_rfl).symm.trans hf) |>.symm
 obtain rfl:fn=Tryz.f3:=(Option.some.inj (Tryz.func3.symm.trans hfn)).symm
 refine⟨by kernel_rfl,λj t ht=>?_⟩
 rw[Tryz.params3]at ht
 have Ak:t=25∨t=3∨t=28∨t=31:=by simpa using Array.mem_of_getElem? ht
 rcases Ak with rfl | rfl | rfl | rfl
 · exact(show Tryz.prog.wantsStandIn 25=false by kernel_rfl)
 · exact(show Tryz.prog.wantsStandIn 3=false by kernel_rfl)
 · exact(show Tryz.prog.wantsStandIn 28=false by kernel_rfl)
 · exact(show Tryz.prog.wantsStandIn 31=false by kernel_rfl)
theorem card:Rows.MinimizeAppliesCardSaid:=
 Claim7.holds_tied_plain_at .later [] _ _ _ _ Ut (λ_ h=>by cases h) (by as_aux_lemma=>kernel_rfl) (λ_ h=>by cases h) minimizeApplies_row_tie rfl ⟨rfl,rfl⟩ (by as_aux_lemma=>kernel_rfl) rfl plain (by as_aux_lemma=>kernel_rfl)
end Go.Proofs.YtdfadihhfppjaaaGreatDoor.minimizeApplies
